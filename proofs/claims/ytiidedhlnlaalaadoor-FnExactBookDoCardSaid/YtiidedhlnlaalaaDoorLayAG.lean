/- Lemmas for the proof, no statement of the seat; no conditions. -/
import Derived.Test.YtiidedhlnlaalaaDoorLayAF
import Derived.Test.YtiidedhlnlaalaaDoorProg
section
namespace Go.Av.F
open Go.Av
theorem tt2 : ttOf Go.Proofs.Tryd.prog 2 = some ⟨(.int .i64), 1, 8, [.int .i64 (0)]⟩ := by kernel_rfl
theorem tt3 : ttOf Go.Proofs.Tryd.prog 3 = some ⟨(.int .i64), 1, 8, [.int .i64 (0)]⟩ := by kernel_rfl
theorem tt4 : ttOf Go.Proofs.Tryd.prog 4 = some ⟨.bool, 1, 1, [.bool false]⟩ := by kernel_rfl
theorem tt5 : ttOf Go.Proofs.Tryd.prog 5 = some ⟨(.int .u8), 1, 1, [.int .u8 (0)]⟩ := by kernel_rfl
theorem tt6 : ttOf Go.Proofs.Tryd.prog 6 = some ⟨(.int .u8), 1, 1, [.int .u8 (0)]⟩ := by kernel_rfl
theorem tt7 : ttOf Go.Proofs.Tryd.prog 7 = some ⟨(.srt [(0, 2), (1, 3), (2, 4), (3, 6)]), 4, 24, [.int .i64 (0), .int .i64 (0), .bool false, .int .u8 (0)]⟩ := by kernel_rfl
theorem tt8 : ttOf Go.Proofs.Tryd.prog 8 = some ⟨(.srt [(0, 2), (1, 3), (2, 4), (3, 6)]), 4, 24, [.int .i64 (0), .int .i64 (0), .bool false, .int .u8 (0)]⟩ := by kernel_rfl
theorem tt9 : ttOf Go.Proofs.Tryd.prog 9 = some ⟨.str, 1, 16, [.str []]⟩ := by kernel_rfl
theorem tt10 : ttOf Go.Proofs.Tryd.prog 10 = some ⟨.str, 1, 16, [.str []]⟩ := by kernel_rfl
theorem tt11 : ttOf Go.Proofs.Tryd.prog 11 = some ⟨.str, 1, 16, [.str []]⟩ := by kernel_rfl
theorem tt12 : ttOf Go.Proofs.Tryd.prog 12 = some ⟨(.int .u64), 1, 8, [.int .u64 (0)]⟩ := by kernel_rfl
theorem tt13 : ttOf Go.Proofs.Tryd.prog 13 = some ⟨(.srt [(0, 9), (1, 12)]), 2, 24, [.str [], .int .u64 (0)]⟩ := by kernel_rfl
theorem tt14 : ttOf Go.Proofs.Tryd.prog 14 = some ⟨(.srt [(0, 9), (1, 12)]), 2, 24, [.str [], .int .u64 (0)]⟩ := by kernel_rfl
theorem tt15 : ttOf Go.Proofs.Tryd.prog 15 = some ⟨(.ptr 272), 1, 8, [.nilp]⟩ := by kernel_rfl
theorem tt16 : ttOf Go.Proofs.Tryd.prog 16 = some ⟨(.ptr 275), 1, 8, [.nilp]⟩ := by kernel_rfl
theorem tt17 : ttOf Go.Proofs.Tryd.prog 17 = some ⟨(.ptr 283), 1, 8, [.nilp]⟩ := by kernel_rfl
theorem tt18 : ttOf Go.Proofs.Tryd.prog 18 = some ⟨(.srt [(0, 17)]), 1, 8, [.nilp]⟩ := by kernel_rfl
theorem tt19 : ttOf Go.Proofs.Tryd.prog 19 = some ⟨(.srt [(0, 17)]), 1, 8, [.nilp]⟩ := by kernel_rfl
theorem tt20 : ttOf Go.Proofs.Tryd.prog 20 = some ⟨.ifc, 1, 16, [.nili]⟩ := by kernel_rfl
theorem tt21 : ttOf Go.Proofs.Tryd.prog 21 = some ⟨(.int .i32), 1, 4, [.int .i32 (0)]⟩ := by kernel_rfl
theorem tt22 : ttOf Go.Proofs.Tryd.prog 22 = some ⟨(.slc 5), 1, 24, [.nils]⟩ := by kernel_rfl
theorem tt23 : ttOf Go.Proofs.Tryd.prog 23 = some ⟨(.slc 35), 1, 24, [.nils]⟩ := by kernel_rfl
theorem tt24 : ttOf Go.Proofs.Tryd.prog 24 = some ⟨(.srt [(0, 23)]), 1, 24, [.nils]⟩ := by kernel_rfl
theorem tt25 : ttOf Go.Proofs.Tryd.prog 25 = some ⟨(.srt [(0, 23)]), 1, 24, [.nils]⟩ := by kernel_rfl
theorem tt26 : ttOf Go.Proofs.Tryd.prog 26 = some ⟨(.srt [(0, 3), (1, 9), (2, 9), (3, 3), (4, 9)]), 5, 64, [.int .i64 (0), .str [], .str [], .int .i64 (0), .str []]⟩ := by kernel_rfl
theorem tt27 : ttOf Go.Proofs.Tryd.prog 27 = some ⟨(.srt [(0, 3), (1, 9), (2, 9), (3, 3), (4, 9)]), 5, 64, [.int .i64 (0), .str [], .str [], .int .i64 (0), .str []]⟩ := by kernel_rfl
theorem tt33 : ttOf Go.Proofs.Tryd.prog 33 = some ⟨(.arr 8 9), 8, 128, [.str [], .str [], .str [], .str [], .str [], .str [], .str [], .str []]⟩ := by kernel_rfl
theorem tt34 : ttOf Go.Proofs.Tryd.prog 34 = some ⟨(.srt [(0, 9), (1, 3), (2, 9), (3, 33)]), 11, 168, [.str [], .int .i64 (0), .str [], .str [], .str [], .str [], .str [], .str [], .str [], .str [], .str []]⟩ := by kernel_rfl
theorem tt35 : ttOf Go.Proofs.Tryd.prog 35 = some ⟨(.srt [(0, 9), (1, 3), (2, 9), (3, 33)]), 11, 168, [.str [], .int .i64 (0), .str [], .str [], .str [], .str [], .str [], .str [], .str [], .str [], .str []]⟩ := by kernel_rfl
theorem tt42 : ttOf Go.Proofs.Tryd.prog 42 = some ⟨(.slc 9), 1, 24, [.nils]⟩ := by kernel_rfl
theorem tt45 : ttOf Go.Proofs.Tryd.prog 45 = some ⟨(.slc 27), 1, 24, [.nils]⟩ := by kernel_rfl
theorem tt46 : ttOf Go.Proofs.Tryd.prog 46 = some ⟨(.srt [(0, 25), (1, 45), (2, 3)]), 3, 56, [.nils, .nils, .int .i64 (0)]⟩ := by kernel_rfl
theorem tt47 : ttOf Go.Proofs.Tryd.prog 47 = some ⟨(.srt [(0, 25), (1, 45), (2, 3)]), 3, 56, [.nils, .nils, .int .i64 (0)]⟩ := by kernel_rfl
theorem tt49 : ttOf Go.Proofs.Tryd.prog 49 = some ⟨(.slc 25), 1, 24, [.nils]⟩ := by kernel_rfl
theorem tt51 : ttOf Go.Proofs.Tryd.prog 51 = some ⟨(.slc 177), 1, 24, [.nils]⟩ := by kernel_rfl
theorem tt52 : ttOf Go.Proofs.Tryd.prog 52 = some ⟨(.slc 185), 1, 24, [.nils]⟩ := by kernel_rfl
theorem tt53 : ttOf Go.Proofs.Tryd.prog 53 = some ⟨(.slc 174), 1, 24, [.nils]⟩ := by kernel_rfl
theorem tt54 : ttOf Go.Proofs.Tryd.prog 54 = some ⟨(.slc 3), 1, 24, [.nils]⟩ := by kernel_rfl
theorem tt55 : ttOf Go.Proofs.Tryd.prog 55 = some ⟨(.srt [(0, 3), (1, 51), (2, 52), (3, 53), (4, 4), (5, 54), (6, 3)]), 7, 120, [.int .i64 (0), .nils, .nils, .nils, .bool false, .nils, .int .i64 (0)]⟩ := by kernel_rfl
theorem tt56 : ttOf Go.Proofs.Tryd.prog 56 = some ⟨(.srt [(0, 3), (1, 51), (2, 52), (3, 53), (4, 4), (5, 54), (6, 3)]), 7, 120, [.int .i64 (0), .nils, .nils, .nils, .bool false, .nils, .int .i64 (0)]⟩ := by kernel_rfl
theorem tt59 : ttOf Go.Proofs.Tryd.prog 59 = some ⟨(.slc 126), 1, 24, [.nils]⟩ := by kernel_rfl
theorem tt60 : ttOf Go.Proofs.Tryd.prog 60 = some ⟨(.slc 113), 1, 24, [.nils]⟩ := by kernel_rfl
theorem tt61 : ttOf Go.Proofs.Tryd.prog 61 = some ⟨(.slc 123), 1, 24, [.nils]⟩ := by kernel_rfl
theorem tt62 : ttOf Go.Proofs.Tryd.prog 62 = some ⟨(.srt [(0, 3), (1, 59), (2, 60), (3, 61), (4, 4), (5, 54), (6, 3)]), 7, 120, [.int .i64 (0), .nils, .nils, .nils, .bool false, .nils, .int .i64 (0)]⟩ := by kernel_rfl
theorem tt63 : ttOf Go.Proofs.Tryd.prog 63 = some ⟨(.srt [(0, 3), (1, 59), (2, 60), (3, 61), (4, 4), (5, 54), (6, 3)]), 7, 120, [.int .i64 (0), .nils, .nils, .nils, .bool false, .nils, .int .i64 (0)]⟩ := by kernel_rfl
theorem tt73 : ttOf Go.Proofs.Tryd.prog 73 = some ⟨(.slc 196), 1, 24, [.nils]⟩ := by kernel_rfl
theorem tt74 : ttOf Go.Proofs.Tryd.prog 74 = some ⟨(.srt [(0, 73)]), 1, 24, [.nils]⟩ := by kernel_rfl
theorem tt75 : ttOf Go.Proofs.Tryd.prog 75 = some ⟨(.srt [(0, 73)]), 1, 24, [.nils]⟩ := by kernel_rfl
theorem tt76 : ttOf Go.Proofs.Tryd.prog 76 = some ⟨(.srt [(0, 3), (1, 9), (2, 9), (3, 3), (4, 9)]), 5, 64, [.int .i64 (0), .str [], .str [], .int .i64 (0), .str []]⟩ := by kernel_rfl
theorem tt88 : ttOf Go.Proofs.Tryd.prog 88 = some ⟨(.ptr 150), 1, 8, [.nilp]⟩ := by kernel_rfl
theorem tt112 : ttOf Go.Proofs.Tryd.prog 112 = some ⟨(.srt [(0, 3), (1, 3), (2, 3)]), 3, 24, [.int .i64 (0), .int .i64 (0), .int .i64 (0)]⟩ := by kernel_rfl
theorem tt113 : ttOf Go.Proofs.Tryd.prog 113 = some ⟨(.srt [(0, 3), (1, 3), (2, 3)]), 3, 24, [.int .i64 (0), .int .i64 (0), .int .i64 (0)]⟩ := by kernel_rfl
theorem tt122 : ttOf Go.Proofs.Tryd.prog 122 = some ⟨(.srt [(0, 3), (1, 3), (2, 3)]), 3, 24, [.int .i64 (0), .int .i64 (0), .int .i64 (0)]⟩ := by kernel_rfl
theorem tt123 : ttOf Go.Proofs.Tryd.prog 123 = some ⟨(.srt [(0, 3), (1, 3), (2, 3)]), 3, 24, [.int .i64 (0), .int .i64 (0), .int .i64 (0)]⟩ := by kernel_rfl
theorem tt124 : ttOf Go.Proofs.Tryd.prog 124 = some ⟨(.arr 8 123), 24, 192, [.int .i64 (0), .int .i64 (0), .int .i64 (0), .int .i64 (0), .int .i64 (0), .int .i64 (0), .int .i64 (0), .int .i64 (0), .int .i64 (0), .int .i64 (0), .int .i64 (0), .int .i64 (0), .int .i64 (0), .int .i64 (0), .int .i64 (0), .int .i64 (0), .int .i64 (0), .int .i64 (0), .int .i64 (0), .int .i64 (0), .int .i64 (0), .int .i64 (0), .int .i64 (0), .int .i64 (0)]⟩ := by kernel_rfl
theorem tt125 : ttOf Go.Proofs.Tryd.prog 125 = some ⟨(.srt [(0, 9), (1, 3), (2, 9), (3, 124), (27, 123), (30, 4)]), 31, 264, [.str [], .int .i64 (0), .str [], .int .i64 (0), .int .i64 (0), .int .i64 (0), .int .i64 (0), .int .i64 (0), .int .i64 (0), .int .i64 (0), .int .i64 (0), .int .i64 (0), .int .i64 (0), .int .i64 (0), .int .i64 (0), .int .i64 (0), .int .i64 (0), .int .i64 (0), .int .i64 (0), .int .i64 (0), .int .i64 (0), .int .i64 (0), .int .i64 (0), .int .i64 (0), .int .i64 (0), .int .i64 (0), .int .i64 (0), .int .i64 (0), .int .i64 (0), .int .i64 (0), .bool false]⟩ := by kernel_rfl
theorem tt126 : ttOf Go.Proofs.Tryd.prog 126 = some ⟨(.srt [(0, 9), (1, 3), (2, 9), (3, 124), (27, 123), (30, 4)]), 31, 264, [.str [], .int .i64 (0), .str [], .int .i64 (0), .int .i64 (0), .int .i64 (0), .int .i64 (0), .int .i64 (0), .int .i64 (0), .int .i64 (0), .int .i64 (0), .int .i64 (0), .int .i64 (0), .int .i64 (0), .int .i64 (0), .int .i64 (0), .int .i64 (0), .int .i64 (0), .int .i64 (0), .int .i64 (0), .int .i64 (0), .int .i64 (0), .int .i64 (0), .int .i64 (0), .int .i64 (0), .int .i64 (0), .int .i64 (0), .int .i64 (0), .int .i64 (0), .int .i64 (0), .bool false]⟩ := by kernel_rfl
theorem tt143 : ttOf Go.Proofs.Tryd.prog 143 = some ⟨.ifc, 1, 16, [.nili]⟩ := by kernel_rfl
theorem tt144 : ttOf Go.Proofs.Tryd.prog 144 = some ⟨.ifc, 1, 16, [.nili]⟩ := by kernel_rfl
theorem tt149 : ttOf Go.Proofs.Tryd.prog 149 = some ⟨(.srt [(0, 22), (1, 3)]), 2, 32, [.nils, .int .i64 (0)]⟩ := by kernel_rfl
theorem tt150 : ttOf Go.Proofs.Tryd.prog 150 = some ⟨(.srt [(0, 22), (1, 3)]), 2, 32, [.nils, .int .i64 (0)]⟩ := by kernel_rfl
theorem tt158 : ttOf Go.Proofs.Tryd.prog 158 = some ⟨(.ptr 25), 1, 8, [.nilp]⟩ := by kernel_rfl
theorem tt160 : ttOf Go.Proofs.Tryd.prog 160 = some ⟨(.ptr 35), 1, 8, [.nilp]⟩ := by kernel_rfl
theorem tt174 : ttOf Go.Proofs.Tryd.prog 174 = some ⟨(.srt [(0, 3), (1, 3), (2, 3)]), 3, 24, [.int .i64 (0), .int .i64 (0), .int .i64 (0)]⟩ := by kernel_rfl
theorem tt175 : ttOf Go.Proofs.Tryd.prog 175 = some ⟨(.arr 8 174), 24, 192, [.int .i64 (0), .int .i64 (0), .int .i64 (0), .int .i64 (0), .int .i64 (0), .int .i64 (0), .int .i64 (0), .int .i64 (0), .int .i64 (0), .int .i64 (0), .int .i64 (0), .int .i64 (0), .int .i64 (0), .int .i64 (0), .int .i64 (0), .int .i64 (0), .int .i64 (0), .int .i64 (0), .int .i64 (0), .int .i64 (0), .int .i64 (0), .int .i64 (0), .int .i64 (0), .int .i64 (0)]⟩ := by kernel_rfl
theorem tt176 : ttOf Go.Proofs.Tryd.prog 176 = some ⟨(.srt [(0, 9), (1, 3), (2, 9), (3, 175), (27, 174), (30, 4)]), 31, 264, [.str [], .int .i64 (0), .str [], .int .i64 (0), .int .i64 (0), .int .i64 (0), .int .i64 (0), .int .i64 (0), .int .i64 (0), .int .i64 (0), .int .i64 (0), .int .i64 (0), .int .i64 (0), .int .i64 (0), .int .i64 (0), .int .i64 (0), .int .i64 (0), .int .i64 (0), .int .i64 (0), .int .i64 (0), .int .i64 (0), .int .i64 (0), .int .i64 (0), .int .i64 (0), .int .i64 (0), .int .i64 (0), .int .i64 (0), .int .i64 (0), .int .i64 (0), .int .i64 (0), .bool false]⟩ := by kernel_rfl
theorem tt177 : ttOf Go.Proofs.Tryd.prog 177 = some ⟨(.srt [(0, 9), (1, 3), (2, 9), (3, 175), (27, 174), (30, 4)]), 31, 264, [.str [], .int .i64 (0), .str [], .int .i64 (0), .int .i64 (0), .int .i64 (0), .int .i64 (0), .int .i64 (0), .int .i64 (0), .int .i64 (0), .int .i64 (0), .int .i64 (0), .int .i64 (0), .int .i64 (0), .int .i64 (0), .int .i64 (0), .int .i64 (0), .int .i64 (0), .int .i64 (0), .int .i64 (0), .int .i64 (0), .int .i64 (0), .int .i64 (0), .int .i64 (0), .int .i64 (0), .int .i64 (0), .int .i64 (0), .int .i64 (0), .int .i64 (0), .int .i64 (0), .bool false]⟩ := by kernel_rfl
theorem tt185 : ttOf Go.Proofs.Tryd.prog 185 = some ⟨(.srt [(0, 3), (1, 3), (2, 3)]), 3, 24, [.int .i64 (0), .int .i64 (0), .int .i64 (0)]⟩ := by kernel_rfl
theorem tt196 : ttOf Go.Proofs.Tryd.prog 196 = some ⟨(.srt [(0, 9), (1, 3), (2, 9), (3, 33)]), 11, 168, [.str [], .int .i64 (0), .str [], .str [], .str [], .str [], .str [], .str [], .str [], .str [], .str []]⟩ := by kernel_rfl
theorem tt205 : ttOf Go.Proofs.Tryd.prog 205 = some ⟨(.int .u64), 1, 8, [.int .u64 (0)]⟩ := by kernel_rfl
theorem tt207 : ttOf Go.Proofs.Tryd.prog 207 = some ⟨(.arr 256 4), 256, 256, List.replicate 256 (.bool false)⟩ := by kernel_rfl
theorem tt208 : ttOf Go.Proofs.Tryd.prog 208 = some ⟨(.arr 256 4), 256, 256, List.replicate 256 (.bool false)⟩ := by kernel_rfl
theorem tt212 : ttOf Go.Proofs.Tryd.prog 212 = some ⟨(.ptr 208), 1, 8, [.nilp]⟩ := by kernel_rfl
theorem tt223 : ttOf Go.Proofs.Tryd.prog 223 = some ⟨(.int .i64), 1, 8, [.int .i64 (0)]⟩ := by kernel_rfl
theorem tt226 : ttOf Go.Proofs.Tryd.prog 226 = some ⟨(.ptr 241), 1, 8, [.nilp]⟩ := by kernel_rfl
theorem tt237 : ttOf Go.Proofs.Tryd.prog 237 = some ⟨(.int .u64), 1, 8, [.int .u64 (0)]⟩ := by kernel_rfl
theorem tt240 : ttOf Go.Proofs.Tryd.prog 240 = some ⟨(.srt [(0, 9), (1, 9), (2, 144)]), 3, 48, [.str [], .str [], .nili]⟩ := by kernel_rfl
theorem tt241 : ttOf Go.Proofs.Tryd.prog 241 = some ⟨(.srt [(0, 9), (1, 9), (2, 144)]), 3, 48, [.str [], .str [], .nili]⟩ := by kernel_rfl
theorem tt243 : ttOf Go.Proofs.Tryd.prog 243 = some ⟨(.arr 24 5), 24, 24, [.int .u8 (0), .int .u8 (0), .int .u8 (0), .int .u8 (0), .int .u8 (0), .int .u8 (0), .int .u8 (0), .int .u8 (0), .int .u8 (0), .int .u8 (0), .int .u8 (0), .int .u8 (0), .int .u8 (0), .int .u8 (0), .int .u8 (0), .int .u8 (0), .int .u8 (0), .int .u8 (0), .int .u8 (0), .int .u8 (0), .int .u8 (0), .int .u8 (0), .int .u8 (0), .int .u8 (0)]⟩ := by kernel_rfl
theorem tt249 : ttOf Go.Proofs.Tryd.prog 249 = some ⟨(.int .u32), 1, 4, [.int .u32 (0)]⟩ := by kernel_rfl
theorem tt253 : ttOf Go.Proofs.Tryd.prog 253 = some ⟨(.ptr 5), 1, 8, [.nilp]⟩ := by kernel_rfl
theorem tt254 : ttOf Go.Proofs.Tryd.prog 254 = some ⟨(.ptr 256), 1, 8, [.nilp]⟩ := by kernel_rfl
theorem tt255 : ttOf Go.Proofs.Tryd.prog 255 = some ⟨(.srt [(0, 9)]), 1, 16, [.str []]⟩ := by kernel_rfl
theorem tt256 : ttOf Go.Proofs.Tryd.prog 256 = some ⟨(.srt [(0, 9)]), 1, 16, [.str []]⟩ := by kernel_rfl
theorem tt258 : ttOf Go.Proofs.Tryd.prog 258 = some ⟨(.arr 20 237), 20, 160, [.int .u64 (0), .int .u64 (0), .int .u64 (0), .int .u64 (0), .int .u64 (0), .int .u64 (0), .int .u64 (0), .int .u64 (0), .int .u64 (0), .int .u64 (0), .int .u64 (0), .int .u64 (0), .int .u64 (0), .int .u64 (0), .int .u64 (0), .int .u64 (0), .int .u64 (0), .int .u64 (0), .int .u64 (0), .int .u64 (0)]⟩ := by kernel_rfl
theorem tt259 : ttOf Go.Proofs.Tryd.prog 259 = some ⟨(.arr 65 5), 65, 65, List.replicate 65 (.int .u8 (0))⟩ := by kernel_rfl
theorem tt262 : ttOf Go.Proofs.Tryd.prog 262 = some ⟨(.arr 256 5), 256, 256, List.replicate 256 (.int .u8 (0))⟩ := by kernel_rfl
theorem tt263 : ttOf Go.Proofs.Tryd.prog 263 = some ⟨(.srt [(0, 5), (1, 5)]), 2, 2, [.int .u8 (0), .int .u8 (0)]⟩ := by kernel_rfl
theorem tt264 : ttOf Go.Proofs.Tryd.prog 264 = some ⟨(.srt [(0, 5), (1, 5)]), 2, 2, [.int .u8 (0), .int .u8 (0)]⟩ := by kernel_rfl
theorem tt265 : ttOf Go.Proofs.Tryd.prog 265 = some ⟨(.arr 16 264), 32, 32, [.int .u8 (0), .int .u8 (0), .int .u8 (0), .int .u8 (0), .int .u8 (0), .int .u8 (0), .int .u8 (0), .int .u8 (0), .int .u8 (0), .int .u8 (0), .int .u8 (0), .int .u8 (0), .int .u8 (0), .int .u8 (0), .int .u8 (0), .int .u8 (0), .int .u8 (0), .int .u8 (0), .int .u8 (0), .int .u8 (0), .int .u8 (0), .int .u8 (0), .int .u8 (0), .int .u8 (0), .int .u8 (0), .int .u8 (0), .int .u8 (0), .int .u8 (0), .int .u8 (0), .int .u8 (0), .int .u8 (0), .int .u8 (0)]⟩ := by kernel_rfl
theorem tt268 : ttOf Go.Proofs.Tryd.prog 268 = some ⟨(.arr 32 5), 32, 32, [.int .u8 (0), .int .u8 (0), .int .u8 (0), .int .u8 (0), .int .u8 (0), .int .u8 (0), .int .u8 (0), .int .u8 (0), .int .u8 (0), .int .u8 (0), .int .u8 (0), .int .u8 (0), .int .u8 (0), .int .u8 (0), .int .u8 (0), .int .u8 (0), .int .u8 (0), .int .u8 (0), .int .u8 (0), .int .u8 (0), .int .u8 (0), .int .u8 (0), .int .u8 (0), .int .u8 (0), .int .u8 (0), .int .u8 (0), .int .u8 (0), .int .u8 (0), .int .u8 (0), .int .u8 (0), .int .u8 (0), .int .u8 (0)]⟩ := by kernel_rfl
theorem tt269 : ttOf Go.Proofs.Tryd.prog 269 = some ⟨(.arr 64 5), 64, 64, List.replicate 64 (.int .u8 (0))⟩ := by kernel_rfl
theorem tt271 : ttOf Go.Proofs.Tryd.prog 271 = some ⟨(.srt [(0, 17), (1, 17), (2, 17), (3, 9)]), 4, 40, [.nilp, .nilp, .nilp, .str []]⟩ := by kernel_rfl
theorem tt272 : ttOf Go.Proofs.Tryd.prog 272 = some ⟨(.srt [(0, 17), (1, 17), (2, 17), (3, 9)]), 4, 40, [.nilp, .nilp, .nilp, .str []]⟩ := by kernel_rfl
theorem tt273 : ttOf Go.Proofs.Tryd.prog 273 = some ⟨(.arr 0 16), 0, 0, []⟩ := by kernel_rfl
theorem tt274 : ttOf Go.Proofs.Tryd.prog 274 = some ⟨(.srt [(0, 273)]), 0, 0, []⟩ := by kernel_rfl
theorem tt275 : ttOf Go.Proofs.Tryd.prog 275 = some ⟨(.srt [(0, 273)]), 0, 0, []⟩ := by kernel_rfl
theorem tt277 : ttOf Go.Proofs.Tryd.prog 277 = some ⟨(.int .u8), 1, 1, [.int .u8 (0)]⟩ := by kernel_rfl
theorem tt278 : ttOf Go.Proofs.Tryd.prog 278 = some ⟨(.int .u8), 1, 1, [.int .u8 (0)]⟩ := by kernel_rfl
theorem tt280 : ttOf Go.Proofs.Tryd.prog 280 = some ⟨(.int .i32), 1, 4, [.int .i32 (0)]⟩ := by kernel_rfl
theorem tt281 : ttOf Go.Proofs.Tryd.prog 281 = some ⟨(.int .i32), 1, 4, [.int .i32 (0)]⟩ := by kernel_rfl
theorem tt282 : ttOf Go.Proofs.Tryd.prog 282 = some ⟨(.srt [(0, 12), (1, 12), (2, 249), (3, 277), (4, 5), (5, 5), (6, 278), (7, 279), (8, 253), (9, 280), (10, 281)]), 11, 48, [.int .u64 (0), .int .u64 (0), .int .u32 (0), .int .u8 (0), .int .u8 (0), .int .u8 (0), .int .u8 (0), .top, .nilp, .int .i32 (0), .int .i32 (0)]⟩ := by kernel_rfl
theorem tt283 : ttOf Go.Proofs.Tryd.prog 283 = some ⟨(.srt [(0, 12), (1, 12), (2, 249), (3, 277), (4, 5), (5, 5), (6, 278), (7, 279), (8, 253), (9, 280), (10, 281)]), 11, 48, [.int .u64 (0), .int .u64 (0), .int .u32 (0), .int .u8 (0), .int .u8 (0), .int .u8 (0), .int .u8 (0), .top, .nilp, .int .i32 (0), .int .i32 (0)]⟩ := by kernel_rfl
end Go.Av.F
end
