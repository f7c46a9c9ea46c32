/- Lemmas for the proof, no statement of the seat; no conditions. -/
import Derived.Test.YtffammdakbbanaaDoorLayAI
import Derived.Test.YtffammdakbbanaaDoorProg
import Derived.Below
import Derived.WalkKit
section
namespace Go.Av.F
open Go.Av
theorem tt2 : ttOf Go.Proofs.Tryd.prog 2 = some ⟨(.int .i64), 1, 8, [.int .i64 (0)]⟩ := by kernel_rfl
theorem tt3 : ttOf Go.Proofs.Tryd.prog 3 = some ⟨(.int .i64), 1, 8, [.int .i64 (0)]⟩ := by kernel_rfl
theorem tt4 : ttOf Go.Proofs.Tryd.prog 4 = some ⟨.bool, 1, 1, [.bool false]⟩ := by kernel_rfl
theorem tt5 : ttOf Go.Proofs.Tryd.prog 5 = some ⟨(.int .u8), 1, 1, [.int .u8 (0)]⟩ := by kernel_rfl
theorem tt6 : ttOf Go.Proofs.Tryd.prog 6 = some ⟨(.int .u8), 1, 1, [.int .u8 (0)]⟩ := by kernel_rfl
theorem tt7 : ttOf Go.Proofs.Tryd.prog 7 = some ⟨(.srt [(0, 2), (1, 3), (2, 4), (3, 6)]), 4, 24, [.int .i64 (0), .int .i64 (0), .bool false, .int .u8 (0)]⟩ := by kernel_rfl
theorem tt8 : ttOf Go.Proofs.Tryd.prog 8 = some ⟨(.srt [(0, 2), (1, 3), (2, 4), (3, 6)]), 4, 24, [.int .i64 (0), .int .i64 (0), .bool false, .int .u8 (0)]⟩ := by kernel_rfl
theorem tt9 : ttOf Go.Proofs.Tryd.prog 9 = some ⟨.str, 1, 16, [.str []]⟩ := by kernel_rfl
theorem tt10 : ttOf Go.Proofs.Tryd.prog 10 = some ⟨.str, 1, 16, [.str []]⟩ := by kernel_rfl
theorem tt11 : ttOf Go.Proofs.Tryd.prog 11 = some ⟨.str, 1, 16, [.str []]⟩ := by kernel_rfl
theorem tt12 : ttOf Go.Proofs.Tryd.prog 12 = some ⟨(.int .u64), 1, 8, [.int .u64 (0)]⟩ := by kernel_rfl
theorem tt13 : ttOf Go.Proofs.Tryd.prog 13 = some ⟨(.srt [(0, 9), (1, 12)]), 2, 24, [.str [], .int .u64 (0)]⟩ := by kernel_rfl
theorem tt14 : ttOf Go.Proofs.Tryd.prog 14 = some ⟨(.srt [(0, 9), (1, 12)]), 2, 24, [.str [], .int .u64 (0)]⟩ := by kernel_rfl
theorem tt15 : ttOf Go.Proofs.Tryd.prog 15 = some ⟨(.ptr 183), 1, 8, [.nilp]⟩ := by kernel_rfl
theorem tt16 : ttOf Go.Proofs.Tryd.prog 16 = some ⟨(.ptr 186), 1, 8, [.nilp]⟩ := by kernel_rfl
theorem tt17 : ttOf Go.Proofs.Tryd.prog 17 = some ⟨(.ptr 194), 1, 8, [.nilp]⟩ := by kernel_rfl
theorem tt18 : ttOf Go.Proofs.Tryd.prog 18 = some ⟨(.srt [(0, 17)]), 1, 8, [.nilp]⟩ := by kernel_rfl
theorem tt19 : ttOf Go.Proofs.Tryd.prog 19 = some ⟨(.srt [(0, 17)]), 1, 8, [.nilp]⟩ := by kernel_rfl
theorem tt20 : ttOf Go.Proofs.Tryd.prog 20 = some ⟨.ifc, 1, 16, [.nili]⟩ := by kernel_rfl
theorem tt21 : ttOf Go.Proofs.Tryd.prog 21 = some ⟨(.int .i32), 1, 4, [.int .i32 (0)]⟩ := by kernel_rfl
theorem tt22 : ttOf Go.Proofs.Tryd.prog 22 = some ⟨(.slc 53), 1, 24, [.nils]⟩ := by kernel_rfl
theorem tt28 : ttOf Go.Proofs.Tryd.prog 28 = some ⟨(.slc 113), 1, 24, [.nils]⟩ := by kernel_rfl
theorem tt29 : ttOf Go.Proofs.Tryd.prog 29 = some ⟨(.srt [(0, 28)]), 1, 24, [.nils]⟩ := by kernel_rfl
theorem tt30 : ttOf Go.Proofs.Tryd.prog 30 = some ⟨(.srt [(0, 28)]), 1, 24, [.nils]⟩ := by kernel_rfl
theorem tt31 : ttOf Go.Proofs.Tryd.prog 31 = some ⟨(.slc 87), 1, 24, [.nils]⟩ := by kernel_rfl
theorem tt32 : ttOf Go.Proofs.Tryd.prog 32 = some ⟨(.srt [(0, 30), (1, 31), (2, 3)]), 3, 56, [.nils, .nils, .int .i64 (0)]⟩ := by kernel_rfl
theorem tt33 : ttOf Go.Proofs.Tryd.prog 33 = some ⟨(.srt [(0, 30), (1, 31), (2, 3)]), 3, 56, [.nils, .nils, .int .i64 (0)]⟩ := by kernel_rfl
theorem tt35 : ttOf Go.Proofs.Tryd.prog 35 = some ⟨(.slc 39), 1, 24, [.nils]⟩ := by kernel_rfl
theorem tt37 : ttOf Go.Proofs.Tryd.prog 37 = some ⟨(.slc 90), 1, 24, [.nils]⟩ := by kernel_rfl
theorem tt38 : ttOf Go.Proofs.Tryd.prog 38 = some ⟨(.srt [(0, 37)]), 1, 24, [.nils]⟩ := by kernel_rfl
theorem tt39 : ttOf Go.Proofs.Tryd.prog 39 = some ⟨(.srt [(0, 37)]), 1, 24, [.nils]⟩ := by kernel_rfl
theorem tt40 : ttOf Go.Proofs.Tryd.prog 40 = some ⟨(.srt [(0, 39), (1, 22), (2, 3)]), 3, 56, [.nils, .nils, .int .i64 (0)]⟩ := by kernel_rfl
theorem tt41 : ttOf Go.Proofs.Tryd.prog 41 = some ⟨(.srt [(0, 39), (1, 22), (2, 3)]), 3, 56, [.nils, .nils, .int .i64 (0)]⟩ := by kernel_rfl
theorem tt50 : ttOf Go.Proofs.Tryd.prog 50 = some ⟨(.slc 9), 1, 24, [.nils]⟩ := by kernel_rfl
theorem tt52 : ttOf Go.Proofs.Tryd.prog 52 = some ⟨(.srt [(0, 3), (1, 9), (2, 9), (3, 3), (4, 9)]), 5, 64, [.int .i64 (0), .str [], .str [], .int .i64 (0), .str []]⟩ := by kernel_rfl
theorem tt53 : ttOf Go.Proofs.Tryd.prog 53 = some ⟨(.srt [(0, 3), (1, 9), (2, 9), (3, 3), (4, 9)]), 5, 64, [.int .i64 (0), .str [], .str [], .int .i64 (0), .str []]⟩ := by kernel_rfl
theorem tt59 : ttOf Go.Proofs.Tryd.prog 59 = some ⟨.ifc, 1, 16, [.nili]⟩ := by kernel_rfl
theorem tt60 : ttOf Go.Proofs.Tryd.prog 60 = some ⟨.ifc, 1, 16, [.nili]⟩ := by kernel_rfl
theorem tt84 : ttOf Go.Proofs.Tryd.prog 84 = some ⟨(.slc 5), 1, 24, [.nils]⟩ := by kernel_rfl
theorem tt87 : ttOf Go.Proofs.Tryd.prog 87 = some ⟨(.srt [(0, 3), (1, 9), (2, 9), (3, 3), (4, 9)]), 5, 64, [.int .i64 (0), .str [], .str [], .int .i64 (0), .str []]⟩ := by kernel_rfl
theorem tt88 : ttOf Go.Proofs.Tryd.prog 88 = some ⟨(.arr 8 9), 8, 128, [.str [], .str [], .str [], .str [], .str [], .str [], .str [], .str []]⟩ := by kernel_rfl
theorem tt89 : ttOf Go.Proofs.Tryd.prog 89 = some ⟨(.srt [(0, 9), (1, 3), (2, 9), (3, 88)]), 11, 168, [.str [], .int .i64 (0), .str [], .str [], .str [], .str [], .str [], .str [], .str [], .str [], .str []]⟩ := by kernel_rfl
theorem tt90 : ttOf Go.Proofs.Tryd.prog 90 = some ⟨(.srt [(0, 9), (1, 3), (2, 9), (3, 88)]), 11, 168, [.str [], .int .i64 (0), .str [], .str [], .str [], .str [], .str [], .str [], .str [], .str [], .str []]⟩ := by kernel_rfl
theorem tt105 : ttOf Go.Proofs.Tryd.prog 105 = some ⟨(.int .i64), 1, 8, [.int .i64 (0)]⟩ := by kernel_rfl
theorem tt108 : ttOf Go.Proofs.Tryd.prog 108 = some ⟨(.ptr 132), 1, 8, [.nilp]⟩ := by kernel_rfl
theorem tt113 : ttOf Go.Proofs.Tryd.prog 113 = some ⟨(.srt [(0, 9), (1, 3), (2, 9), (3, 88)]), 11, 168, [.str [], .int .i64 (0), .str [], .str [], .str [], .str [], .str [], .str [], .str [], .str [], .str []]⟩ := by kernel_rfl
theorem tt119 : ttOf Go.Proofs.Tryd.prog 119 = some ⟨(.ptr 39), 1, 8, [.nilp]⟩ := by kernel_rfl
theorem tt121 : ttOf Go.Proofs.Tryd.prog 121 = some ⟨(.ptr 90), 1, 8, [.nilp]⟩ := by kernel_rfl
theorem tt127 : ttOf Go.Proofs.Tryd.prog 127 = some ⟨(.int .u64), 1, 8, [.int .u64 (0)]⟩ := by kernel_rfl
theorem tt128 : ttOf Go.Proofs.Tryd.prog 128 = some ⟨(.int .u64), 1, 8, [.int .u64 (0)]⟩ := by kernel_rfl
theorem tt131 : ttOf Go.Proofs.Tryd.prog 131 = some ⟨(.srt [(0, 9), (1, 9), (2, 60)]), 3, 48, [.str [], .str [], .nili]⟩ := by kernel_rfl
theorem tt132 : ttOf Go.Proofs.Tryd.prog 132 = some ⟨(.srt [(0, 9), (1, 9), (2, 60)]), 3, 48, [.str [], .str [], .nili]⟩ := by kernel_rfl
theorem tt134 : ttOf Go.Proofs.Tryd.prog 134 = some ⟨(.arr 24 5), 24, 24, [.int .u8 (0), .int .u8 (0), .int .u8 (0), .int .u8 (0), .int .u8 (0), .int .u8 (0), .int .u8 (0), .int .u8 (0), .int .u8 (0), .int .u8 (0), .int .u8 (0), .int .u8 (0), .int .u8 (0), .int .u8 (0), .int .u8 (0), .int .u8 (0), .int .u8 (0), .int .u8 (0), .int .u8 (0), .int .u8 (0), .int .u8 (0), .int .u8 (0), .int .u8 (0), .int .u8 (0)]⟩ := by kernel_rfl
theorem tt146 : ttOf Go.Proofs.Tryd.prog 146 = some ⟨(.arr 256 4), 256, 256, List.replicate 256 (.bool false)⟩ := by kernel_rfl
theorem tt147 : ttOf Go.Proofs.Tryd.prog 147 = some ⟨(.arr 256 4), 256, 256, List.replicate 256 (.bool false)⟩ := by kernel_rfl
theorem tt151 : ttOf Go.Proofs.Tryd.prog 151 = some ⟨(.ptr 147), 1, 8, [.nilp]⟩ := by kernel_rfl
theorem tt156 : ttOf Go.Proofs.Tryd.prog 156 = some ⟨(.int .u32), 1, 4, [.int .u32 (0)]⟩ := by kernel_rfl
theorem tt160 : ttOf Go.Proofs.Tryd.prog 160 = some ⟨(.ptr 5), 1, 8, [.nilp]⟩ := by kernel_rfl
theorem tt161 : ttOf Go.Proofs.Tryd.prog 161 = some ⟨(.ptr 163), 1, 8, [.nilp]⟩ := by kernel_rfl
theorem tt162 : ttOf Go.Proofs.Tryd.prog 162 = some ⟨(.srt [(0, 9)]), 1, 16, [.str []]⟩ := by kernel_rfl
theorem tt163 : ttOf Go.Proofs.Tryd.prog 163 = some ⟨(.srt [(0, 9)]), 1, 16, [.str []]⟩ := by kernel_rfl
theorem tt165 : ttOf Go.Proofs.Tryd.prog 165 = some ⟨(.arr 20 128), 20, 160, [.int .u64 (0), .int .u64 (0), .int .u64 (0), .int .u64 (0), .int .u64 (0), .int .u64 (0), .int .u64 (0), .int .u64 (0), .int .u64 (0), .int .u64 (0), .int .u64 (0), .int .u64 (0), .int .u64 (0), .int .u64 (0), .int .u64 (0), .int .u64 (0), .int .u64 (0), .int .u64 (0), .int .u64 (0), .int .u64 (0)]⟩ := by kernel_rfl
theorem tt166 : ttOf Go.Proofs.Tryd.prog 166 = some ⟨(.arr 65 5), 65, 65, List.replicate 65 (.int .u8 (0))⟩ := by kernel_rfl
theorem tt171 : ttOf Go.Proofs.Tryd.prog 171 = some ⟨(.arr 256 5), 256, 256, List.replicate 256 (.int .u8 (0))⟩ := by kernel_rfl
theorem tt172 : ttOf Go.Proofs.Tryd.prog 172 = some ⟨(.srt [(0, 5), (1, 5)]), 2, 2, [.int .u8 (0), .int .u8 (0)]⟩ := by kernel_rfl
theorem tt173 : ttOf Go.Proofs.Tryd.prog 173 = some ⟨(.srt [(0, 5), (1, 5)]), 2, 2, [.int .u8 (0), .int .u8 (0)]⟩ := by kernel_rfl
theorem tt174 : ttOf Go.Proofs.Tryd.prog 174 = some ⟨(.arr 16 173), 32, 32, [.int .u8 (0), .int .u8 (0), .int .u8 (0), .int .u8 (0), .int .u8 (0), .int .u8 (0), .int .u8 (0), .int .u8 (0), .int .u8 (0), .int .u8 (0), .int .u8 (0), .int .u8 (0), .int .u8 (0), .int .u8 (0), .int .u8 (0), .int .u8 (0), .int .u8 (0), .int .u8 (0), .int .u8 (0), .int .u8 (0), .int .u8 (0), .int .u8 (0), .int .u8 (0), .int .u8 (0), .int .u8 (0), .int .u8 (0), .int .u8 (0), .int .u8 (0), .int .u8 (0), .int .u8 (0), .int .u8 (0), .int .u8 (0)]⟩ := by kernel_rfl
theorem tt177 : ttOf Go.Proofs.Tryd.prog 177 = some ⟨(.arr 32 5), 32, 32, [.int .u8 (0), .int .u8 (0), .int .u8 (0), .int .u8 (0), .int .u8 (0), .int .u8 (0), .int .u8 (0), .int .u8 (0), .int .u8 (0), .int .u8 (0), .int .u8 (0), .int .u8 (0), .int .u8 (0), .int .u8 (0), .int .u8 (0), .int .u8 (0), .int .u8 (0), .int .u8 (0), .int .u8 (0), .int .u8 (0), .int .u8 (0), .int .u8 (0), .int .u8 (0), .int .u8 (0), .int .u8 (0), .int .u8 (0), .int .u8 (0), .int .u8 (0), .int .u8 (0), .int .u8 (0), .int .u8 (0), .int .u8 (0)]⟩ := by kernel_rfl
theorem tt178 : ttOf Go.Proofs.Tryd.prog 178 = some ⟨(.arr 64 5), 64, 64, List.replicate 64 (.int .u8 (0))⟩ := by kernel_rfl
theorem tt182 : ttOf Go.Proofs.Tryd.prog 182 = some ⟨(.srt [(0, 17), (1, 17), (2, 17), (3, 9)]), 4, 40, [.nilp, .nilp, .nilp, .str []]⟩ := by kernel_rfl
theorem tt183 : ttOf Go.Proofs.Tryd.prog 183 = some ⟨(.srt [(0, 17), (1, 17), (2, 17), (3, 9)]), 4, 40, [.nilp, .nilp, .nilp, .str []]⟩ := by kernel_rfl
theorem tt184 : ttOf Go.Proofs.Tryd.prog 184 = some ⟨(.arr 0 16), 0, 0, []⟩ := by kernel_rfl
theorem tt185 : ttOf Go.Proofs.Tryd.prog 185 = some ⟨(.srt [(0, 184)]), 0, 0, []⟩ := by kernel_rfl
theorem tt186 : ttOf Go.Proofs.Tryd.prog 186 = some ⟨(.srt [(0, 184)]), 0, 0, []⟩ := by kernel_rfl
theorem tt188 : ttOf Go.Proofs.Tryd.prog 188 = some ⟨(.int .u8), 1, 1, [.int .u8 (0)]⟩ := by kernel_rfl
theorem tt189 : ttOf Go.Proofs.Tryd.prog 189 = some ⟨(.int .u8), 1, 1, [.int .u8 (0)]⟩ := by kernel_rfl
theorem tt191 : ttOf Go.Proofs.Tryd.prog 191 = some ⟨(.int .i32), 1, 4, [.int .i32 (0)]⟩ := by kernel_rfl
theorem tt192 : ttOf Go.Proofs.Tryd.prog 192 = some ⟨(.int .i32), 1, 4, [.int .i32 (0)]⟩ := by kernel_rfl
theorem tt193 : ttOf Go.Proofs.Tryd.prog 193 = some ⟨(.srt [(0, 12), (1, 12), (2, 156), (3, 188), (4, 5), (5, 5), (6, 189), (7, 190), (8, 160), (9, 191), (10, 192)]), 11, 48, [.int .u64 (0), .int .u64 (0), .int .u32 (0), .int .u8 (0), .int .u8 (0), .int .u8 (0), .int .u8 (0), .top, .nilp, .int .i32 (0), .int .i32 (0)]⟩ := by kernel_rfl
theorem tt194 : ttOf Go.Proofs.Tryd.prog 194 = some ⟨(.srt [(0, 12), (1, 12), (2, 156), (3, 188), (4, 5), (5, 5), (6, 189), (7, 190), (8, 160), (9, 191), (10, 192)]), 11, 48, [.int .u64 (0), .int .u64 (0), .int .u32 (0), .int .u8 (0), .int .u8 (0), .int .u8 (0), .int .u8 (0), .top, .nilp, .int .i32 (0), .int .i32 (0)]⟩ := by kernel_rfl
end Go.Av.F
end
section
namespace Go.Av
open Go.RowKit
set_option linter.unusedSimpArgs false
set_option linter.unusedVariables false
def Old (w : World) (p : Addr) : Prop := p.block < w.heap.size
theorem old_cell {w : World} {p : Addr} {v : Value} (h : w.cell? p = some v) : Old w p := World.block_lt_of_cell? w _ h
theorem fr_below {F : Addr → Prop} {w w' : World} (h : Fr F w w') (hF : ∀ p, ¬ F p) : Below w.heap.size w w' := by
  refine ⟨h.os, h.tape, h.output, h.size, fun k hk => ?_⟩
  rcases h.blk k hk with e | ⟨c, c', ty, fz, h1, h2, h3, h4⟩
  · exact e
  · have : c' = c := Array.ext_getElem? fun i => h4 i (hF _)
    rw [h1, h2, this]
theorem calls_below {P : Program} {f : Nat} {args : List AV} {v : AV} {u : Value} (hb : hasBody P f = true) {W : World} {vs : Array Value} (hv : CRel W (Old W) noG args vs)
    (hu : ∀ (w : World) (Z : Addr → Prop) (γ : Gm) (x : Value), AVRel w Z γ v x → x = u) (hC : ACall P f args [] (fun r L' => r = v ∧ L' = []))
    (hgl : GlR W (Old W) := by intro g cs h; unfold gtab at h; cases h) :
    Calls P f vs W fun e w' => e = .returned u ∧ Below W.heap.size W w' := by
  have hno : ∀ p, ¬ Foot noG (hpOf []) p := fun p hp => by
    obtain ⟨id, o, r, h, _⟩ := hp
    simp at h
  have h := hC W (Old W) noG vs hv ⟨fun i x hx => by simp at hx, fun i j o1 o2 r1 r2 hne g1 => by simp at g1, fun i x rg hx => by simp at hx, fun p hp => hp, hgl⟩ (fun id r hr => by simp [noG] at hr)
  refine (h.calls hb).mono ?_
  rintro e w' ⟨x, r, L', Z', γ', rfl, ⟨rfl, rfl⟩, hx, _, hfr, _⟩
  exact ⟨by rw [hu _ _ _ _ hx], fr_below hfr hno⟩
theorem bool_only (b : Bool) : ∀ (w : World) (Z : Addr → Prop) (γ : Gm) (x : Value), AVRel w Z γ (.bool b) x → x = .bool b := fun w Z γ x h => by cases h; rfl
end Go.Av
end
