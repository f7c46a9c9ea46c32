/- Lemmas for the proof, no statement of the seat; no conditions. -/
import Derived.Test.YtiidedhlnlaalaaDoorLayAK
import Derived.ProofKit
import Derived.OpenShut
import Derived.ChangeArms
import Derived.DataReads
import Derived.Test.YtiidedhlnlaalaaDoorProg
section
namespace Go.Av
open Go.RowKit Go.ChangeShapes Go.WideShapes Go.ChangeAt
set_option linter.unusedSimpArgs false
set_option linter.unusedVariables false
def plainFs (P : Program) (g : TypeId → Bool) : List Field → Nat → Nat → Bool
  | [], off, total => off == total
  | f :: r, off, total => f.offset == off && g f.type && plainFs P g r (off + P.cellsOf f.type) total
def plainT (P : Program) : Nat → TypeId → Bool
  | 0, _ => false
  | n + 1, t => match P.underlying t with
    | some .bool | some (.int _) | some .string => true
    | some (.slice e) => plainT P n e && decide (0 < P.cellsOf e)
    | some (.struct fs) => plainFs P (plainT P n) fs.toList 0 (P.cellsOf t)
    | some (.array k e) => plainT P n e && (k * P.cellsOf e == P.cellsOf t)
    | _ => false
def ShpFs (G : TypeId → List AV → Prop) : List Field → List AV → Prop
  | [], avs => avs = []
  | f :: r, avs => ∃ a b, avs = a ++ b ∧ G f.type a ∧ ShpFs G r b
def ShpAs (G : List AV → Prop) : Nat → List AV → Prop
  | 0, avs => avs = []
  | k + 1, avs => ∃ a b, avs = a ++ b ∧ G a ∧ ShpAs G k b
def Shp (P : Program) : Nat → TypeId → List AV → Prop
  | 0, _, _ => False
  | n + 1, t, avs => match P.underlying t with
    | some .bool => ∃ b, avs = [.bool b]
    | some (.int k) => ∃ z, (Lit.int k z).wf = true ∧ avs = [.int k z]
    | some .string => ∃ s : List UInt8, s.length ≤ maxLen ∧ avs = [.str s]
    | some (.slice e) => ∃ els, els.length ≤ maxLen ∧ avs = [.lst (P.cellsOf e) els] ∧ ∀ r ∈ els, Shp P n e r
    | some (.struct fs) => ShpFs (Shp P n) fs.toList avs
    | some (.array k e) => ShpAs (Shp P n e) k avs
    | _ => False
section
variable {P : Program} {n : Nat} {t : TypeId} {avs : List AV}
theorem shp_int {k : IntKind} (ht : P.underlying t = some (.int k)) (h : Shp P (n + 1) t avs) : ∃ z, (Lit.int k z).wf = true ∧ avs = [.int k z] := by
  simp only [Shp] at h; rw [ht] at h; exact h
theorem shp_string (ht : P.underlying t = some .string) (h : Shp P (n + 1) t avs) : ∃ s : List UInt8, s.length ≤ maxLen ∧ avs = [.str s] := by
  simp only [Shp] at h; rw [ht] at h; exact h
theorem shp_slice {e : TypeId} (ht : P.underlying t = some (.slice e)) (h : Shp P (n + 1) t avs) : ∃ els, els.length ≤ maxLen ∧ avs = [.lst (P.cellsOf e) els] ∧ ∀ r ∈ els, Shp P n e r := by
  simp only [Shp] at h; rw [ht] at h; exact h
theorem shp_struct {fs : Array Field} (ht : P.underlying t = some (.struct fs)) (h : Shp P (n + 1) t avs) : ShpFs (Shp P n) fs.toList avs := by
  simp only [Shp] at h; rw [ht] at h; exact h
theorem shp_array {k : Nat} {e : TypeId} (ht : P.underlying t = some (.array k e)) (h : Shp P (n + 1) t avs) : ShpAs (Shp P n e) k avs := by
  simp only [Shp] at h; rw [ht] at h; exact h
end
def Rels (w : World) (avs : List AV) (cs : List Value) : Prop := avs.length = cs.length ∧ ∀ j, j < cs.length → AVRel w (Old w) noG (avs.getD j .top) (cs.getD j undef)
theorem Rels.nil (w : World) : Rels w [] [] := ⟨rfl, fun j hj => by simp at hj⟩
theorem Rels.one {w : World} {a : AV} {v : Value} (h : AVRel w (Old w) noG a v) : Rels w [a] [v] := ⟨rfl, fun j hj => by
  obtain rfl : j = 0 := by simpa using hj
  exact h⟩
theorem Rels.app {w : World} {a b : List AV} {c d : List Value} (h1 : Rels w a c) (h2 : Rels w b d) : Rels w (a ++ b) (c ++ d) := by
  refine ⟨by simp [h1.1, h2.1], fun j hj => ?_⟩
  simp only [List.getD_eq_getElem?_getD]
  by_cases h : j < c.length
  · rw [List.getElem?_append_left (by rw [h1.1]; exact h), List.getElem?_append_left h]
    have := h1.2 j h
    simpa only [List.getD_eq_getElem?_getD] using this
  · rw [List.getElem?_append_right (by rw [h1.1]; omega), List.getElem?_append_right (by omega), h1.1]
    have := h2.2 (j - c.length) (by simp at hj; omega)
    simpa only [List.getD_eq_getElem?_getD] using this
variable {H : Type} {enc : TypeId × Value → H} {P : Program} {w : World} {spare : Nat → Bool} {held : Bool}
theorem opened : ∀ (n : Nat),
    (∀ (t : TypeId) (cs : List Value) (fuel : Nat) (x : DataW H × List MemPlace), plainT P n t = true → DataW.trod enc P w 0 spare held fuel t cs = some x → ∃ avs, Rels w avs cs ∧ Shp P n t avs)
  | 0, t, cs, fuel, x, hp, h => by simp [plainT] at hp
  | n + 1, t, cs, fuel, x, hp, h => by
    simp only [plainT] at hp
    simp only [Shp]
    split at hp
    · rename_i ht
      obtain ⟨b, rfl, _⟩ := DataW.trod_bool ht h
      exact ⟨[.bool b], .one (.bool _ _), ⟨b, rfl⟩⟩
    · rename_i k ht
      obtain ⟨z, rfl, _, hw⟩ := DataW.trod_int ht h
      exact ⟨[.int k z], .one (.int _ _ _), ⟨z, hw, rfl⟩⟩
    · rename_i ht
      obtain ⟨s, rfl, _, hs⟩ := DataW.trod_string ht h
      refine ⟨[.str s.data.toList], .one ?_, ⟨s.data.toList, by simpa using hs, rfl⟩⟩
      have := AVRel.str (w := w) (Z := Old w) noG s.data.toList
      simpa using this
    · rename_i e ht
      simp only [Bool.and_eq_true, decide_eq_true_eq] at hp
      rcases DataW.trod_slice ht h with ⟨rfl, _⟩ | ⟨a, len, cap, elems, rest, m, _, rfl, _, _, hlc, hm, hel, hget, _, _⟩
      · exact ⟨[.lst (P.cellsOf e) []], .one (.lst _ _ [] none 0 (fun _ _ => undef) (Nat.le_refl _) (fun h => absurd rfl h) (fun i hi => by simp at hi) (fun i j hi => by simp at hi)), [], Nat.zero_le _, rfl, by simp⟩
      · have each : ∀ i, i < len → ∃ (row : List AV) (vs : List Value), vs.length = P.cellsOf e ∧ (∀ j, j < P.cellsOf e → w.cell? ((a.add (i * P.cellsOf e)).add j) = vs[j]?) ∧ Rels w row vs ∧ Shp P n e row := fun i hi => by
          have hg := hget i hi
          rw [List.getElem?_eq_getElem (by omega)] at hg
          cases hc : w.cells? 0 (a.add (i * P.cellsOf e)) (P.cellsOf e) with
          | none => rw [hc] at hg; simp at hg
          | some vs =>
            rw [hc] at hg
            obtain ⟨_, hvl, hvc⟩ := World.cells?_some hc
            obtain ⟨row, hr, hs⟩ := opened n e vs m _ hp.1 (by simpa using hg)
            exact ⟨row, vs, hvl, hvc, hr, hs⟩
        let rowf : Nat → List AV := fun i => if h : i < len then Classical.choose (each i h) else []
        have rowp : ∀ i, (h : i < len) → ∃ (vs : List Value), vs.length = P.cellsOf e ∧ (∀ j, j < P.cellsOf e → w.cell? ((a.add (i * P.cellsOf e)).add j) = vs[j]?) ∧ Rels w (rowf i) vs ∧ Shp P n e (rowf i) := fun i h => by
          have := Classical.choose_spec (each i h)
          simp only [rowf, dif_pos h]
          exact this
        let vf : Nat → Nat → Value := fun i j => (w.cell? ((a.add (i * P.cellsOf e)).add j)).getD undef
        have hlen : ((List.range len).map rowf).length = len := by simp
        have hgetD : ∀ i, i < len → ((List.range len).map rowf).getD i [] = rowf i := fun i hi => by
          rw [List.getD_eq_getElem?_getD, List.getElem?_map, List.getElem?_range hi]; rfl
        have hcell : ∀ i j, i < len → j < P.cellsOf e → w.cell? ((a.add (i * P.cellsOf e)).add j) = some (vf i j) := fun i j hi hj => by
          obtain ⟨vs, h1, h2, _⟩ := rowp i hi
          have := h2 j hj
          rw [List.getElem?_eq_getElem (by omega)] at this
          simp only [vf, this]; rfl
        refine ⟨[.lst (P.cellsOf e) ((List.range len).map rowf)], .one ?_, (List.range len).map rowf, by rw [hlen]; omega, rfl, fun r hr => ?_⟩
        · have key := AVRel.lst (w := w) (Z := Old w) noG (P.cellsOf e) ((List.range len).map rowf) (some a) cap vf (by rw [hlen]; exact hlc) (fun hne => ?_) (fun i hi => ?_) (fun i j hi hj => ?_)
          · rw [hlen] at key; exact key
          · have h0 : 0 < len := by
              rcases Nat.eq_zero_or_pos len with h | h
              · subst h; simp at hne
              · exact h
            have hs : a.spot = none := by
              have := World.cell?_spot (hcell 0 0 h0 hp.2)
              simpa [Addr.add] using this
            have hc : ∀ i j, i < len → j < P.cellsOf e → w.cell? (a.at (i * P.cellsOf e + j)) = some (vf i j) := fun i j hi hj => by
              have h1 := hcell i j hi hj
              have : a.at (i * P.cellsOf e + j) = (a.add (i * P.cellsOf e)).add j := by
                obtain ⟨b, o, s⟩ := a
                simp only at hs; subst hs
                simp only [Addr.at, Addr.add]
                split <;> split <;> simp_all <;> omega
              rw [this]; exact h1
            rw [hlen]
            exact ⟨a, rfl, fun i j hi hj => old_cell (hc i j hi hj), hs, hc⟩
          · rw [hlen] at hi
            rw [hgetD i hi]
            obtain ⟨vs, h1, _, h3, _⟩ := rowp i hi
            rw [h3.1, h1]
          · rw [hlen] at hi
            rw [hgetD i hi]
            obtain ⟨vs, h1, h2, h3, _⟩ := rowp i hi
            have := h3.2 j (by omega)
            have e : vs.getD j undef = vf i j := by
              rw [List.getD_eq_getElem?_getD, ← h2 j hj]
            rw [e] at this; exact this
        · obtain ⟨i, hi, rfl⟩ := List.mem_map.1 hr
          obtain ⟨vs, _, _, _, h4⟩ := rowp i (List.mem_range.1 hi)
          exact h4
    · rename_i fs ht
      obtain ⟨xs, m, _, _, hcl, hxl, hget⟩ := DataW.trod_struct ht h
      have go : ∀ (l : List Field) (off : Nat), (∀ f ∈ l, ∃ x, DataW.trod enc P w 0 spare held m f.type ((cs.drop f.offset).take (P.cellsOf f.type)) = some x) → plainFs P (plainT P n) l off cs.length = true → ∃ avs, Rels w avs (cs.drop off) ∧ ShpFs (Shp P n) l avs := by
        intro l
        induction l with
        | nil =>
          intro off _ hf
          simp only [plainFs, beq_iff_eq] at hf
          rw [hf, List.drop_length]
          exact ⟨[], .nil w, by simp [ShpFs]⟩
        | cons f r ih =>
          intro off hx hf
          simp only [plainFs, Bool.and_eq_true, beq_iff_eq] at hf
          obtain ⟨⟨h1, h2⟩, h3⟩ := hf
          obtain ⟨y, hy⟩ := hx f (by simp)
          rw [h1] at hy
          obtain ⟨a, ha, hsa⟩ := opened n f.type _ m y h2 hy
          obtain ⟨b, hb, hsb⟩ := ih (off + P.cellsOf f.type) (fun g hg => hx g (List.mem_cons_of_mem _ hg)) h3
          refine ⟨a ++ b, ?_, by simp only [ShpFs]; exact ⟨a, b, rfl, hsa, hsb⟩⟩
          have e : cs.drop off = (cs.drop off).take (P.cellsOf f.type) ++ cs.drop (off + P.cellsOf f.type) := by
            rw [← List.drop_drop, List.take_append_drop]
          rw [e]; exact ha.app hb
      have := go fs.toList 0 (fun f hf => by
        obtain ⟨i, hi, e⟩ := List.mem_iff_getElem.1 hf
        have hi' : i < fs.size := by simpa using hi
        have h1 : fs[i]? = some f := by rw [Array.getElem?_eq_getElem hi']; simpa using e
        rw [hget i f h1, List.getElem?_eq_getElem (by omega)]
        exact ⟨_, rfl⟩) (by rw [hcl]; exact hp)
      simpa using this
    · rename_i c e ht
      obtain ⟨xs, m, _, _, hcl, hxl, hget⟩ := DataW.trod_array ht h
      simp only [Bool.and_eq_true, beq_iff_eq] at hp
      have go : ∀ (r i : Nat), i + r = c → ∃ avs, Rels w avs (cs.drop (i * P.cellsOf e)) ∧ ShpAs (Shp P n e) r avs := by
        intro r
        induction r with
        | zero =>
          intro i hi
          have : i * P.cellsOf e = cs.length := by rw [hcl, ← hp.2]; congr 1
          rw [this, List.drop_length]
          exact ⟨[], .nil w, by simp [ShpAs]⟩
        | succ r ih =>
          intro i hi
          have hg := hget i (by omega)
          rw [List.getElem?_eq_getElem (by omega)] at hg
          obtain ⟨a, ha, hsa⟩ := opened n e _ m _ hp.1 hg
          obtain ⟨b, hb, hsb⟩ := ih (i + 1) (by omega)
          refine ⟨a ++ b, ?_, by simp only [ShpAs]; exact ⟨a, b, rfl, hsa, hsb⟩⟩
          have e : cs.drop (i * P.cellsOf e) = (cs.drop (i * P.cellsOf e)).take (P.cellsOf e) ++ cs.drop ((i + 1) * P.cellsOf e) := by
            rw [Nat.add_mul, Nat.one_mul, ← List.drop_drop, List.take_append_drop]
          rw [e]; exact ha.app hb
      have := go c 0 (by omega)
      simpa using this
    · cases hp
end Go.Av
end
section
namespace Go.Av.F
open Go Go.Av
set_option linter.unusedSimpArgs false
set_option linter.unusedVariables false
structure PT where
  pa : Int
  ps : Int
  pb : Int
deriving DecidableEq, Inhabited
def PT.row (p : PT) : List AV := [.int .i64 p.pa, .int .i64 p.ps, .int .i64 p.pb]
structure CS where
  name : List UInt8
  kind : Int
  frm : List UInt8
  map : List PT
  home : PT
  dirty : Bool
deriving DecidableEq, Inhabited
def CS.row (s : CS) : List AV := .str s.name :: .int .i64 s.kind :: .str s.frm :: (s.map.flatMap PT.row ++ (s.home.row ++ [.bool s.dirty]))
structure DE where
  es : Int
  ea : Int
  ec : Int
deriving DecidableEq, Inhabited
def DE.row (e : DE) : List AV := [.int .i64 e.es, .int .i64 e.ea, .int .i64 e.ec]
def intRow (n : Int) : List AV := [.int .i64 n]
structure CO where
  txg : Int
  sets : List CS
  ddt : List DE
  parts : List PT
  dirty : Bool
  safe : List Int
  logn : Int
deriving DecidableEq, Inhabited
def CO.row (c : CO) : List AV := [.int .i64 c.txg, .lst 31 (c.sets.map CS.row), .lst 3 (c.ddt.map DE.row), .lst 3 (c.parts.map PT.row), .bool c.dirty, .lst 1 (c.safe.map intRow), .int .i64 c.logn]
def i64G (z : Int) : Prop := -9223372036854775808 ≤ z ∧ z ≤ 9223372036854775807
theorem wf_i64 {z : Int} (h : (Lit.int .i64 z).wf = true) : i64G z := by
  simpa [Lit.wf, IntKind.min, IntKind.max, IntKind.signed, IntKind.bits, i64G] using h
theorem rows_ex {α : Type} (f : α → List AV) (G : α → Prop) : ∀ els : List (List AV), (∀ r ∈ els, ∃ a, G a ∧ r = f a) → ∃ l : List α, els = l.map f ∧ ∀ a ∈ l, G a
  | [], _ => ⟨[], rfl, by simp⟩
  | r :: els, h => by
    obtain ⟨a, ha, rfl⟩ := h r (by simp)
    obtain ⟨l, rfl, hl⟩ := rows_ex f G els fun x hx => h x (List.mem_cons_of_mem _ hx)
    refine ⟨a :: l, rfl, fun x hx => ?_⟩
    rcases List.mem_cons.1 hx with rfl | hx
    · exact ha
    · exact hl x hx
theorem arr_ex {α : Type} (f : α → List AV) (G : α → Prop) (S : List AV → Prop) (h : ∀ r, S r → ∃ a, G a ∧ r = f a) : ∀ (k : Nat) (avs : List AV), ShpAs S k avs → ∃ l : List α, l.length = k ∧ avs = l.flatMap f ∧ ∀ a ∈ l, G a
  | 0, avs, hs => ⟨[], rfl, hs, by simp⟩
  | k + 1, avs, hs => by
    obtain ⟨a, b, rfl, ha, hb⟩ := hs
    obtain ⟨x, hx, rfl⟩ := h a ha
    obtain ⟨l, hl, rfl, hg⟩ := arr_ex f G S h k b hb
    refine ⟨x :: l, by simp [hl], by simp, fun y hy => ?_⟩
    rcases List.mem_cons.1 hy with rfl | hy
    · exact hx
    · exact hg y hy
open Go.Proofs
set_option maxRecDepth 100000
theorem shp_i64 {n : Nat} {avs : List AV} (h : Shp Tryd.prog (n + 1) 3 avs) : ∃ z, i64G z ∧ avs = [.int .i64 z] := by
  obtain ⟨z, h1, h2⟩ := shp_int Tryd.underlying3 h
  exact ⟨z, wf_i64 h1, h2⟩
end Go.Av.F
end
section
namespace Go.Av.F
open Go Go.Av
set_option linter.unusedSimpArgs false
set_option linter.unusedVariables false
set_option maxRecDepth 100000
attribute [local simp] tt3 tt4 tt9 tt51 tt52 tt53 tt54 tt56 tt177 tt185 tt174 tt175
end Go.Av.F
end
section
namespace Go.Av.F
open Go Go.Av
set_option linter.unusedSimpArgs false
set_option linter.unusedVariables false
set_option maxRecDepth 100000
attribute [local simp] tt3 tt4 tt9 tt51 tt52 tt53 tt54 tt56 tt177 tt185 tt174 tt175 tt61 tt123 tt60 tt113
def fillB (l : List (List AV)) (z : List AV) (i : Nat) : List (List AV) := l.take i ++ List.replicate (l.length - i) z
end Go.Av.F
end
section
namespace Go.Av.F
open Go Go.Av
set_option linter.unusedSimpArgs false
set_option linter.unusedVariables false
set_option maxRecDepth 100000
attribute [local simp] tt126 tt59 tt63 tt62
attribute [local simp] tt3 tt4 tt9 tt51 tt52 tt53 tt54 tt56 tt177 tt185 tt174 tt175 tt61 tt123 tt60 tt113 tt124
end Go.Av.F
end
section
namespace Go.Av.F
open Go Go.Av
set_option linter.unusedSimpArgs false
set_option linter.unusedVariables false
set_option maxRecDepth 100000
attribute [local simp] tt126 tt59 tt63 tt62
attribute [local simp] tt3 tt4 tt9 tt51 tt52 tt53 tt54 tt56 tt177 tt185 tt174 tt175 tt61 tt123 tt60 tt113 tt124
end Go.Av.F
end
