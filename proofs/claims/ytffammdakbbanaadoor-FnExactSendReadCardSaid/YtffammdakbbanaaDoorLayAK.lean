/- Lemmas for the proof, no statement of the seat; no conditions. -/
import Derived.Test.YtffammdakbbanaaDoorLayAJ
import Derived.ProofKit
import Derived.OpenShut
import Derived.ChangeArms
import Derived.DataReads
import Derived.Test.YtffammdakbbanaaDoorProg
section
namespace Go.Av
open Go.RowKit Go.ChangeShapes Go.WideShapes Go.ChangeAt
set_option linter.unusedSimpArgs false
set_option linter.unusedVariables false
def plainFs (P : Program) (g : TypeId → Bool) : List Field → Nat → Nat → Bool
  | [], off, total => off == total
  | f :: r, off, total => f.offset == off && g f.type && plainFs P g r (off + P.cellsOf f.type) total
def plainT (P : Program) : Nat → TypeId → Bool
  | 0, _ => false
  | n + 1, t => match P.underlying t with
    | some .bool | some (.int _) | some .string => true
    | some (.slice e) => plainT P n e && decide (0 < P.cellsOf e)
    | some (.struct fs) => plainFs P (plainT P n) fs.toList 0 (P.cellsOf t)
    | some (.array k e) => plainT P n e && (k * P.cellsOf e == P.cellsOf t)
    | _ => false
def ShpFs (G : TypeId → List AV → Prop) : List Field → List AV → Prop
  | [], avs => avs = []
  | f :: r, avs => ∃ a b, avs = a ++ b ∧ G f.type a ∧ ShpFs G r b
def ShpAs (G : List AV → Prop) : Nat → List AV → Prop
  | 0, avs => avs = []
  | k + 1, avs => ∃ a b, avs = a ++ b ∧ G a ∧ ShpAs G k b
def Shp (P : Program) : Nat → TypeId → List AV → Prop
  | 0, _, _ => False
  | n + 1, t, avs => match P.underlying t with
    | some .bool => ∃ b, avs = [.bool b]
    | some (.int k) => ∃ z, (Lit.int k z).wf = true ∧ avs = [.int k z]
    | some .string => ∃ s : List UInt8, s.length ≤ maxLen ∧ avs = [.str s]
    | some (.slice e) => ∃ els, els.length ≤ maxLen ∧ avs = [.lst (P.cellsOf e) els] ∧ ∀ r ∈ els, Shp P n e r
    | some (.struct fs) => ShpFs (Shp P n) fs.toList avs
    | some (.array k e) => ShpAs (Shp P n e) k avs
    | _ => False
section
variable {P : Program} {n : Nat} {t : TypeId} {avs : List AV}
theorem shp_string (ht : P.underlying t = some .string) (h : Shp P (n + 1) t avs) : ∃ s : List UInt8, s.length ≤ maxLen ∧ avs = [.str s] := by
  simp only [Shp] at h; rw [ht] at h; exact h
end
def Rels (w : World) (avs : List AV) (cs : List Value) : Prop := avs.length = cs.length ∧ ∀ j, j < cs.length → AVRel w (Old w) noG (avs.getD j .top) (cs.getD j undef)
theorem Rels.nil (w : World) : Rels w [] [] := ⟨rfl, fun j hj => by simp at hj⟩
theorem Rels.one {w : World} {a : AV} {v : Value} (h : AVRel w (Old w) noG a v) : Rels w [a] [v] := ⟨rfl, fun j hj => by
  obtain rfl : j = 0 := by simpa using hj
  exact h⟩
theorem Rels.app {w : World} {a b : List AV} {c d : List Value} (h1 : Rels w a c) (h2 : Rels w b d) : Rels w (a ++ b) (c ++ d) := by
  refine ⟨by simp [h1.1, h2.1], fun j hj => ?_⟩
  simp only [List.getD_eq_getElem?_getD]
  by_cases h : j < c.length
  · rw [List.getElem?_append_left (by rw [h1.1]; exact h), List.getElem?_append_left h]
    have := h1.2 j h
    simpa only [List.getD_eq_getElem?_getD] using this
  · rw [List.getElem?_append_right (by rw [h1.1]; omega), List.getElem?_append_right (by omega), h1.1]
    have := h2.2 (j - c.length) (by simp at hj; omega)
    simpa only [List.getD_eq_getElem?_getD] using this
variable {H : Type} {enc : TypeId × Value → H} {P : Program} {w : World} {spare : Nat → Bool} {held : Bool}
theorem opened : ∀ (n : Nat),
    (∀ (t : TypeId) (cs : List Value) (fuel : Nat) (x : DataW H × List MemPlace), plainT P n t = true → DataW.trod enc P w 0 spare held fuel t cs = some x → ∃ avs, Rels w avs cs ∧ Shp P n t avs)
  | 0, t, cs, fuel, x, hp, h => by simp [plainT] at hp
  | n + 1, t, cs, fuel, x, hp, h => by
    simp only [plainT] at hp
    simp only [Shp]
    split at hp
    · rename_i ht
      obtain ⟨b, rfl, _⟩ := DataW.trod_bool ht h
      exact ⟨[.bool b], .one (.bool _ _), ⟨b, rfl⟩⟩
    · rename_i k ht
      obtain ⟨z, rfl, _, hw⟩ := DataW.trod_int ht h
      exact ⟨[.int k z], .one (.int _ _ _), ⟨z, hw, rfl⟩⟩
    · rename_i ht
      obtain ⟨s, rfl, _, hs⟩ := DataW.trod_string ht h
      refine ⟨[.str s.data.toList], .one ?_, ⟨s.data.toList, by simpa using hs, rfl⟩⟩
      have := AVRel.str (w := w) (Z := Old w) noG s.data.toList
      simpa using this
    · rename_i e ht
      simp only [Bool.and_eq_true, decide_eq_true_eq] at hp
      rcases DataW.trod_slice ht h with ⟨rfl, _⟩ | ⟨a, len, cap, elems, rest, m, _, rfl, _, _, hlc, hm, hel, hget, _, _⟩
      · exact ⟨[.lst (P.cellsOf e) []], .one (.lst _ _ [] none 0 (fun _ _ => undef) (Nat.le_refl _) (fun h => absurd rfl h) (fun i hi => by simp at hi) (fun i j hi => by simp at hi)), [], Nat.zero_le _, rfl, by simp⟩
      · have each : ∀ i, i < len → ∃ (row : List AV) (vs : List Value), vs.length = P.cellsOf e ∧ (∀ j, j < P.cellsOf e → w.cell? ((a.add (i * P.cellsOf e)).add j) = vs[j]?) ∧ Rels w row vs ∧ Shp P n e row := fun i hi => by
          have hg := hget i hi
          rw [List.getElem?_eq_getElem (by omega)] at hg
          cases hc : w.cells? 0 (a.add (i * P.cellsOf e)) (P.cellsOf e) with
          | none => rw [hc] at hg; simp at hg
          | some vs =>
            rw [hc] at hg
            obtain ⟨_, hvl, hvc⟩ := World.cells?_some hc
            obtain ⟨row, hr, hs⟩ := opened n e vs m _ hp.1 (by simpa using hg)
            exact ⟨row, vs, hvl, hvc, hr, hs⟩
        let rowf : Nat → List AV := fun i => if h : i < len then Classical.choose (each i h) else []
        have rowp : ∀ i, (h : i < len) → ∃ (vs : List Value), vs.length = P.cellsOf e ∧ (∀ j, j < P.cellsOf e → w.cell? ((a.add (i * P.cellsOf e)).add j) = vs[j]?) ∧ Rels w (rowf i) vs ∧ Shp P n e (rowf i) := fun i h => by
          have := Classical.choose_spec (each i h)
          simp only [rowf, dif_pos h]
          exact this
        let vf : Nat → Nat → Value := fun i j => (w.cell? ((a.add (i * P.cellsOf e)).add j)).getD undef
        have hlen : ((List.range len).map rowf).length = len := by simp
        have hgetD : ∀ i, i < len → ((List.range len).map rowf).getD i [] = rowf i := fun i hi => by
          rw [List.getD_eq_getElem?_getD, List.getElem?_map, List.getElem?_range hi]; rfl
        have hcell : ∀ i j, i < len → j < P.cellsOf e → w.cell? ((a.add (i * P.cellsOf e)).add j) = some (vf i j) := fun i j hi hj => by
          obtain ⟨vs, h1, h2, _⟩ := rowp i hi
          have := h2 j hj
          rw [List.getElem?_eq_getElem (by omega)] at this
          simp only [vf, this]; rfl
        refine ⟨[.lst (P.cellsOf e) ((List.range len).map rowf)], .one ?_, (List.range len).map rowf, by rw [hlen]; omega, rfl, fun r hr => ?_⟩
        · have key := AVRel.lst (w := w) (Z := Old w) noG (P.cellsOf e) ((List.range len).map rowf) (some a) cap vf (by rw [hlen]; exact hlc) (fun hne => ?_) (fun i hi => ?_) (fun i j hi hj => ?_)
          · rw [hlen] at key; exact key
          · have h0 : 0 < len := by
              rcases Nat.eq_zero_or_pos len with h | h
              · subst h; simp at hne
              · exact h
            have hs : a.spot = none := by
              have := World.cell?_spot (hcell 0 0 h0 hp.2)
              simpa [Addr.add] using this
            have hc : ∀ i j, i < len → j < P.cellsOf e → w.cell? (a.at (i * P.cellsOf e + j)) = some (vf i j) := fun i j hi hj => by
              have h1 := hcell i j hi hj
              have : a.at (i * P.cellsOf e + j) = (a.add (i * P.cellsOf e)).add j := by
                obtain ⟨b, o, s⟩ := a
                simp only at hs; subst hs
                simp only [Addr.at, Addr.add]
                split <;> split <;> simp_all <;> omega
              rw [this]; exact h1
            rw [hlen]
            exact ⟨a, rfl, fun i j hi hj => old_cell (hc i j hi hj), hs, hc⟩
          · rw [hlen] at hi
            rw [hgetD i hi]
            obtain ⟨vs, h1, _, h3, _⟩ := rowp i hi
            rw [h3.1, h1]
          · rw [hlen] at hi
            rw [hgetD i hi]
            obtain ⟨vs, h1, h2, h3, _⟩ := rowp i hi
            have := h3.2 j (by omega)
            have e : vs.getD j undef = vf i j := by
              rw [List.getD_eq_getElem?_getD, ← h2 j hj]
            rw [e] at this; exact this
        · obtain ⟨i, hi, rfl⟩ := List.mem_map.1 hr
          obtain ⟨vs, _, _, _, h4⟩ := rowp i (List.mem_range.1 hi)
          exact h4
    · rename_i fs ht
      obtain ⟨xs, m, _, _, hcl, hxl, hget⟩ := DataW.trod_struct ht h
      have go : ∀ (l : List Field) (off : Nat), (∀ f ∈ l, ∃ x, DataW.trod enc P w 0 spare held m f.type ((cs.drop f.offset).take (P.cellsOf f.type)) = some x) → plainFs P (plainT P n) l off cs.length = true → ∃ avs, Rels w avs (cs.drop off) ∧ ShpFs (Shp P n) l avs := by
        intro l
        induction l with
        | nil =>
          intro off _ hf
          simp only [plainFs, beq_iff_eq] at hf
          rw [hf, List.drop_length]
          exact ⟨[], .nil w, by simp [ShpFs]⟩
        | cons f r ih =>
          intro off hx hf
          simp only [plainFs, Bool.and_eq_true, beq_iff_eq] at hf
          obtain ⟨⟨h1, h2⟩, h3⟩ := hf
          obtain ⟨y, hy⟩ := hx f (by simp)
          rw [h1] at hy
          obtain ⟨a, ha, hsa⟩ := opened n f.type _ m y h2 hy
          obtain ⟨b, hb, hsb⟩ := ih (off + P.cellsOf f.type) (fun g hg => hx g (List.mem_cons_of_mem _ hg)) h3
          refine ⟨a ++ b, ?_, by simp only [ShpFs]; exact ⟨a, b, rfl, hsa, hsb⟩⟩
          have e : cs.drop off = (cs.drop off).take (P.cellsOf f.type) ++ cs.drop (off + P.cellsOf f.type) := by
            rw [← List.drop_drop, List.take_append_drop]
          rw [e]; exact ha.app hb
      have := go fs.toList 0 (fun f hf => by
        obtain ⟨i, hi, e⟩ := List.mem_iff_getElem.1 hf
        have hi' : i < fs.size := by simpa using hi
        have h1 : fs[i]? = some f := by rw [Array.getElem?_eq_getElem hi']; simpa using e
        rw [hget i f h1, List.getElem?_eq_getElem (by omega)]
        exact ⟨_, rfl⟩) (by rw [hcl]; exact hp)
      simpa using this
    · rename_i c e ht
      obtain ⟨xs, m, _, _, hcl, hxl, hget⟩ := DataW.trod_array ht h
      simp only [Bool.and_eq_true, beq_iff_eq] at hp
      have go : ∀ (r i : Nat), i + r = c → ∃ avs, Rels w avs (cs.drop (i * P.cellsOf e)) ∧ ShpAs (Shp P n e) r avs := by
        intro r
        induction r with
        | zero =>
          intro i hi
          have : i * P.cellsOf e = cs.length := by rw [hcl, ← hp.2]; congr 1
          rw [this, List.drop_length]
          exact ⟨[], .nil w, by simp [ShpAs]⟩
        | succ r ih =>
          intro i hi
          have hg := hget i (by omega)
          rw [List.getElem?_eq_getElem (by omega)] at hg
          obtain ⟨a, ha, hsa⟩ := opened n e _ m _ hp.1 hg
          obtain ⟨b, hb, hsb⟩ := ih (i + 1) (by omega)
          refine ⟨a ++ b, ?_, by simp only [ShpAs]; exact ⟨a, b, rfl, hsa, hsb⟩⟩
          have e : cs.drop (i * P.cellsOf e) = (cs.drop (i * P.cellsOf e)).take (P.cellsOf e) ++ cs.drop ((i + 1) * P.cellsOf e) := by
            rw [Nat.add_mul, Nat.one_mul, ← List.drop_drop, List.take_append_drop]
          rw [e]; exact ha.app hb
      have := go c 0 (by omega)
      simpa using this
    · cases hp
end Go.Av
end
section
namespace Go.Av
open Go.RowKit Go.ChangeShapes Go.WideShapes Go.ChangeAt
set_option linter.unusedSimpArgs false
set_option linter.unusedVariables false
variable {H : Type} {enc : TypeId × Value → H} {P : Program} {w : World} {spare : Nat → Bool} {held : Bool}
theorem open_one {n : Nat} {t : TypeId} {v : Value} {d : DataW H} {ps : List MemPlace} (hc : v.cells = #[v]) (hp : plainT P n t = true)
    (hd : DataW.Trod enc P w 0 spare held t v d ps) : ∃ a, AVRel w (Old w) noG a v ∧ Shp P n t [a] := by
  obtain ⟨fuel, hf⟩ := hd
  obtain ⟨avs, hr, hs⟩ := opened n t _ fuel _ hp hf
  rw [hc] at hr
  obtain ⟨a, rfl⟩ : ∃ a, avs = [a] := by
    have := hr.1
    match avs, this with
    | [a], _ => exact ⟨a, rfl⟩
  exact ⟨a, by simpa using hr.2 0 (by simp), hs⟩
theorem open_str {r : Reach} {base : Nat} {t : TypeId} {v : Value} {d : DataW H} {ps : List MemPlace} (ht : P.underlying t = some .string) (hv : Value.okWide P w r base t v)
    (hd : DataW.Trod enc P w 0 spare held t v d ps) : ∃ s : List UInt8, s.length ≤ maxLen ∧ AVRel w (Old w) noG (.str s) v := by
  obtain ⟨s, rfl⟩ := okWide_string ht hv
  obtain ⟨a, hr, hs⟩ := open_one (n := 1) rfl (by simp [plainT, ht]) hd
  obtain ⟨b, hb, e⟩ := shp_string ht hs
  injection e with e; subst e
  exact ⟨b, hb, hr⟩
end Go.Av
end
section
namespace Go.Av.F
open Go Go.Av
open Go.Proofs Go.Proofs.Tryd
attribute [-simp] getU hdS canon canonOk i64w
set_option linter.unusedSimpArgs false
set_option linter.unusedVariables false
attribute [local simp] tt3 tt4 tt9 tt5 tt84
end Go.Av.F
end
section
namespace Go.Av.F
open Go Go.Av
open Go.Proofs Go.Proofs.Tryd
attribute [-simp] getU hdS canon canonOk i64w
set_option linter.unusedSimpArgs false
set_option linter.unusedVariables false
set_option maxRecDepth 100000
attribute [local simp] tt3 tt4 tt9 tt5 tt84
theorem fol : Go.Proofs.Tryd.prog.follows .mixedOrders = true := by kernel_rfl
attribute [simp] fol
def u8row (c : UInt8) : List AV := [.int .u8 c.toNat]
end Go.Av.F
end
section
namespace Go.Av.F
open Go Go.Av
open Go.Proofs Go.Proofs.Tryd
attribute [-simp] getU hdS canon canonOk i64w
set_option linter.unusedSimpArgs false
set_option linter.unusedVariables false
set_option maxRecDepth 100000
attribute [local simp] tt3 tt4 tt9 tt5 tt84 tt50
end Go.Av.F
end
section
namespace Go.Av.F
open Go Go.Av
open Go.Proofs Go.Proofs.Tryd
attribute [-simp] getU hdS canon canonOk i64w
set_option linter.unusedSimpArgs false
set_option linter.unusedVariables false
set_option maxRecDepth 100000
attribute [local simp] tt3 tt4 tt9 tt5 tt84 tt39 tt37 tt90 tt88
structure BS where
  name : List UInt8
  kind : Int
  frm : List UInt8
  bl : List (List UInt8)
deriving DecidableEq, Inhabited
def BS.row (b : BS) : List AV := .str b.name :: .int .i64 b.kind :: .str b.frm :: b.bl.map .str
end Go.Av.F
end
section
namespace Go.Av.F
open Go Go.Av
open Go.Proofs Go.Proofs.Tryd
attribute [-simp] getU hdS canon canonOk i64w
set_option linter.unusedSimpArgs false
set_option linter.unusedVariables false
set_option maxRecDepth 100000
attribute [local simp] tt3 tt4 tt9 tt5 tt84 tt39 tt37 tt90 tt88
@[simp] theorem row0 (b : BS) : (BS.row b)[0]? = some (.str b.name) := rfl
@[simp] theorem row1 (b : BS) : (BS.row b)[1]? = some (.int .i64 b.kind) := rfl
@[simp] theorem row2 (b : BS) : (BS.row b)[2]? = some (.str b.frm) := rfl
@[simp] theorem row0' (b : BS) (h : 0 < (BS.row b).length) : (BS.row b)[0]'h = .str b.name := rfl
@[simp] theorem row1' (b : BS) (h : 1 < (BS.row b).length) : (BS.row b)[1]'h = .int .i64 b.kind := rfl
@[simp] theorem row2' (b : BS) (h : 2 < (BS.row b).length) : (BS.row b)[2]'h = .str b.frm := rfl
@[simp] theorem row3 (b : BS) : (BS.row b).drop 3 = b.bl.map .str := rfl
theorem row_cl (b : BS) : clL (BS.row b) = true := by
  have : ∀ l : List (List UInt8), clL (l.map .str) = true := fun l => by induction l <;> simp_all
  simp [BS.row, this]
theorem row_ren (ρ : Nat → Option Plc) (b : BS) : renL ρ (BS.row b) = BS.row b := by
  have : ∀ l : List (List UInt8), renL ρ (l.map .str) = l.map .str := fun l => by induction l <;> simp_all
  simp [BS.row, this]
@[simp] theorem row_ren' (ρ : Nat → Option Plc) (b : BS) : renL ρ (BS.row b) = BS.row b := row_ren ρ b
@[simp] theorem row_cl' (b : BS) : clL (BS.row b) = true := row_cl b
end Go.Av.F
end
