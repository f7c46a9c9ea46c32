/- Lemmas for the proof, no statement of the seat: AvLaw3, AvLaw4, AvX10, AvY6, AvZ14, AvY7, AvZ15, AvLaw6; no conditions. -/
import Derived.Test.YtiidedhlnlaalaaDoorLayAK
import Derived.Test.YtiidedhlnlaalaaDoorProg
section
namespace Go.Av.F
open Go Go.Av
set_option linter.unusedSimpArgs false
set_option linter.unusedVariables false
set_option maxRecDepth 100000
attribute [local simp] tt3 tt4 tt9 tt5 tt22 tt25 tt23 tt35 tt33 tt27 tt42 tt54

theorem inner3 {Q : Exit → S → Prop} (b x : List BS) (o : BO) (s : BS) (c : Int) (i : Nat) (h8 : s.bl.length = 8) (hx : BkG x) (hxl : x.length < 100000)
    (hk : ∀ (j : Nat) (t : List UInt8), j < 8 → s.bl[j]? = some t → (getB x s.name j).2 = 0 → (s.kind = 1 → s.name ≠ o.a) → (getB x s.name j).1 = t) {st : S}
    (h0 : ∃ φ, canonOk ⟨137, []⟩ φ st ∧ canon [] [3, 4, 5, 6, 9, 10, 11] φ st = ⟨mkT [(3, .ptr 3 0 0), (4, .ptr 4 0 0), (5, .ptr 5 0 0), (6, .int .i64 c), (9, .int .i64 i), (10, .ptr 10 0 0), (11, .int .i64 (0 : Nat))], hpOf [(3, ⟨1, [[.lst 11 (b.map BS.row)]]⟩), (4, opOb o), (5, ⟨1, [[.lst 11 (x.map BS.row)]]⟩), (10, ⟨11, [BS.row s]⟩)], Us.of [3, 4, 5, 10]⟩)
    (hex : ∀ st : S, st.t 3 = .ptr 3 0 0 → st.t 4 = .ptr 4 0 0 → st.t 5 = .ptr 5 0 0 → st.t 6 = .int .i64 c → st.t 9 = .int .i64 i →
      st.h = hpOf [(3, ⟨1, [[.lst 11 (b.map BS.row)]]⟩), (4, opOb o), (5, ⟨1, [[.lst 11 (x.map BS.row)]]⟩), (10, ⟨11, [BS.row s]⟩)] → st.u = Us.of [3, 4, 5, 10] → Q (.exit 2) st) :
    ev Go.Proofs.Tryd.prog ⟨137, []⟩ (.loop ac3_l1) Q st := by
  refine ev_loopX (X := Nat) [3, 4, 5, 6, 9, 10, 11] (fun j => ⟨mkT [(3, .ptr 3 0 0), (4, .ptr 4 0 0), (5, .ptr 5 0 0), (6, .int .i64 c), (9, .int .i64 i), (10, .ptr 10 0 0), (11, .int .i64 j)], hpOf [(3, ⟨1, [[.lst 11 (b.map BS.row)]]⟩), (4, opOb o), (5, ⟨1, [[.lst 11 (x.map BS.row)]]⟩), (10, ⟨11, [BS.row s]⟩)], Us.of [3, 4, 5, 10]⟩) (fun j => 8 - j)
    (fun j => j ≤ 8) 0 ⟨by simp, h0⟩ ?_
  rintro j hj
  by_cases h1 : j < 8
  · obtain ⟨t, e0⟩ : ∃ t, s.bl[j]'(by omega) = t := ⟨_, rfl⟩
    have e1 : s.bl[j]? = some t := by rw [← e0]; exact List.getElem?_eq_getElem (by omega)
    have e2 : IntKind.i64.wrap ((j : Int) + 1) = ((j + 1 : Nat) : Int) := by rw [i64_in' _ (by omega)]; omega
    have h1' : j < s.bl.length := by omega
    have h1'' : (j : Int) < 8 := by omega
    have hk' := hk j t h1 e1
    simp [ac3_l1, h1, h1', h1'', e0, e1, e2, h8, opOb, BO.row]
    refine callA_val en19 (implGetC x s.name j hx hxl) (by simp [bk]) (by simp) ?_
    generalize getB x s.name j = g at hk'
    obtain ⟨g1, g2⟩ := g
    simp only at hk'
    have hj : 3 + j < 11 := by omega
    have fin : ∀ st : S, st.t 3 = .ptr 3 0 0 → st.t 4 = .ptr 4 0 0 → st.t 5 = .ptr 5 0 0 → st.t 6 = .int .i64 c → st.t 9 = .int .i64 i → st.t 10 = .ptr 10 0 0 → st.t 11 = .int .i64 ((j + 1 : Nat) : Int) →
        st.h = hpOf [(3, ⟨1, [[.lst 11 (b.map BS.row)]]⟩), (4, opOb o), (5, ⟨1, [[.lst 11 (x.map BS.row)]]⟩), (10, ⟨11, [BS.row s]⟩)] → st.u = Us.of [3, 4, 5, 10] →
        nextX (X := Nat) ⟨137, []⟩ [3, 4, 5, 6, 9, 10, 11] (fun j => ⟨mkT [(3, .ptr 3 0 0), (4, .ptr 4 0 0), (5, .ptr 5 0 0), (6, .int .i64 c), (9, .int .i64 i), (10, .ptr 10 0 0), (11, .int .i64 j)], hpOf [(3, ⟨1, [[.lst 11 (b.map BS.row)]]⟩), (4, opOb o), (5, ⟨1, [[.lst 11 (x.map BS.row)]]⟩), (10, ⟨11, [BS.row s]⟩)], Us.of [3, 4, 5, 10]⟩) (fun j => 8 - j)
          (fun j => j ≤ 8) j st := by
      rintro ⟨t0, h0, u0⟩ f3 f4 f5 f6 f9 f10 f11 fh fu
      simp only at f3 f4 f5 f6 f9 f10 f11 fh fu
      subst fh fu
      exact nextX_of (j + 1) (by omega) (by omega) [(3, 3), (4, 4), (5, 5), (10, 10)] (by simp [canonOk]) (by simp [canon, obOf, opOb, BO.row, f3, f4, f5, f6, f9, f10, f11])
    simp only [opOb, BO.row] at fin
    by_cases ht : g1 = t
    · by_cases hk1 : s.kind = 1
      · by_cases hkn : s.name = o.a
        · simp [e1, e2, h1'', hj, hk1, hkn, ht]
          exact fin _ (by simp) (by simp) (by simp) (by simp) (by simp) (by simp) (by simp) rfl rfl
        · simp [e1, e2, h1'', hj, hk1, hkn, ht]
          exact fin _ (by simp) (by simp) (by simp) (by simp) (by simp) (by simp) (by simp) rfl rfl
      · simp [e1, e2, h1'', hj, hk1, ht]
        exact fin _ (by simp) (by simp) (by simp) (by simp) (by simp) (by simp) (by simp) rfl rfl
    · by_cases hk1 : s.kind = 1
      · by_cases hkn : s.name = o.a
        · simp [e1, e2, h1'', hj, hk1, hkn, ht]
          exact fin _ (by simp) (by simp) (by simp) (by simp) (by simp) (by simp) (by simp) rfl rfl
        · have hg : ¬ g2 = 0 := fun hg => ht (hk' hg fun _ => hkn)
          simp [e1, e2, h1'', hj, hk1, hkn, ht, hg]
          exact fin _ (by simp) (by simp) (by simp) (by simp) (by simp) (by simp) (by simp) rfl rfl
      · have hg : ¬ g2 = 0 := fun hg => ht (hk' hg fun h => absurd h hk1)
        simp [e1, e2, h1'', hj, hk1, ht, hg]
        exact fin _ (by simp) (by simp) (by simp) (by simp) (by simp) (by simp) (by simp) rfl rfl
  · have : j = 8 := by omega
    subst this
    simp [ac3_l1]
    exact hex _ rfl rfl rfl rfl rfl rfl rfl

theorem loop3 {Q : Exit → S → Prop} (b x : List BS) (o : BO) (c : Int) (hb : BkG b) (hbl : b.length < 100000) (hx : BkG x) (hxl : x.length < 100000)
    (hk : ∀ s ∈ b, ∀ (j : Nat) (t : List UInt8), j < 8 → s.bl[j]? = some t → (getB x s.name j).2 = 0 → (s.kind = 1 → s.name ≠ o.a) → (getB x s.name j).1 = t) {st : S}
    (h0 : ∃ φ, canonOk ⟨137, []⟩ φ st ∧ canon [] [3, 4, 5, 6, 9] φ st = ⟨mkT [(3, .ptr 3 0 0), (4, .ptr 4 0 0), (5, .ptr 5 0 0), (6, .int .i64 c), (9, .int .i64 (0 : Nat))], hpOf [(3, ⟨1, [[.lst 11 (b.map BS.row)]]⟩), (4, opOb o), (5, ⟨1, [[.lst 11 (x.map BS.row)]]⟩)], Us.of [3, 4, 5]⟩)
    (hex : ∀ st : S, st.t 3 = .ptr 3 0 0 → st.t 4 = .ptr 4 0 0 → st.t 5 = .ptr 5 0 0 → st.t 6 = .int .i64 c →
      st.h = hpOf [(3, ⟨1, [[.lst 11 (b.map BS.row)]]⟩), (4, opOb o), (5, ⟨1, [[.lst 11 (x.map BS.row)]]⟩)] → st.u = Us.of [3, 4, 5] → Q (.exit 0) st) :
    ev Go.Proofs.Tryd.prog ⟨137, []⟩ (.loop ac3_l0) Q st := by
  refine ev_loopX (X := Nat) [3, 4, 5, 6, 9] (fun i => ⟨mkT [(3, .ptr 3 0 0), (4, .ptr 4 0 0), (5, .ptr 5 0 0), (6, .int .i64 c), (9, .int .i64 i)], hpOf [(3, ⟨1, [[.lst 11 (b.map BS.row)]]⟩), (4, opOb o), (5, ⟨1, [[.lst 11 (x.map BS.row)]]⟩)], Us.of [3, 4, 5]⟩) (fun i => b.length - i)
    (fun i => i ≤ b.length) 0 ⟨by simp, h0⟩ ?_
  rintro i hi
  by_cases h1 : i < b.length
  · obtain ⟨s, e0⟩ : ∃ s, b[i] = s := ⟨_, rfl⟩
    have e1 : b[i]? = some s := by rw [← e0]; exact List.getElem?_eq_getElem (by omega)
    have e2 : IntKind.i64.wrap ((i : Int) + 1) = ((i + 1 : Nat) : Int) := by rw [i64_in' _ (by omega)]; omega
    have hs := List.mem_of_getElem? e1
    have hs8 := (hb s hs).1
    simp [ac3_l0, h1, e0, e1, row_len _ hs8, row_take _ hs8]
    refine ⟨fun y hy => by
      simp only [BS.row, List.mem_cons, List.mem_map] at hy
      rcases hy with rfl | rfl | rfl | ⟨z, _, rfl⟩ <;> rfl, ?_⟩
    refine inner3 b x o s c i hs8 hx hxl (hk s hs) ⟨[(3, 3), (4, 4), (5, 5), (10, 10)], by simp [canonOk], by simp [canon, obOf, opOb, BO.row]⟩ ?_
    rintro ⟨t0, h0, u0⟩ f3 f4 f5 f6 f9 fh fu
    simp only at f3 f4 f5 f6 f9 fh fu
    subst fh fu
    simp [f9, e2]
    exact nextX_of (i + 1) (by omega) (by omega) [(3, 3), (4, 4), (5, 5)] (by simp [canonOk]) (by simp [canon, obOf, opOb, BO.row, f3, f4, f5, f6])
  · have : i = b.length := by omega
    subst this
    simp [ac3_l0]
    exact hex _ rfl rfl rfl rfl rfl rfl

theorem last3 {Q : Exit → S → Prop} (x : List BS) (o : BO) (hx : BkG x) (hxl : x.length < 100000)
    (hk : ∀ (j : Nat), j < 8 → ∃ t, getB x o.a j = (t, 0) ∧ getB x o.b j = (t, 0)) {st : S}
    (h0 : ∃ φ, canonOk ⟨137, []⟩ φ st ∧ canon [] [4, 5, 15] φ st = ⟨mkT [(4, .ptr 4 0 0), (5, .ptr 5 0 0), (15, .int .i64 (0 : Nat))], hpOf [(4, opOb o), (5, ⟨1, [[.lst 11 (x.map BS.row)]]⟩)], Us.of [4, 5]⟩)
    (hex : ∀ st : S, Q (.exit 4) st) :
    ev Go.Proofs.Tryd.prog ⟨137, []⟩ (.loop ac3_l2) Q st := by
  refine ev_loopX (X := Nat) [4, 5, 15] (fun j => ⟨mkT [(4, .ptr 4 0 0), (5, .ptr 5 0 0), (15, .int .i64 j)], hpOf [(4, opOb o), (5, ⟨1, [[.lst 11 (x.map BS.row)]]⟩)], Us.of [4, 5]⟩) (fun j => 8 - j)
    (fun j => j ≤ 8) 0 ⟨by simp, h0⟩ ?_
  rintro j hj
  by_cases h1 : j < 8
  · have e2 : IntKind.i64.wrap ((j : Int) + 1) = ((j + 1 : Nat) : Int) := by rw [i64_in' _ (by omega)]; omega
    have h1'' : (j : Int) < 8 := by omega
    obtain ⟨t, g1, g2⟩ := hk j h1
    simp [ac3_l2, h1, h1'', opOb, BO.row]
    refine callA_val en19 (implGetC x o.a j hx hxl) (by simp [bk]) (by simp) ?_
    simp [g1]
    refine callA_val en19 (implGetC x o.b j hx hxl) (by simp [bk]) (by simp) ?_
    simp [g2, e2]
    exact nextX_of (j + 1) (by omega) (by omega) [(4, 4), (5, 5)] (by simp [canonOk]) (by simp [canon, obOf, opOb, BO.row])
  · have : j = 8 := by omega
    subst this
    simp [ac3_l2]
    exact hex _

theorem fnBookSnapC (code : List UInt8) : ACall Go.Proofs.Tryd.prog 3 [.lst 1 (code.map u8row)] [] (fun r L' => r = .bool true ∧ L' = []) := by
  apply vc3 (by simp) (by simp)
  simp [ac3]
  intro h0
  refine callA_ex en15 (drawPC code (by omega)) (by simp) ?_
  rintro r ⟨b, o, hb, hbl, ho, rfl⟩
  have hx := resB_gd hb ho
  have hxl := resB_len b o
  simp [bk, BO.row]
  refine callA_val en16 (implDoC b o hb (by omega) ho) (by simp [bk, BO.row]) (by simp [bk, BO.row]) ?_
  simp [bk, BO.row]
  refine callA_val en17 (specDoC b o hb (by omega) ho) (by simp [bk, BO.row]) (by simp [bk, BO.row]) ?_
  simp [bk, BO.row]
  refine callA_val en18 (specOkC b hb (by omega)) (by simp [bk]) (by simp) ?_
  cases hok : bookOkB b with
  | false => simp [resB, hok]
  | true =>
    have hO := okB_iff.1 hok
    simp
    rcases doB_done b o with ⟨c, hc, he⟩ | ⟨x, hd, he⟩
    · have e1 : resB b o = (b, c) := by unfold resB; rw [if_pos hok, he]
      simp only [e1]
      refine loop3 b b o c hb (by omega) hb (by omega) (fun s hs j t hj ht _ _ => ?_) ⟨[(3, 3), (4, 4), (5, 5)], by simp [canonOk], by simp [canon, obOf, opOb, BO.row]⟩ ?_
      · rw [getB_mem hO hs (by omega) (by omega)]; simp [ht]
      rintro ⟨t0, h0, u0⟩ f3 f4 f5 f6 fh fu
      simp only at f3 f4 f5 f6 fh fu
      subst fh fu
      simp [f4, f6, hc]
    · have e1 : resB b o = (x, 0) := by unfold resB; rw [if_pos hok, he]
      have hXO := done_ok hO hd
      rw [e1] at hx hxl
      simp only [e1]
      refine loop3 b x o 0 hb (by omega) hx (by simp only at hxl; omega) (fun s hs j t hj ht hg hn => ?_) ⟨[(3, 3), (4, 4), (5, 5)], by simp [canonOk], by simp [canon, obOf, opOb, BO.row]⟩ ?_
      · obtain ⟨u, hu, hun, hub⟩ := getB_some hXO (by omega) (by omega) hg
        rcases kept hO hd hs hu hun with rfl | ⟨h1, h2⟩
        · rw [hub]; simp [ht]
        · exact absurd h2 (hn h1)
      rintro ⟨t0, h0, u0⟩ f3 f4 f5 f6 fh fu
      simp only at f3 f4 f5 f6 fh fu
      subst fh fu
      by_cases hk : o.kind < 4
      · simp [f4, f6, opOb, BO.row, hk]
      · simp [f4, f6, opOb, BO.row, hk]
        obtain ⟨s, hs, t, ht, hsn, htn, hst⟩ := twins hd (by omega)
        refine last3 x o hx (by simp only at hxl; omega) (fun j hj => ?_) ⟨[(4, 4), (5, 5)], by simp [canonOk], by simp [canon, obOf, opOb, BO.row, f4, f5]⟩ ?_
        · refine ⟨(s.bl[j]?).getD [], ?_, ?_⟩
          · rw [← hsn, getB_mem hXO hs (by omega) (by omega)]; simp
          · rw [← htn, getB_mem hXO ht (by omega) (by omega), hst]; simp
        intro st
        simp
end Go.Av.F
end

section
namespace Go.Av.F
open Go Go.Av
set_option linter.unusedSimpArgs false
set_option linter.unusedVariables false
set_option maxRecDepth 100000
attribute [local simp] tt3 tt4 tt9 tt5 tt22 tt25 tt23 tt35 tt33 tt27 tt42 tt54

def busyB (b : List BS) (s : BS) : Bool := b.any fun u => u.frm == s.name
def killD (b : List BS) (s : BS) : Int := if busyB b s = true then 6 else 0

theorem kill_res {b : List BS} (h : Ok b) {i : Nat} {s : BS} (hs : b[i]? = some s) : (resB b (killO s.name)).2 = killD b s := by
  unfold resB
  rw [if_pos (ok_ok h).2, doB_kill h hs]
  unfold killB killD busyB
  rw [hs]
  simp only
  split <;> rfl

theorem inner4 {Q : Exit → S → Prop} (b : List BS) (s : BS) (d : Int) (i : Nat) (hb : BkG b) (hbl : b.length < 100000) (hi : b[i]? = some s) {st : S}
    (h0 : ∃ φ, canonOk ⟨141, []⟩ φ st ∧ canon [] [3, 12, 14, 15, 16] φ st = ⟨mkT [(3, .ptr 3 0 0), (12, .int .i64 i), (14, .int .i64 d), (15, .bool false), (16, .int .i64 (0 : Nat))], hpOf [(3, ⟨1, [[.lst 11 (b.map BS.row)]]⟩)], Us.of [3]⟩)
    (hex : ∀ st : S, st.t 3 = .ptr 3 0 0 → st.t 12 = .int .i64 i → st.t 14 = .int .i64 d → st.t 15 = .bool (busyB b s) →
      st.h = hpOf [(3, ⟨1, [[.lst 11 (b.map BS.row)]]⟩)] → st.u = Us.of [3] → Q (.exit 2) st) :
    ev Go.Proofs.Tryd.prog ⟨141, []⟩ (.loop ac4_l1) Q st := by
  have hil := (List.getElem?_eq_some_iff.1 hi).1
  have hi0 : b[i] = s := (List.getElem?_eq_some_iff.1 hi).2
  have hs8 := (hb s (List.mem_of_getElem? hi)).1
  refine ev_loopX (X := Nat) [3, 12, 14, 15, 16] (fun j => ⟨mkT [(3, .ptr 3 0 0), (12, .int .i64 i), (14, .int .i64 d), (15, .bool (busyB (b.take j) s)), (16, .int .i64 j)], hpOf [(3, ⟨1, [[.lst 11 (b.map BS.row)]]⟩)], Us.of [3]⟩) (fun j => b.length - j)
    (fun j => j ≤ b.length) 0 ⟨by simp, by simpa [busyB] using h0⟩ ?_
  rintro j hj
  by_cases h1 : j < b.length
  · obtain ⟨t, e0⟩ : ∃ t, b[j] = t := ⟨_, rfl⟩
    have e1 : b[j]? = some t := by rw [← e0]; exact List.getElem?_eq_getElem (by omega)
    have e2 : IntKind.i64.wrap ((j : Int) + 1) = ((j + 1 : Nat) : Int) := by rw [i64_in' _ (by omega)]; omega
    have ht8 := (hb t (List.mem_of_getElem? e1)).1
    have e3 : busyB (b.take (j + 1)) s = (busyB (b.take j) s || t.frm == s.name) := by
      unfold busyB; rw [List.take_add_one, e1]; simp
    cases hbz : busyB (b.take j) s with
    | true =>
      simp [ac4_l1, h1, e0, e1, e2, row_len _ hs8, row_len _ ht8, hbz]
      exact nextX_of (j + 1) (by omega) (by omega) [(3, 3)] (by simp [canonOk]) (by simp [canon, obOf, e3, hbz])
    | false =>
      simp [ac4_l1, h1, e0, e1, e2, row_len _ hs8, row_len _ ht8, hbz, hi, hil, hi0]
      exact nextX_of (j + 1) (by omega) (by omega) [(3, 3)] (by simp [canonOk]) (by simp [canon, obOf, e3, hbz])
  · have : j = b.length := by omega
    subst this
    simp [ac4_l1]
    exact hex _ rfl rfl rfl (by simp) rfl rfl

theorem loop4 {Q : Exit → S → Prop} (b : List BS) (hb : BkG b) (hbl : b.length < 100000) (hO : Ok b) {st : S}
    (h0 : ∃ φ, canonOk ⟨141, []⟩ φ st ∧ canon [] [3, 12] φ st = ⟨mkT [(3, .ptr 3 0 0), (12, .int .i64 (0 : Nat))], hpOf [(3, ⟨1, [[.lst 11 (b.map BS.row)]]⟩)], Us.of [3]⟩)
    (hex : ∀ st : S, Q (.exit 0) st) :
    ev Go.Proofs.Tryd.prog ⟨141, []⟩ (.loop ac4_l0) Q st := by
  refine ev_loopX (X := Nat) [3, 12] (fun i => ⟨mkT [(3, .ptr 3 0 0), (12, .int .i64 i)], hpOf [(3, ⟨1, [[.lst 11 (b.map BS.row)]]⟩)], Us.of [3]⟩) (fun i => b.length - i)
    (fun i => i ≤ b.length) 0 ⟨by simp, h0⟩ ?_
  rintro i hi
  by_cases h1 : i < b.length
  · obtain ⟨s, e0⟩ : ∃ s, b[i] = s := ⟨_, rfl⟩
    have e1 : b[i]? = some s := by rw [← e0]; exact List.getElem?_eq_getElem (by omega)
    have e2 : IntKind.i64.wrap ((i : Int) + 1) = ((i + 1 : Nat) : Int) := by rw [i64_in' _ (by omega)]; omega
    have hs := hb s (List.mem_of_getElem? e1)
    have hop : OpG (killO s.name) := ⟨hs.2.1, by simp [killO]⟩
    simp [ac4_l0, h1, e0, e1, row_len _ hs.1]
    refine callA_val en16 (implDoC b (killO s.name) hb hbl hop) (by simp [bk, BO.row, killO]) (by simp [bk]) ?_
    simp [bk, kill_res hO e1]
    refine inner4 b s (killD b s) i hb hbl e1 ⟨[(3, 3)], by simp [canonOk], by simp [canon, obOf]⟩ ?_
    rintro ⟨t0, h0, u0⟩ f3 f12 f14 f15 fh fu
    simp only at f3 f12 f14 f15 fh fu
    subst fh fu
    cases hz : busyB b s with
    | true =>
      have hk : killD b s = 6 := by unfold killD; rw [if_pos hz]
      simp [f12, f14, f15, e2, hz, hk]
      exact nextX_of (i + 1) (by omega) (by omega) [(3, 3)] (by simp [canonOk]) (by simp [canon, obOf, f3])
    | false =>
      have hk : killD b s = 0 := by unfold killD; rw [if_neg (by simp [hz])]
      simp [f12, f14, f15, e2, hz, hk]
      exact nextX_of (i + 1) (by omega) (by omega) [(3, 3)] (by simp [canonOk]) (by simp [canon, obOf, f3])
  · have : i = b.length := by omega
    subst this
    simp [ac4_l0]
    exact hex _

theorem fnBookKillC (code : List UInt8) : ACall Go.Proofs.Tryd.prog 4 [.lst 1 (code.map u8row)] [] (fun r L' => r = .bool true ∧ L' = []) := by
  apply vc4 (by simp) (by simp)
  simp [ac4]
  intro h0
  refine callA_ex en15 (drawPC code (by omega)) (by simp) ?_
  rintro r ⟨b, o, hb, hbl, ho, rfl⟩
  have hx := resB_gd hb ho
  have hxl := resB_len b o
  simp [bk, BO.row]
  refine callA_val en16 (implDoC b o hb (by omega) ho) (by simp [bk, BO.row]) (by simp [bk, BO.row]) ?_
  simp [bk, BO.row]
  refine callA_val en17 (specDoC b o hb (by omega) ho) (by simp [bk, BO.row]) (by simp [bk, BO.row]) ?_
  simp [bk, BO.row]
  refine callA_val en18 (specOkC b hb (by omega)) (by simp [bk]) (by simp) ?_
  cases hok : bookOkB b with
  | false => simp [resB, hok]
  | true =>
    have hO := okB_iff.1 hok
    rcases doB_done b o with ⟨c, hc, he⟩ | ⟨x, hd, he⟩
    · have e1 : resB b o = (b, c) := by unfold resB; rw [if_pos hok, he]
      by_cases hk1 : o.kind = 1
      · simp [e1, hc, hk1]
        refine loop4 b hb (by omega) hO ⟨[(3, 3)], by simp [canonOk], by simp [canon, obOf]⟩ ?_
        intro st; simp
      · simp [e1, hc, hk1]
        refine loop4 b hb (by omega) hO ⟨[(3, 3)], by simp [canonOk], by simp [canon, obOf]⟩ ?_
        intro st; simp
    · have e1 : resB b o = (x, 0) := by unfold resB; rw [if_pos hok, he]
      have hXO := done_ok hO hd
      rw [e1] at hx hxl
      have hres : ∀ nm, doB x (killO nm) = (b, 0) → resB x (killO nm) = (b, 0) := fun nm h => by unfold resB; rw [if_pos (ok_ok hXO).2, h]
      by_cases hk1 : o.kind = 1
      · have hkl := hres _ (made_kill hO hd (.inl hk1))
        rw [if_pos hk1] at hkl
        simp [e1, hk1]
        refine callA_val en16 (implDoC x (killO o.a) hx (by simp only at hxl; omega) ⟨ho.1, by simp [killO]⟩) (by simp [bk, BO.row, killO]) (by simp [bk]) ?_
        simp [bk, hkl]
        refine callA_val en20 (implSameC b b hb hb (by omega) (by omega)) (by simp [bk]) (by simp) ?_
        simp
        refine loop4 b hb (by omega) hO ⟨[(3, 3)], by simp [canonOk], by simp [canon, obOf]⟩ ?_
        intro st; simp
      · by_cases hk4 : o.kind = 4 ∨ o.kind = 5
        · have hkl := hres _ (made_kill hO hd (.inr hk4))
          rw [if_neg hk1] at hkl
          rcases hk4 with hk4 | hk4
          · simp [e1, hk4]
            refine callA_val en16 (implDoC x (killO o.b) hx (by simp only at hxl; omega) ⟨ho.2, by simp [killO]⟩) (by simp [bk, BO.row, killO]) (by simp [bk]) ?_
            simp [bk, hkl]
            refine callA_val en20 (implSameC b b hb hb (by omega) (by omega)) (by simp [bk]) (by simp) ?_
            simp
            refine loop4 b hb (by omega) hO ⟨[(3, 3)], by simp [canonOk], by simp [canon, obOf]⟩ ?_
            intro st; simp
          · simp [e1, hk4]
            refine callA_val en16 (implDoC x (killO o.b) hx (by simp only at hxl; omega) ⟨ho.2, by simp [killO]⟩) (by simp [bk, BO.row, killO]) (by simp [bk]) ?_
            simp [bk, hkl]
            refine callA_val en20 (implSameC b b hb hb (by omega) (by omega)) (by simp [bk]) (by simp) ?_
            simp
            refine loop4 b hb (by omega) hO ⟨[(3, 3)], by simp [canonOk], by simp [canon, obOf]⟩ ?_
            intro st; simp
        · have n4 : ¬ o.kind = 4 := fun h => hk4 (.inl h)
          have n5 : ¬ o.kind = 5 := fun h => hk4 (.inr h)
          simp [e1, hk1, n4, n5]
          refine loop4 b hb (by omega) hO ⟨[(3, 3)], by simp [canonOk], by simp [canon, obOf]⟩ ?_
          intro st; simp
end Go.Av.F
end

section
/- A nil slice in a slot told as an empty one. -/
namespace Go.Av
open Go.RowKit
set_option linter.unusedSimpArgs false
set_option linter.unusedVariables false
section
variable {P : Program} {E : Env} {s : S}
theorem sw_ph (k sz : Nat) (hk : s.t k = .nils) (hu : k ∉ s.u) : SW E s ⟨upd s.t k (.sl k 0 0), upd s.h k (some ⟨sz, []⟩), Us.cons k s.u⟩ := fun cx Z γ a w hn hin hs => by
  have h1 := hs.tmp k
  rw [hk] at h1
  have hv : a.tmps.getD k undef = .slice none 0 0 := by
    generalize a.tmps.getD k undef = v at h1
    cases h1; rfl
  have hkn : k < a.tmps.size := by
    apply Classical.byContradiction
    intro h
    rw [Array.getD_eq_getD_getElem?, Array.getElem?_eq_none (by omega)] at hv
    simp [undef] at hv
  have h2 := hs.phantom (d := k) (sz := sz) (by rw [← hs.siz]; exact hkn) hu (u := .slice none 0 0) none rfl
  have ha : a.put (some k) (.slice none 0 0) = a := by
    have h3 : a.tmps.setIfInBounds k (.slice none 0 0) = a.tmps := by
      apply Array.ext_getElem?
      intro i
      rw [Array.getElem?_setIfInBounds]
      split
      · rename_i h
        subst h
        rw [Array.getD_eq_getD_getElem?, Array.getElem?_eq_getElem hkn] at hv
        rw [Array.getElem?_eq_getElem hkn]
        simp at hv
        rw [hv]
      · rfl
    simp only [Act.put]
    obtain ⟨tm, df⟩ := a
    simp_all
  rw [ha] at h2
  exact ⟨Z, _, h2⟩
end
end Go.Av
end

section
/- Functions of the program in the short form; printed by acgen.py. -/
namespace Go.Av.F
open Go Go.Av
set_option maxRecDepth 100000
set_option linter.constructorNameAsVariable false
def ac74_l0 : ACode :=
  .seq (.reg [⟨none, some 12, (Op.binOp BinOp.lss 3 (Operand.tmp 11) (Operand.tmp 10) 3)⟩])
  (.seq (.cond (Operand.tmp 12) (.skip) (.exit 0))
   (.seq (.block 1 (.seq (.reg [⟨none, some 13, (Op.indexAddr 23 (Operand.tmp 9) (Operand.tmp 11))⟩,
         ⟨none, some 14, (Op.load 35 (Operand.tmp 13))⟩,
         ⟨none, some 7, (Op.alloc 35)⟩,
         ⟨none, none, (Op.store 35 (Operand.tmp 7) (Operand.tmp 14))⟩])
      (.seq (.reg [⟨none, some 15, (Op.fieldAddr 35 (Operand.tmp 7) 2)⟩,
          ⟨none, some 16, (Op.load 9 (Operand.tmp 15))⟩,
          ⟨none, some 17, (Op.move (Operand.tmp 1))⟩,
          ⟨none, some 18, (Op.binOp BinOp.eql 9 (Operand.tmp 16) (Operand.tmp 17) 9)⟩])
       (.cond (Operand.tmp 18) (.reg [⟨none, some 19, (Op.move (Operand.tmp 5))⟩,
           ⟨none, some 20, (Op.fieldAddr 35 (Operand.tmp 7) 0)⟩,
           ⟨none, some 21, (Op.load 9 (Operand.tmp 20))⟩,
           ⟨none, some 22, (Op.buildSlice 42 1 #[(0, (Operand.tmp 21))])⟩,
           ⟨none, some 23, (Op.call ⟨(Callee.builtin Builtin.append), #[(Operand.tmp 19), (Operand.tmp 22)], #[42, 42]⟩)⟩,
           ⟨none, some 5, (Op.assign (Operand.tmp 23))⟩]) (.skip)))))
    (.reg [⟨none, some 24, (Op.binOp BinOp.add 3 (Operand.tmp 11) (Operand.const (Value.int IntKind.i64 1)) 3)⟩,
       ⟨none, some 11, (Op.move (Operand.tmp 24))⟩])))
/-- (impl.Book).kids -/
def ac74 : ACode :=
  .seq (.reg [⟨none, some 2, (Op.box 25 (Operand.tmp 0))⟩,
     ⟨none, some 4, (Op.assign (Operand.const (Value.slice none 0 0)))⟩])
  (.seq (.reg [⟨none, some 5, (Op.assign (Operand.const (Value.slice none 0 0)))⟩])
   (.seq (.seq (.reg [⟨none, some 8, (Op.fieldAddr 25 (Operand.tmp 2) 0)⟩,
        ⟨none, some 9, (Op.load 23 (Operand.tmp 8))⟩,
        ⟨none, some 10, (Op.call ⟨(Callee.builtin Builtin.len), #[(Operand.tmp 9)], #[23]⟩)⟩,
        ⟨none, some 11, (Op.move (Operand.const (Value.int IntKind.i64 0)))⟩])
     (.block 0 (.loop ac74_l0)))
    (.seq (.reg [⟨none, some 25, (Op.move (Operand.tmp 5))⟩,
        ⟨none, some 4, (Op.assign (Operand.tmp 25))⟩])
     (.ret))))
theorem vc74 {args : List AV} {L : List (Nat × Ob)} {R : AV → List (Nat × Ob) → Prop} (ha : args.length ≤ 26) (hL : (L.map (·.1)).Nodup)
    (h : ev Go.Proofs.Tryd.prog ⟨26, L.map (·.1)⟩ ac74 (retQ Go.Proofs.Tryd.prog [(ResultVar.tmp 4)] R) ⟨argT args, hpOf L, Us.of (L.map (·.1))⟩) : ACall Go.Proofs.Tryd.prog 74 args L R :=
  acallA (by kernel_rfl) 26 [] [(ResultVar.tmp 4)] Go.Proofs.Tryd.func74 (by kernel_rfl) Go.Proofs.Tryd.ntmps74 (by kernel_rfl) ha hL (va_of_ev _ h)
theorem en74 : enters Go.Proofs.Tryd.prog 74 = true := by kernel_rfl
/-- impl.TreeKids -/
def ac23 : ACode :=
  .seq (.reg [⟨none, some 2, (Op.box 25 (Operand.tmp 0))⟩,
     ⟨none, some 4, (Op.assign (Operand.const (Value.slice none 0 0)))⟩])
  (.seq (.seq (.reg [⟨none, some 5, (Op.load 25 (Operand.tmp 2))⟩,
       ⟨none, some 6, (Op.call ⟨(Callee.value (Operand.func 21)), #[(Operand.tmp 5)], #[25]⟩)⟩,
       ⟨none, some 7, (Op.unOp UnOp.not 4 (Operand.tmp 6))⟩,
       ⟨none, some 8, (Op.move (Operand.tmp 7))⟩,
       ⟨some (8, false), some 9, (Op.move (Operand.tmp 1))⟩,
       ⟨some (8, false), some 10, (Op.binOp BinOp.eql 9 (Operand.tmp 9) (Operand.const (Value.string ⟨#[]⟩)) 9)⟩,
       ⟨none, some 11, (Op.pick (Operand.tmp 8) (Operand.const (Value.bool true)) (Operand.tmp 10))⟩])
    (.cond (Operand.tmp 11) (.seq (.reg [⟨none, some 4, (Op.assign (Operand.const (Value.slice none 0 0)))⟩])
      (.ret)) (.skip)))
   (.seq (.reg [⟨none, some 12, (Op.load 25 (Operand.tmp 2))⟩,
       ⟨none, some 13, (Op.move (Operand.tmp 1))⟩,
       ⟨none, some 14, (Op.call ⟨(Callee.value (Operand.func 74)), #[(Operand.tmp 12), (Operand.tmp 13)], #[25, 9]⟩)⟩,
       ⟨none, some 4, (Op.assign (Operand.tmp 14))⟩])
    (.ret)))
theorem vc23 {args : List AV} {L : List (Nat × Ob)} {R : AV → List (Nat × Ob) → Prop} (ha : args.length ≤ 15) (hL : (L.map (·.1)).Nodup)
    (h : ev Go.Proofs.Tryd.prog ⟨15, L.map (·.1)⟩ ac23 (retQ Go.Proofs.Tryd.prog [(ResultVar.tmp 4)] R) ⟨argT args, hpOf L, Us.of (L.map (·.1))⟩) : ACall Go.Proofs.Tryd.prog 23 args L R :=
  acallA (by kernel_rfl) 15 [] [(ResultVar.tmp 4)] Go.Proofs.Tryd.func23 (by kernel_rfl) Go.Proofs.Tryd.ntmps23 (by kernel_rfl) ha hL (va_of_ev _ h)
theorem en23 : enters Go.Proofs.Tryd.prog 23 = true := by kernel_rfl
def ac25_l0 : ACode :=
  .seq (.seq (.reg [⟨none, some 8, (Op.load 25 (Operand.tmp 2))⟩,
      ⟨none, some 9, (Op.call ⟨(Callee.value (Operand.func 18)), #[(Operand.tmp 8)], #[25]⟩)⟩,
      ⟨none, some 10, (Op.move (Operand.tmp 9))⟩,
      ⟨some (10, true), some 11, (Op.move (Operand.tmp 1))⟩,
      ⟨some (10, true), some 12, (Op.binOp BinOp.neq 9 (Operand.tmp 11) (Operand.const (Value.string ⟨#[]⟩)) 9)⟩,
      ⟨none, some 13, (Op.pick (Operand.tmp 10) (Operand.tmp 12) (Operand.const (Value.bool false)))⟩,
      ⟨none, some 14, (Op.move (Operand.tmp 13))⟩,
      ⟨some (14, true), some 15, (Op.move (Operand.tmp 6))⟩,
      ⟨some (14, true), some 16, (Op.fieldAddr 25 (Operand.tmp 2) 0)⟩,
      ⟨some (14, true), some 17, (Op.load 23 (Operand.tmp 16))⟩,
      ⟨some (14, true), some 18, (Op.call ⟨(Callee.builtin Builtin.len), #[(Operand.tmp 17)], #[23]⟩)⟩,
      ⟨some (14, true), some 19, (Op.binOp BinOp.lss 3 (Operand.tmp 15) (Operand.tmp 18) 3)⟩,
      ⟨none, some 20, (Op.pick (Operand.tmp 14) (Operand.tmp 19) (Operand.const (Value.bool false)))⟩])
   (.cond (Operand.tmp 20) (.skip) (.exit 0)))
  (.seq (.block 1 (.seq (.reg [⟨none, some 23, (Op.fieldAddr 25 (Operand.tmp 2) 0)⟩,
        ⟨none, some 24, (Op.load 23 (Operand.tmp 23))⟩,
        ⟨none, some 25, (Op.move (Operand.tmp 6))⟩,
        ⟨none, some 26, (Op.indexAddr 23 (Operand.tmp 24) (Operand.tmp 25))⟩,
        ⟨none, some 27, (Op.fieldAddr 35 (Operand.tmp 26) 2)⟩,
        ⟨none, some 28, (Op.load 9 (Operand.tmp 27))⟩,
        ⟨none, some 29, (Op.move (Operand.tmp 1))⟩,
        ⟨none, some 30, (Op.binOp BinOp.eql 9 (Operand.tmp 28) (Operand.tmp 29) 9)⟩])
     (.cond (Operand.tmp 30) (.reg [⟨none, some 31, (Op.move (Operand.tmp 5))⟩,
         ⟨none, some 32, (Op.fieldAddr 25 (Operand.tmp 2) 0)⟩,
         ⟨none, some 33, (Op.load 23 (Operand.tmp 32))⟩,
         ⟨none, some 34, (Op.move (Operand.tmp 6))⟩,
         ⟨none, some 35, (Op.indexAddr 23 (Operand.tmp 33) (Operand.tmp 34))⟩,
         ⟨none, some 36, (Op.fieldAddr 35 (Operand.tmp 35) 0)⟩,
         ⟨none, some 37, (Op.load 9 (Operand.tmp 36))⟩,
         ⟨none, some 38, (Op.buildSlice 42 1 #[(0, (Operand.tmp 37))])⟩,
         ⟨none, some 39, (Op.call ⟨(Callee.builtin Builtin.append), #[(Operand.tmp 31), (Operand.tmp 38)], #[42, 42]⟩)⟩,
         ⟨none, some 5, (Op.assign (Operand.tmp 39))⟩]) (.skip))))
   (.reg [⟨none, some 21, (Op.move (Operand.tmp 6))⟩,
      ⟨none, some 22, (Op.binOp BinOp.add 3 (Operand.tmp 21) (Operand.const (Value.int IntKind.i64 1)) 3)⟩,
      ⟨none, some 6, (Op.assign (Operand.tmp 22))⟩]))
/-- spec.TreeKids -/
def ac25 : ACode :=
  .seq (.reg [⟨none, some 2, (Op.box 25 (Operand.tmp 0))⟩,
     ⟨none, some 4, (Op.assign (Operand.const (Value.slice none 0 0)))⟩])
  (.seq (.reg [⟨none, some 7, (Op.buildSlice 42 0 #[])⟩,
      ⟨none, some 5, (Op.assign (Operand.tmp 7))⟩])
   (.seq (.seq (.reg [⟨none, some 6, (Op.assign (Operand.const (Value.int IntKind.i64 0)))⟩])
     (.block 0 (.loop ac25_l0)))
    (.seq (.reg [⟨none, some 40, (Op.move (Operand.tmp 5))⟩,
        ⟨none, some 4, (Op.assign (Operand.tmp 40))⟩])
     (.ret))))
theorem vc25 {args : List AV} {L : List (Nat × Ob)} {R : AV → List (Nat × Ob) → Prop} (ha : args.length ≤ 41) (hL : (L.map (·.1)).Nodup)
    (h : ev Go.Proofs.Tryd.prog ⟨41, L.map (·.1)⟩ ac25 (retQ Go.Proofs.Tryd.prog [(ResultVar.tmp 4)] R) ⟨argT args, hpOf L, Us.of (L.map (·.1))⟩) : ACall Go.Proofs.Tryd.prog 25 args L R :=
  acallA (by kernel_rfl) 41 [] [(ResultVar.tmp 4)] Go.Proofs.Tryd.func25 (by kernel_rfl) Go.Proofs.Tryd.ntmps25 (by kernel_rfl) ha hL (va_of_ev _ h)
theorem en25 : enters Go.Proofs.Tryd.prog 25 = true := by kernel_rfl
def ac24_l0 : ACode :=
  .seq (.seq (.reg [⟨none, some 11, (Op.move (Operand.tmp 5))⟩,
      ⟨none, some 12, (Op.move (Operand.tmp 0))⟩,
      ⟨none, some 13, (Op.call ⟨(Callee.builtin Builtin.len), #[(Operand.tmp 12)], #[42]⟩)⟩,
      ⟨none, some 14, (Op.binOp BinOp.lss 3 (Operand.tmp 11) (Operand.tmp 13) 3)⟩])
   (.cond (Operand.tmp 14) (.skip) (.exit 0)))
  (.seq (.block 1 (.seq (.draw [⟨⟨none, some 17, (Op.move (Operand.tmp 0))⟩, [], [], []⟩,
        ⟨⟨none, some 18, (Op.move (Operand.tmp 5))⟩, [], [], []⟩,
        ⟨⟨none, some 19, (Op.indexAddr 42 (Operand.tmp 17) (Operand.tmp 18))⟩, [], [], []⟩,
        ⟨⟨none, some 20, (Op.load 9 (Operand.tmp 19))⟩, [], [], []⟩,
        ⟨⟨none, some 21, (Op.move (Operand.tmp 1))⟩, [], [], []⟩,
        ⟨⟨none, some 22, (Op.move (Operand.tmp 5))⟩, [], [], []⟩,
        ⟨⟨none, some 23, (Op.indexAddr 42 (Operand.tmp 21) (Operand.tmp 22))⟩, [], [], []⟩,
        ⟨⟨none, some 24, (Op.load 9 (Operand.tmp 23))⟩, [], [], []⟩,
        ⟨⟨none, some 25, (Op.binOp BinOp.neq 9 (Operand.tmp 20) (Operand.tmp 24) 9)⟩, [], [], []⟩])
     (.cond (Operand.tmp 25) (.seq (.reg [⟨none, some 4, (Op.assign (Operand.const (Value.bool false)))⟩])
       (.ret)) (.skip))))
   (.reg [⟨none, some 15, (Op.move (Operand.tmp 5))⟩,
      ⟨none, some 16, (Op.binOp BinOp.add 3 (Operand.tmp 15) (Operand.const (Value.int IntKind.i64 1)) 3)⟩,
      ⟨none, some 5, (Op.assign (Operand.tmp 16))⟩]))
/-- laws.wbTexts -/
def ac24 : ACode :=
  .seq (.reg [⟨none, some 4, (Op.assign (Operand.const (Value.bool false)))⟩])
  (.seq (.seq (.reg [⟨none, some 6, (Op.move (Operand.tmp 0))⟩,
       ⟨none, some 7, (Op.call ⟨(Callee.builtin Builtin.len), #[(Operand.tmp 6)], #[42]⟩)⟩,
       ⟨none, some 8, (Op.move (Operand.tmp 1))⟩,
       ⟨none, some 9, (Op.call ⟨(Callee.builtin Builtin.len), #[(Operand.tmp 8)], #[42]⟩)⟩,
       ⟨none, some 10, (Op.binOp BinOp.neq 3 (Operand.tmp 7) (Operand.tmp 9) 3)⟩])
    (.cond (Operand.tmp 10) (.seq (.reg [⟨none, some 4, (Op.assign (Operand.const (Value.bool false)))⟩])
      (.ret)) (.skip)))
   (.seq (.seq (.reg [⟨none, some 5, (Op.assign (Operand.const (Value.int IntKind.i64 0)))⟩])
     (.block 0 (.loop ac24_l0)))
    (.seq (.reg [⟨none, some 4, (Op.assign (Operand.const (Value.bool true)))⟩])
     (.ret))))
theorem vc24 {args : List AV} {L : List (Nat × Ob)} {R : AV → List (Nat × Ob) → Prop} (ha : args.length ≤ 26) (hL : (L.map (·.1)).Nodup)
    (h : ev Go.Proofs.Tryd.prog ⟨26, L.map (·.1)⟩ ac24 (retQ Go.Proofs.Tryd.prog [(ResultVar.tmp 4)] R) ⟨argT args, hpOf L, Us.of (L.map (·.1))⟩) : ACall Go.Proofs.Tryd.prog 24 args L R :=
  acallA (by kernel_rfl) 26 [(6, [⟨0, [], [], [], [2, 3, 8]⟩, ⟨1, [], [], [], [2, 3, 8]⟩, ⟨2, [], [], [], [3, 8]⟩, ⟨3, [], [], [], [8]⟩, ⟨4, [], [], [], [6, 7, 8]⟩, ⟨5, [], [], [], [6, 7, 8]⟩, ⟨6, [], [], [], [7, 8]⟩, ⟨7, [], [], [], [8]⟩, ⟨8, [], [], [], []⟩])] [(ResultVar.tmp 4)] Go.Proofs.Tryd.func24 (by kernel_rfl) Go.Proofs.Tryd.ntmps24 (by kernel_rfl) ha hL (va_of_ev _ h)
theorem en24 : enters Go.Proofs.Tryd.prog 24 = true := by kernel_rfl
/-- spec.l15Named -/
def ac73 : ACode :=
  .seq (.reg [⟨none, some 2, (Op.alloc 25)⟩,
     ⟨none, some 3, (Op.assign (Operand.const (Value.string ⟨#[]⟩)))⟩])
  (.seq (.reg [⟨none, some 7, (Op.move (Operand.tmp 0))⟩,
      ⟨none, some 8, (Op.call ⟨(Callee.value (Operand.func 55)), #[(Operand.tmp 7)], #[22]⟩)⟩,
      ⟨none, some 4, (Op.assign (Operand.tmp 8))⟩])
   (.seq (.reg [⟨none, some 9, (Op.move (Operand.tmp 4))⟩,
       ⟨none, some 10, (Op.call ⟨(Callee.value (Operand.func 56)), #[(Operand.tmp 9)], #[88]⟩)⟩,
       ⟨none, some 5, (Op.alloc 25)⟩,
       ⟨none, none, (Op.store 25 (Operand.tmp 5) (Operand.tmp 10))⟩])
    (.seq (.seq (.reg [⟨none, some 11, (Op.fieldAddr 25 (Operand.tmp 5) 0)⟩,
         ⟨none, some 12, (Op.load 23 (Operand.tmp 11))⟩,
         ⟨none, some 13, (Op.call ⟨(Callee.builtin Builtin.len), #[(Operand.tmp 12)], #[23]⟩)⟩,
         ⟨none, some 14, (Op.binOp BinOp.gtr 3 (Operand.tmp 13) (Operand.const (Value.int IntKind.i64 0)) 3)⟩,
         ⟨none, some 15, (Op.move (Operand.tmp 14))⟩,
         ⟨some (15, true), some 16, (Op.move (Operand.tmp 4))⟩,
         ⟨some (15, true), some 17, (Op.call ⟨(Callee.value (Operand.func 116)), #[(Operand.tmp 16), (Operand.const (Value.int IntKind.i64 5))], #[88, 3]⟩)⟩,
         ⟨some (15, true), some 18, (Op.binOp BinOp.gtr 3 (Operand.tmp 17) (Operand.const (Value.int IntKind.i64 0)) 3)⟩,
         ⟨none, some 19, (Op.pick (Operand.tmp 15) (Operand.tmp 18) (Operand.const (Value.bool false)))⟩])
      (.cond (Operand.tmp 19) (.seq (.draw [⟨⟨none, some 20, (Op.fieldAddr 25 (Operand.tmp 5) 0)⟩, [], [], []⟩,
           ⟨⟨none, some 21, (Op.load 23 (Operand.tmp 20))⟩, [5], [], []⟩,
           ⟨⟨none, some 22, (Op.move (Operand.tmp 4))⟩, [], [5], []⟩,
           ⟨⟨none, some 23, (Op.fieldAddr 25 (Operand.tmp 5) 0)⟩, [], [5], []⟩,
           ⟨⟨none, some 24, (Op.load 23 (Operand.tmp 23))⟩, [5], [5], []⟩,
           ⟨⟨none, some 25, (Op.call ⟨(Callee.builtin Builtin.len), #[(Operand.tmp 24)], #[23]⟩)⟩, [], [5], []⟩,
           ⟨⟨none, some 26, (Op.call ⟨(Callee.value (Operand.func 116)), #[(Operand.tmp 22), (Operand.tmp 25)], #[88, 3]⟩)⟩, [], [5], [(6, (Op.alloc 35))]⟩,
           ⟨⟨none, some 27, (Op.indexAddr 23 (Operand.tmp 21) (Operand.tmp 26))⟩, [], [], []⟩,
           ⟨⟨none, some 28, (Op.load 35 (Operand.tmp 27))⟩, [], [], []⟩,
           ⟨⟨none, some 6, (Op.alloc 35)⟩, [], [5], []⟩,
           ⟨⟨none, none, (Op.store 35 (Operand.tmp 6) (Operand.tmp 28))⟩, [], [], []⟩])
        (.seq (.seq (.reg [⟨none, some 29, (Op.fieldAddr 35 (Operand.tmp 6) 2)⟩,
             ⟨none, some 30, (Op.load 9 (Operand.tmp 29))⟩,
             ⟨none, some 31, (Op.binOp BinOp.neq 9 (Operand.tmp 30) (Operand.const (Value.string ⟨#[]⟩)) 9)⟩,
             ⟨none, some 32, (Op.move (Operand.tmp 31))⟩,
             ⟨some (32, true), some 33, (Op.move (Operand.tmp 4))⟩,
             ⟨some (32, true), some 34, (Op.call ⟨(Callee.value (Operand.func 116)), #[(Operand.tmp 33), (Operand.const (Value.int IntKind.i64 2))], #[88, 3]⟩)⟩,
             ⟨some (32, true), some 35, (Op.binOp BinOp.eql 3 (Operand.tmp 34) (Operand.const (Value.int IntKind.i64 0)) 3)⟩,
             ⟨none, some 36, (Op.pick (Operand.tmp 32) (Operand.tmp 35) (Operand.const (Value.bool false)))⟩])
          (.cond (Operand.tmp 36) (.seq (.draw [⟨⟨none, some 37, (Op.load 25 (Operand.tmp 5))⟩, [5], [], []⟩,
               ⟨⟨none, some 38, (Op.fieldAddr 35 (Operand.tmp 6) 2)⟩, [], [5], []⟩,
               ⟨⟨none, some 39, (Op.load 9 (Operand.tmp 38))⟩, [6], [5], []⟩,
               ⟨⟨none, none, (Op.store 25 (Operand.tmp 2) (Operand.tmp 37))⟩, [], [6], []⟩,
               ⟨⟨none, some 3, (Op.assign (Operand.tmp 39))⟩, [], [], []⟩])
            (.ret)) (.skip)))
         (.seq (.draw [⟨⟨none, some 40, (Op.load 25 (Operand.tmp 5))⟩, [5], [], []⟩,
             ⟨⟨none, some 41, (Op.fieldAddr 35 (Operand.tmp 6) 0)⟩, [], [5], []⟩,
             ⟨⟨none, some 42, (Op.load 9 (Operand.tmp 41))⟩, [6], [5], []⟩,
             ⟨⟨none, none, (Op.store 25 (Operand.tmp 2) (Operand.tmp 40))⟩, [], [6], []⟩,
             ⟨⟨none, some 3, (Op.assign (Operand.tmp 42))⟩, [], [], []⟩])
          (.ret)))) (.skip)))
     (.seq (.draw [⟨⟨none, some 43, (Op.load 25 (Operand.tmp 5))⟩, [5], [], []⟩,
         ⟨⟨none, some 44, (Op.move (Operand.tmp 4))⟩, [], [5], []⟩,
         ⟨⟨none, some 45, (Op.buildSlice 42 3 #[(0, (Operand.const (Value.string ⟨#[110, 111, 110, 101]⟩))), (1, (Operand.const (Value.string ⟨#[]⟩))), (2, (Operand.const (Value.string ⟨#[97]⟩)))])⟩, [], [5], []⟩,
         ⟨⟨none, some 46, (Op.call ⟨(Callee.value (Operand.func 117)), #[(Operand.tmp 44), (Operand.tmp 45)], #[88, 42]⟩)⟩, [], [5], []⟩,
         ⟨⟨none, none, (Op.store 25 (Operand.tmp 2) (Operand.tmp 43))⟩, [], [], []⟩,
         ⟨⟨none, some 3, (Op.assign (Operand.tmp 46))⟩, [], [], []⟩])
      (.ret)))))
theorem vc73 {args : List AV} {L : List (Nat × Ob)} {R : AV → List (Nat × Ob) → Prop} (ha : args.length ≤ 47) (hL : (L.map (·.1)).Nodup)
    (h : ev Go.Proofs.Tryd.prog ⟨47, L.map (·.1)⟩ ac73 (retQ Go.Proofs.Tryd.prog [(ResultVar.cell 2 25), (ResultVar.tmp 3)] R) ⟨argT args, hpOf L, Us.of (L.map (·.1))⟩) : ACall Go.Proofs.Tryd.prog 73 args L R :=
  acallA (by kernel_rfl) 47 [(4, [⟨0, [], [], [], [1, 7, 8, 10]⟩, ⟨1, [5], [], [], [7, 8, 10]⟩, ⟨2, [], [5], [], [6, 7, 8, 10]⟩, ⟨3, [], [5], [], [4, 5, 6, 7, 8, 10]⟩, ⟨4, [5], [5], [], [5, 6, 7, 8, 10]⟩, ⟨5, [], [5], [], [6, 7, 8, 10]⟩, ⟨6, [], [5], [9], [7, 8, 10]⟩, ⟨7, [], [], [], [8, 10]⟩, ⟨8, [], [], [], [10]⟩, ⟨9, [], [5], [], [10]⟩, ⟨10, [], [], [], []⟩]), (6, [⟨0, [5], [], [], [3, 4]⟩, ⟨1, [], [5], [], [2, 4]⟩, ⟨2, [6], [5], [], [4]⟩, ⟨3, [], [6], [], [4]⟩, ⟨4, [], [], [], []⟩]), (7, [⟨0, [5], [], [], [3, 4]⟩, ⟨1, [], [5], [], [2, 4]⟩, ⟨2, [6], [5], [], [4]⟩, ⟨3, [], [6], [], [4]⟩, ⟨4, [], [], [], []⟩]), (8, [⟨0, [5], [], [], [4, 5]⟩, ⟨1, [], [5], [], [3, 4, 5]⟩, ⟨2, [], [5], [], [3, 4, 5]⟩, ⟨3, [], [5], [], [4, 5]⟩, ⟨4, [], [], [], [5]⟩, ⟨5, [], [], [], []⟩])] [(ResultVar.cell 2 25), (ResultVar.tmp 3)] Go.Proofs.Tryd.func73 (by kernel_rfl) Go.Proofs.Tryd.ntmps73 (by kernel_rfl) ha hL (va_of_ev _ h)
theorem en73 : enters Go.Proofs.Tryd.prog 73 = true := by kernel_rfl
/-- spec.DrawTreeKids -/
def ac22 : ACode :=
  .seq (.reg [⟨none, some 2, (Op.alloc 25)⟩,
     ⟨none, some 3, (Op.assign (Operand.const (Value.string ⟨#[]⟩)))⟩])
  (.seq (.reg [⟨none, some 4, (Op.move (Operand.tmp 0))⟩,
      ⟨none, some 5, (Op.call ⟨(Callee.value (Operand.func 73)), #[(Operand.tmp 4)], #[22]⟩)⟩,
      ⟨none, some 6, (Op.extract (Operand.tmp 5) 0)⟩,
      ⟨none, some 7, (Op.extract (Operand.tmp 5) 1)⟩,
      ⟨none, none, (Op.store 25 (Operand.tmp 2) (Operand.tmp 6))⟩,
      ⟨none, some 3, (Op.assign (Operand.tmp 7))⟩])
   (.ret))
theorem vc22 {args : List AV} {L : List (Nat × Ob)} {R : AV → List (Nat × Ob) → Prop} (ha : args.length ≤ 8) (hL : (L.map (·.1)).Nodup)
    (h : ev Go.Proofs.Tryd.prog ⟨8, L.map (·.1)⟩ ac22 (retQ Go.Proofs.Tryd.prog [(ResultVar.cell 2 25), (ResultVar.tmp 3)] R) ⟨argT args, hpOf L, Us.of (L.map (·.1))⟩) : ACall Go.Proofs.Tryd.prog 22 args L R :=
  acallA (by kernel_rfl) 8 [] [(ResultVar.cell 2 25), (ResultVar.tmp 3)] Go.Proofs.Tryd.func22 (by kernel_rfl) Go.Proofs.Tryd.ntmps22 (by kernel_rfl) ha hL (va_of_ev _ h)
theorem en22 : enters Go.Proofs.Tryd.prog 22 = true := by kernel_rfl
def ac6_l0 : ACode :=
  .seq (.seq (.reg [⟨none, some 34, (Op.move (Operand.tmp 9))⟩,
      ⟨none, some 35, (Op.fieldAddr 25 (Operand.tmp 3) 0)⟩,
      ⟨none, some 36, (Op.load 23 (Operand.tmp 35))⟩,
      ⟨none, some 37, (Op.call ⟨(Callee.builtin Builtin.len), #[(Operand.tmp 36)], #[23]⟩)⟩,
      ⟨none, some 38, (Op.binOp BinOp.lss 3 (Operand.tmp 34) (Operand.tmp 37) 3)⟩,
      ⟨none, some 39, (Op.move (Operand.tmp 38))⟩,
      ⟨some (39, true), some 40, (Op.load 25 (Operand.tmp 3))⟩,
      ⟨some (39, true), some 41, (Op.call ⟨(Callee.value (Operand.func 18)), #[(Operand.tmp 40)], #[25]⟩)⟩,
      ⟨none, some 42, (Op.pick (Operand.tmp 39) (Operand.tmp 41) (Operand.const (Value.bool false)))⟩])
   (.cond (Operand.tmp 42) (.skip) (.exit 0)))
  (.seq (.block 1 (.seq (.reg [⟨none, some 45, (Op.move (Operand.tmp 4))⟩,
        ⟨none, some 46, (Op.binOp BinOp.neq 9 (Operand.tmp 45) (Operand.const (Value.string ⟨#[]⟩)) 9)⟩,
        ⟨none, some 47, (Op.move (Operand.tmp 46))⟩,
        ⟨some (47, true), some 48, (Op.fieldAddr 25 (Operand.tmp 3) 0)⟩,
        ⟨some (47, true), some 49, (Op.load 23 (Operand.tmp 48))⟩,
        ⟨some (47, true), some 50, (Op.move (Operand.tmp 9))⟩,
        ⟨some (47, true), some 51, (Op.indexAddr 23 (Operand.tmp 49) (Operand.tmp 50))⟩,
        ⟨some (47, true), some 52, (Op.fieldAddr 35 (Operand.tmp 51) 2)⟩,
        ⟨some (47, true), some 53, (Op.load 9 (Operand.tmp 52))⟩,
        ⟨some (47, true), some 54, (Op.move (Operand.tmp 4))⟩,
        ⟨some (47, true), some 55, (Op.binOp BinOp.eql 9 (Operand.tmp 53) (Operand.tmp 54) 9)⟩,
        ⟨none, some 56, (Op.pick (Operand.tmp 47) (Operand.tmp 55) (Operand.const (Value.bool false)))⟩])
     (.cond (Operand.tmp 56) (.reg [⟨none, some 57, (Op.move (Operand.tmp 8))⟩,
         ⟨none, some 58, (Op.binOp BinOp.add 3 (Operand.tmp 57) (Operand.const (Value.int IntKind.i64 1)) 3)⟩,
         ⟨none, some 8, (Op.assign (Operand.tmp 58))⟩]) (.skip))))
   (.reg [⟨none, some 43, (Op.move (Operand.tmp 9))⟩,
      ⟨none, some 44, (Op.binOp BinOp.add 3 (Operand.tmp 43) (Operand.const (Value.int IntKind.i64 1)) 3)⟩,
      ⟨none, some 9, (Op.assign (Operand.tmp 44))⟩]))
/-- laws.FnTreeMay -/
def ac6 : ACode :=
  .seq (.reg [⟨none, some 2, (Op.assign (Operand.const (Value.bool false)))⟩])
  (.seq (.seq (.reg [⟨none, some 10, (Op.move (Operand.tmp 0))⟩,
       ⟨none, some 11, (Op.call ⟨(Callee.builtin Builtin.len), #[(Operand.tmp 10)], #[22]⟩)⟩,
       ⟨none, some 12, (Op.binOp BinOp.gtr 3 (Operand.tmp 11) (Operand.const (Value.int IntKind.i64 1048576)) 3)⟩])
    (.cond (Operand.tmp 12) (.seq (.reg [⟨none, some 2, (Op.assign (Operand.const (Value.bool true)))⟩])
      (.ret)) (.skip)))
   (.seq (.reg [⟨none, some 14, (Op.move (Operand.tmp 0))⟩,
       ⟨none, some 15, (Op.call ⟨(Callee.value (Operand.func 22)), #[(Operand.tmp 14)], #[22]⟩)⟩,
       ⟨none, some 13, (Op.move (Operand.tmp 15))⟩,
       ⟨none, some 16, (Op.extract (Operand.tmp 13) 0)⟩,
       ⟨none, some 17, (Op.extract (Operand.tmp 13) 1)⟩,
       ⟨none, some 3, (Op.alloc 25)⟩,
       ⟨none, none, (Op.store 25 (Operand.tmp 3) (Operand.tmp 16))⟩,
       ⟨none, some 4, (Op.assign (Operand.tmp 17))⟩])
    (.seq (.reg [⟨none, some 18, (Op.load 25 (Operand.tmp 3))⟩,
        ⟨none, some 19, (Op.move (Operand.tmp 4))⟩,
        ⟨none, some 20, (Op.call ⟨(Callee.value (Operand.func 23)), #[(Operand.tmp 18), (Operand.tmp 19)], #[25, 9]⟩)⟩,
        ⟨none, some 5, (Op.assign (Operand.tmp 20))⟩])
     (.seq (.seq (.reg [⟨none, some 21, (Op.move (Operand.tmp 5))⟩,
          ⟨none, some 22, (Op.load 25 (Operand.tmp 3))⟩,
          ⟨none, some 23, (Op.move (Operand.tmp 4))⟩,
          ⟨none, some 24, (Op.call ⟨(Callee.value (Operand.func 25)), #[(Operand.tmp 22), (Operand.tmp 23)], #[25, 9]⟩)⟩,
          ⟨none, some 25, (Op.call ⟨(Callee.value (Operand.func 24)), #[(Operand.tmp 21), (Operand.tmp 24)], #[42, 42]⟩)⟩,
          ⟨none, some 26, (Op.unOp UnOp.not 4 (Operand.tmp 25))⟩])
       (.cond (Operand.tmp 26) (.seq (.reg [⟨none, some 2, (Op.assign (Operand.const (Value.bool false)))⟩])
         (.ret)) (.skip)))
      (.seq (.reg [⟨none, some 28, (Op.load 25 (Operand.tmp 3))⟩,
          ⟨none, some 29, (Op.move (Operand.tmp 4))⟩,
          ⟨none, some 30, (Op.build 27 #[(0, (Operand.const (Value.int IntKind.i64 2))), (1, (Operand.tmp 29))])⟩,
          ⟨none, some 31, (Op.call ⟨(Callee.value (Operand.func 16)), #[(Operand.tmp 28), (Operand.tmp 30)], #[25, 27]⟩)⟩,
          ⟨none, some 27, (Op.move (Operand.tmp 31))⟩,
          ⟨none, some 32, (Op.extract (Operand.tmp 27) 0)⟩,
          ⟨none, some 33, (Op.extract (Operand.tmp 27) 1)⟩,
          ⟨none, some 6, (Op.alloc 25)⟩,
          ⟨none, none, (Op.store 25 (Operand.tmp 6) (Operand.tmp 32))⟩,
          ⟨none, some 7, (Op.assign (Operand.tmp 33))⟩])
       (.seq (.reg [⟨none, some 8, (Op.assign (Operand.const (Value.int IntKind.i64 0)))⟩])
        (.seq (.seq (.reg [⟨none, some 9, (Op.assign (Operand.const (Value.int IntKind.i64 0)))⟩])
          (.block 0 (.loop ac6_l0)))
         (.seq (.reg [⟨none, some 59, (Op.move (Operand.tmp 8))⟩,
             ⟨none, some 60, (Op.move (Operand.tmp 5))⟩,
             ⟨none, some 61, (Op.call ⟨(Callee.builtin Builtin.len), #[(Operand.tmp 60)], #[42]⟩)⟩,
             ⟨none, some 62, (Op.binOp BinOp.eql 3 (Operand.tmp 59) (Operand.tmp 61) 3)⟩,
             ⟨none, some 63, (Op.move (Operand.tmp 62))⟩,
             ⟨some (63, true), some 64, (Op.move (Operand.tmp 7))⟩,
             ⟨some (63, true), some 65, (Op.binOp BinOp.neq 3 (Operand.tmp 64) (Operand.const (Value.int IntKind.i64 6)) 3)⟩,
             ⟨some (63, true), some 66, (Op.move (Operand.tmp 65))⟩,
             ⟨some (66, false), some 67, (Op.move (Operand.tmp 8))⟩,
             ⟨some (66, false), some 68, (Op.binOp BinOp.gtr 3 (Operand.tmp 67) (Operand.const (Value.int IntKind.i64 0)) 3)⟩,
             ⟨some (63, true), some 69, (Op.pick (Operand.tmp 66) (Operand.const (Value.bool true)) (Operand.tmp 68))⟩,
             ⟨none, some 70, (Op.pick (Operand.tmp 63) (Operand.tmp 69) (Operand.const (Value.bool false)))⟩,
             ⟨none, some 71, (Op.move (Operand.tmp 70))⟩,
             ⟨some (71, true), some 72, (Op.move (Operand.tmp 7))⟩,
             ⟨some (71, true), some 73, (Op.binOp BinOp.neq 3 (Operand.tmp 72) (Operand.const (Value.int IntKind.i64 0)) 3)⟩,
             ⟨some (71, true), some 74, (Op.move (Operand.tmp 73))⟩,
             ⟨some (74, false), some 75, (Op.move (Operand.tmp 8))⟩,
             ⟨some (74, false), some 76, (Op.binOp BinOp.eql 3 (Operand.tmp 75) (Operand.const (Value.int IntKind.i64 0)) 3)⟩,
             ⟨some (71, true), some 77, (Op.pick (Operand.tmp 74) (Operand.const (Value.bool true)) (Operand.tmp 76))⟩,
             ⟨none, some 78, (Op.pick (Operand.tmp 71) (Operand.tmp 77) (Operand.const (Value.bool false)))⟩,
             ⟨none, some 2, (Op.assign (Operand.tmp 78))⟩])
          (.ret)))))))))
theorem vc6 {args : List AV} {L : List (Nat × Ob)} {R : AV → List (Nat × Ob) → Prop} (ha : args.length ≤ 79) (hL : (L.map (·.1)).Nodup)
    (h : ev Go.Proofs.Tryd.prog ⟨79, L.map (·.1)⟩ ac6 (retQ Go.Proofs.Tryd.prog [(ResultVar.tmp 2)] R) ⟨argT args, hpOf L, Us.of (L.map (·.1))⟩) : ACall Go.Proofs.Tryd.prog 6 args L R :=
  acallA (by kernel_rfl) 79 [] [(ResultVar.tmp 2)] Go.Proofs.Tryd.func6 (by kernel_rfl) Go.Proofs.Tryd.ntmps6 (by kernel_rfl) ha hL (va_of_ev _ h)
theorem en6 : enters Go.Proofs.Tryd.prog 6 = true := by kernel_rfl
end Go.Av.F
end

section
namespace Go.Av.F
open Go Go.Av
set_option linter.unusedSimpArgs false
set_option linter.unusedVariables false
set_option maxRecDepth 100000
attribute [local simp] tt3 tt4 tt9 tt5 tt22 tt25 tt23 tt35 tt33 tt27 tt42 tt54

theorem renL_strc (ρ : Nat → Option Plc) : (renL ρ ∘ strRow) = strRow := by funext x; simp [strRow]
theorem take_str (l : List (List UInt8)) : List.take l.length (l.map strRow) = l.map strRow := List.take_of_length_le (by simp)
attribute [local simp] renL_strc take_str
def kidsB (b : List BS) (name : List UInt8) : List (List UInt8) := (b.filter fun s => s.frm == name).map (·.name)
theorem kids_len (b : List BS) (name : List UInt8) : (kidsB b name).length ≤ b.length := by
  unfold kidsB; rw [List.length_map]; exact List.length_filter_le _ _
theorem kids_step {b : List BS} {i : Nat} {s : BS} (h : b[i]? = some s) (name : List UInt8) : kidsB (b.take (i + 1)) name = kidsB (b.take i) name ++ (if s.frm = name then [s.name] else []) := by
  unfold kidsB
  rw [List.take_add_one, h]
  by_cases hs : s.frm = name
  · simp [hs]
  · simp [hs]

theorem oneA_row (s : BS) : ∀ x ∈ s.row, oneA x = true := fun y hy => by
  simp only [BS.row, List.mem_cons, List.mem_map] at hy
  rcases hy with rfl | rfl | rfl | ⟨z, _, rfl⟩ <;> rfl
def kdSt (b : List BS) (name : List UInt8) (i : Nat) : S :=
  ⟨mkT [(1, .str name), (5, .sl 5 0 (kidsB (b.take i) name).length), (9, .lst 11 (b.map BS.row)), (10, .int .i64 b.length), (11, .int .i64 i)], hpOf [(5, strOb (kidsB (b.take i) name))], Us.of [5]⟩

theorem kidsC (b : List BS) (name : List UInt8) (hb : BkG b) (hl : b.length < 100000) :
    ACall Go.Proofs.Tryd.prog 74 [bk b, .str name] [] (fun r L' => r = .sl 5 0 (kidsB b name).length ∧ L' = [(5, strOb (kidsB b name))]) := by
  apply vc74 (by simp) (by simp)
  simp [ac74, bk]
  refine ev_loopW (X := Nat) (kdSt b name) (fun i => b.length - i) (fun i => i ≤ b.length) 0 ⟨by simp, ?_⟩ ?_
  · exact (sw_ph 5 1 (by simp) (by simp)).trans (sw_can [1, 5, 9, 10, 11] [(5, 5)] (by simp [canonOk]) (by simp [canon, obOf, kdSt, kidsB, strOb]))
  intro i hi
  by_cases h1 : i < b.length
  · obtain ⟨s, e0⟩ : ∃ s, b[i] = s := ⟨_, rfl⟩
    have e1 : b[i]? = some s := by rw [← e0]; exact List.getElem?_eq_getElem (by omega)
    have e2 : IntKind.i64.wrap ((i : Int) + 1) = ((i + 1 : Nat) : Int) := by rw [i64_in' _ (by omega)]; omega
    have hs8 := (hb s (List.mem_of_getElem? e1)).1
    have hk := kids_step e1 name
    have hkl := kids_len (b.take i) name
    have hkl' : (b.take i).length ≤ b.length := by simp; omega
    simp [ac74_l0, kdSt, h1, e0, e1, row_len _ hs8, row_take _ hs8]
    refine ⟨oneA_row s, fun hf => ⟨⟨by simp [strOb], by omega⟩, ?_⟩, fun hf => ?_⟩
    · exact nextW_of (i + 1) (by omega) (by omega) (sw_can [1, 5, 9, 10, 11] [(23, 5)] (by simp [canonOk]) (by simp [canon, obOf, kdSt, strOb, hk, hf, e2]; try rfl))
    · exact nextW_of (i + 1) (by omega) (by omega) (sw_can [1, 5, 9, 10, 11] [(5, 5)] (by simp [canonOk]) (by simp [canon, obOf, kdSt, strOb, hk, hf, e2]; try rfl))
  · have : i = b.length := by omega
    subst this
    simp [ac74_l0, kdSt]

def kd2St (b : List BS) (name : List UInt8) (i : Nat) : S :=
  ⟨mkT [(1, .str name), (2, .ptr 2 0 0), (5, .sl 5 0 (kidsB (b.take i) name).length), (6, .int .i64 i)], hpOf [(2, ⟨1, [[.lst 11 (b.map BS.row)]]⟩), (5, strOb (kidsB (b.take i) name))], Us.of [2, 5]⟩
def kidsR (b : List BS) (name : List UInt8) : List (List UInt8) := if bookOkB b = true ∧ name ≠ [] then kidsB b name else []

theorem skidsC (b : List BS) (name : List UInt8) (hb : BkG b) (hl : b.length < 100000) :
    ACall Go.Proofs.Tryd.prog 25 [bk b, .str name] [] (fun r L' => r = .sl 5 0 (kidsR b name).length ∧ L' = [(5, strOb (kidsR b name))]) := by
  apply vc25 (by simp) (by simp)
  simp [ac25, bk]
  refine ev_loopW (X := Nat) (kd2St b name) (fun i => b.length - i) (fun i => i ≤ b.length ∧ (0 < i → bookOkB b = true ∧ name ≠ [])) 0 ⟨by simp, ?_⟩ ?_
  · exact sw_can [1, 2, 5, 6] [(2, 2), (7, 5)] (by simp [canonOk]) (by simp [canon, obOf, kd2St, kidsB, strOb])
  rintro i ⟨hi, hpos⟩
  simp [ac25_l0, kd2St]
  refine callA_val en18 (specOkC b hb hl) (by simp [bk]) (by simp) ?_
  cases hok : bookOkB b with
  | false =>
    have : i = 0 := by
      rcases Nat.eq_zero_or_pos i with h | h
      · exact h
      · rw [(hpos h).1] at hok; cases hok
    subst this
    simp [kidsR, hok, kidsB]
  | true =>
    by_cases hn : name = []
    · have : i = 0 := by
        rcases Nat.eq_zero_or_pos i with h | h
        · exact h
        · exact absurd hn (hpos h).2
      subst this
      simp [kidsR, hok, kidsB, hn]
    · by_cases h1 : i < b.length
      · obtain ⟨s, e0⟩ : ∃ s, b[i] = s := ⟨_, rfl⟩
        have e1 : b[i]? = some s := by rw [← e0]; exact List.getElem?_eq_getElem (by omega)
        have e2 : IntKind.i64.wrap ((i : Int) + 1) = ((i + 1 : Nat) : Int) := by rw [i64_in' _ (by omega)]; omega
        have hs8 := (hb s (List.mem_of_getElem? e1)).1
        have hk := kids_step e1 name
        have hkl := kids_len (b.take i) name
        have hkl' : (b.take i).length ≤ b.length := by simp; omega
        simp [hn, h1, e0, e1, row_len _ hs8, row_take _ hs8]
        refine ⟨fun hf => ⟨⟨by simp [strOb], by omega⟩, ?_⟩, fun hf => ?_⟩
        · exact nextW_of (i + 1) (by omega) (by omega) (sw_can [1, 2, 5, 6] [(2, 2), (39, 5)] (by simp [canonOk]) (by simp [canon, obOf, kd2St, strOb, hk, hf, e2]; try rfl))
        · exact nextW_of (i + 1) (by omega) (by omega) (sw_can [1, 2, 5, 6] [(2, 2), (5, 5)] (by simp [canonOk]) (by simp [canon, obOf, kd2St, strOb, hk, hf, e2]; try rfl))
      · have : i = b.length := by omega
        subst this
        simp [kidsR, hok, hn, kidsB]

def txP (l : List (List UInt8)) (r : AV) (L' : List (Nat × Ob)) : Prop := r = .lst 1 (l.map strRow) ∧ L' = []
theorem txP_of {f : Nat} {args : List AV} {id : Nat} {l : List (List UInt8)} (h : ACall Go.Proofs.Tryd.prog f args [] (fun r L' => r = .sl id 0 l.length ∧ L' = [(id, strOb l)])) : ACall Go.Proofs.Tryd.prog f args [] (txP l) := by
  refine h.frz ?_
  rintro r L' ⟨rfl, rfl⟩
  exact ⟨id, strOb l, rfl, clR_str l, by simp [strOb], rfl⟩
theorem specKidsC (b : List BS) (name : List UInt8) (hb : BkG b) (hl : b.length < 100000) : ACall Go.Proofs.Tryd.prog 25 [bk b, .str name] [] (txP (kidsR b name)) := txP_of (skidsC b name hb hl)

theorem implKidsC (b : List BS) (name : List UInt8) (hb : BkG b) (hl : b.length < 100000) : ACall Go.Proofs.Tryd.prog 23 [bk b, .str name] [] (txP (kidsR b name)) := by
  have key : ACall Go.Proofs.Tryd.prog 23 [bk b, .str name] [] (fun r L' => ((bookOkB b = true ∧ name ≠ []) → r = .lst 1 ((kidsB b name).map strRow)) ∧ (¬ (bookOkB b = true ∧ name ≠ []) → r = .nils) ∧ L' = []) := by
    apply vc23 (by simp) (by simp)
    simp [ac23, bk]
    refine callA_val en21 (implOkC b hb hl) (by simp [bk]) (by simp) ?_
    cases hok : bookOkB b with
    | false => simp
    | true =>
      by_cases hn : name = []
      · simp [hn]
      · simp [hn]
        refine callA_val en74 (txP_of (kidsC b name hb hl)) (by simp [bk]) (by simp) ?_
        simp
  refine key.imp ?_
  rintro r L' ⟨h1, h2, rfl⟩
  by_cases h : bookOkB b = true ∧ name ≠ []
  · refine ⟨_, impA_refl _, ?_, rfl⟩
    rw [h1 h]; unfold kidsR; rw [if_pos h]
  · rw [h2 h]
    refine ⟨_, impA_nils 1, ?_, rfl⟩
    unfold kidsR; rw [if_neg h]; rfl

theorem textsC (xs ys : List (List UInt8)) (hx : xs.length < 1000000) (hy : ys.length < 1000000) : ACall Go.Proofs.Tryd.prog 24 [.lst 1 (xs.map strRow), .lst 1 (ys.map strRow)] [] (fun r L' => r = .bool (xs == ys) ∧ L' = []) := by
  obtain ⟨res, hres⟩ : ∃ res, (xs == ys) = res := ⟨_, rfl⟩
  rw [hres]
  apply vc24 (by simp) (by simp)
  by_cases h0 : xs.length = ys.length
  rotate_left
  · have h0' : ¬ (xs.length : Int) = ys.length := by omega
    have : res = false := by
      rw [← hres, beq_eq_false_iff_ne]; rintro rfl; exact h0 rfl
    simp [ac24, h0', h0, this]
  simp [ac24, h0]
  refine ev_loopX (X := Nat) [0, 1, 5] (fun i => ⟨mkT [(0, .lst 1 (xs.map strRow)), (1, .lst 1 (ys.map strRow)), (5, .int .i64 i)], hpOf [], Us.of []⟩) (fun i => xs.length - i) (fun i => i ≤ xs.length ∧ xs.take i = ys.take i) 0 ⟨by simp, [], by simp [canonOk], by simp [canon]⟩ ?_
  rintro i ⟨hi, ha⟩
  by_cases h1 : i < xs.length
  · obtain ⟨s, e0⟩ : ∃ s, xs[i] = s := ⟨_, rfl⟩
    have e1 : xs[i]? = some s := by rw [← e0]; exact List.getElem?_eq_getElem h1
    have h1' : i < ys.length := by omega
    obtain ⟨t, f0⟩ : ∃ t, ys[i] = t := ⟨_, rfl⟩
    have f1 : ys[i]? = some t := by rw [← f0]; exact List.getElem?_eq_getElem h1'
    have e2 : IntKind.i64.wrap ((i : Int) + 1) = ((i + 1 : Nat) : Int) := by rw [i64_in' _ (by omega)]; omega
    simp [ac24_l0, h1, h1', e0, e1, f0, f1, e2, strRow]
    refine ⟨fun hne => ?_, fun he => ?_⟩
    · rw [← hres, beq_eq_false_iff_ne]
      rintro rfl
      rw [e1] at f1; injection f1 with f1; exact hne f1
    · refine nextX_of (i + 1) (by omega) ⟨by omega, ?_⟩ [] (by simp [canonOk]) (by simp [canon, strRow])
      rw [List.take_add_one, List.take_add_one, ha, e1, f1, he]
  · have hie : i = xs.length := by omega
    subst hie
    rw [List.take_length, List.take_of_length_le (by omega)] at ha
    simp [ac24_l0]
    rw [← hres, ha]; simp
end Go.Av.F
end

section
/- Functions of the program in the short form; printed by acgen.py. -/
namespace Go.Av.F
open Go Go.Av
set_option maxRecDepth 100000
set_option linter.constructorNameAsVariable false
theorem vv73 {args : List AV} {L : List (Nat × Ob)} {R : AV → List (Nat × Ob) → Prop} (ha : args.length ≤ 47) (hL : (L.map (·.1)).Nodup)
    (h : VA Go.Proofs.Tryd.prog ⟨47, L.map (·.1)⟩ ac73 ⟨argT args, hpOf L, Us.of (L.map (·.1))⟩ (retQ Go.Proofs.Tryd.prog [(ResultVar.cell 2 25), (ResultVar.tmp 3)] R)) : ACall Go.Proofs.Tryd.prog 73 args L R :=
  acallA (by kernel_rfl) 47 [(4, [⟨0, [], [], [], [1, 7, 8, 10]⟩, ⟨1, [5], [], [], [7, 8, 10]⟩, ⟨2, [], [5], [], [6, 7, 8, 10]⟩, ⟨3, [], [5], [], [4, 5, 6, 7, 8, 10]⟩, ⟨4, [5], [5], [], [5, 6, 7, 8, 10]⟩, ⟨5, [], [5], [], [6, 7, 8, 10]⟩, ⟨6, [], [5], [9], [7, 8, 10]⟩, ⟨7, [], [], [], [8, 10]⟩, ⟨8, [], [], [], [10]⟩, ⟨9, [], [5], [], [10]⟩, ⟨10, [], [], [], []⟩]), (6, [⟨0, [5], [], [], [3, 4]⟩, ⟨1, [], [5], [], [2, 4]⟩, ⟨2, [6], [5], [], [4]⟩, ⟨3, [], [6], [], [4]⟩, ⟨4, [], [], [], []⟩]), (7, [⟨0, [5], [], [], [3, 4]⟩, ⟨1, [], [5], [], [2, 4]⟩, ⟨2, [6], [5], [], [4]⟩, ⟨3, [], [6], [], [4]⟩, ⟨4, [], [], [], []⟩]), (8, [⟨0, [5], [], [], [4, 5]⟩, ⟨1, [], [5], [], [3, 4, 5]⟩, ⟨2, [], [5], [], [3, 4, 5]⟩, ⟨3, [], [5], [], [4, 5]⟩, ⟨4, [], [], [], [5]⟩, ⟨5, [], [], [], []⟩])] [(ResultVar.cell 2 25), (ResultVar.tmp 3)] Go.Proofs.Tryd.func73 (by kernel_rfl) Go.Proofs.Tryd.ntmps73 (by kernel_rfl) ha hL h
end Go.Av.F
end

section
namespace Go.Av.F
open Go Go.Av
set_option linter.unusedSimpArgs false
set_option linter.unusedVariables false
set_option maxRecDepth 100000
attribute [local simp] tt3 tt4 tt9 tt5 tt22 tt25 tt23 tt35 tt33 tt27 tt42 tt54

def namedP (r : AV) : Prop := ∃ (b : List BS) (nm : List UInt8), BkG b ∧ b.length ≤ 100 ∧ nm.length ≤ 24 ∧ r = .tup [bk b, .str nm]

def nmSt (bs : List UInt8) (x : Int × List BS) : S :=
  ⟨mkT [(2, .ptr 2 0 0), (3, .str []), (4, .ptr 1000 0 0), (5, .ptr 5 0 0)], hpOf [(2, ⟨1, [[.nils]]⟩), (5, ⟨1, [[.lst 11 (x.2.map BS.row)]]⟩), (1000, rdOb bs x.1)], Us.of [2, 5, 1000]⟩

theorem namedC (code : List UInt8) (hl : code.length < 4611686018427387904) : ACall Go.Proofs.Tryd.prog 73 [.lst 1 (code.map u8row)] [] (fun r L' => namedP r ∧ L' = []) := by
  apply vv73 (by simp) (by simp)
  have hb : (code.take 2000).length ≤ 2000 := by simp; omega
  refine va_seq (va_of_ev _ ?_)
  simp
  refine va_seq (va_of_ev _ ?_)
  simp
  refine callA_wh [] en55 (openC code hl) (by simp) (by simp) (by simp) (by simp) (by simp) ?_
  rintro r L' ⟨rfl, rfl⟩
  refine ⟨[(10, 1000)], ⟨by simp, by simp, by simp, by simp, by simp⟩, ?_⟩
  generalize code.take 2000 = bs at hb
  simp
  refine va_cutW (X := Int × List BS) (nmSt bs) (fun x => 0 ≤ x.1 ∧ x.1 ≤ 1000 ∧ BkG x.2 ∧ x.2.length ≤ 100) ?_ ?_
  · simp
    refine callA_wh [(1000, .whole 1000)] en56 (bookC bs 0 (by omega) hb) (by simp) (by simp) (by simp) (by simp) (by simp) ?_
    rintro r L' ⟨q, b, h1, h2, h3, h4, ⟨rfl, rfl, rfl⟩ | ⟨id, hid, rfl, rfl⟩⟩
    · refine ⟨[], ⟨by simp, by simp, by simp, by simp, by simp⟩, ?_⟩
      simp
      exact cutW_of (q, []) ⟨by simp only; omega, by simp only; omega, h3, h4⟩ ((sw_imp1 5 (a := .nils) (b := .lst 11 []) (by simp) (impA_nils 11)).trans (sw_can [2, 3, 4, 5] [(2, 2), (5, 5), (1000, 1000)] (by simp [canonOk]) (by simp [canon, obOf, nmSt])))
    · rcases hid with rfl | rfl
      · refine ⟨[(69, 901)], ⟨by simp, by simp, by simp, by simp, by simp⟩, ?_⟩
        simp
        exact cutW_of (q, b) ⟨by simp only; omega, by simp only; omega, h3, h4⟩ (sw_fr 901 (o := bkOb b) (by simp [bkOb]) (by simp) (by simp) (by simp) [2, 3, 4, 5] [(2, 2), (5, 5), (1000, 1000)] (by simp [canonOk]) (by simp [canon, obOf, nmSt, bkOb, rdOb]))
      · refine ⟨[(901, 901)], ⟨by simp, by simp, by simp, by simp, by simp⟩, ?_⟩
        simp
        exact cutW_of (q, b) ⟨by simp only; omega, by simp only; omega, h3, h4⟩ (sw_fr 901 (o := bkOb b) (by simp [bkOb]) (by simp) (by simp) (by simp) [2, 3, 4, 5] [(2, 2), (5, 5), (1000, 1000)] (by simp [canonOk]) (by simp [canon, obOf, nmSt, bkOb, rdOb]))
  rintro ⟨q, b⟩ ⟨h1, h2, h3, h4⟩
  simp only at h1 h2 h3 h4
  have fin : ∀ nm : List UInt8, nm.length ≤ 24 → namedP (.tup [bk b, .str nm]) := fun nm h => ⟨b, nm, h3, h4, h, rfl⟩
  have last : ∀ x : List UInt8, x ∈ [[110, 111, 110, 101], [], ([97] : List UInt8)] → x.length ≤ 24 := by
    intro x hx
    simp only [List.mem_cons, List.not_mem_nil, or_false] at hx
    rcases hx with rfl | rfl | rfl <;> decide
  refine va_of_ev _ ?_
  by_cases hz : b = []
  · simp [nmSt, hz]
    refine callOf (p := q) [[110, 111, 110, 101], [], [97]] (by omega) hb (by simp) (by omega) (by simp [strOb, strRow]) (by simp) (by simp) (by simp) fun x hx => ?_
    simp
    subst hz
    exact fin x (last x hx)
  · have hpos : 0 < b.length := by
      rcases b with _ | ⟨a, b⟩
      · exact absurd rfl hz
      · simp
    have hpos' : (0 : Int) < b.length := by omega
    simp [nmSt, hpos, hpos', hz]
    refine callPick (p := q) (by omega) hb (by simp) fun k hk _ => ?_
    by_cases hk0 : 0 < k
    · simp [hk0]
      refine callPick (p := q + 1) (by omega) hb (by simp) fun k2 hk2 _ => ?_
      obtain ⟨g1, g2⟩ := hk2 (by omega)
      obtain ⟨m, rfl⟩ : ∃ m : Nat, k2 = m := ⟨k2.toNat, by omega⟩
      have hm : m < b.length := by omega
      obtain ⟨s, e0⟩ : ∃ s, b[m] = s := ⟨_, rfl⟩
      have e1 : b[m]? = some s := by rw [← e0]; exact List.getElem?_eq_getElem hm
      have hs := h3 s (List.mem_of_getElem? e1)
      simp [hm, e0, e1, row_len _ hs.1, row_take _ hs.1]
      refine ⟨oneA_row s, ?_⟩
      by_cases hf : s.frm = []
      · simp [hf]
        exact fin s.name hs.2.1
      · simp [hf]
        refine callPick (p := q + 1 + 1) (by omega) hb (by simp) fun k3 hk3 _ => ?_
        by_cases hk30 : k3 = 0
        · simp [hk30]
          exact fin s.frm hs.2.2
        · simp [hk30]
          exact fin s.name hs.2.1
    · simp [hk0]
      refine callOf (p := q + 1) [[110, 111, 110, 101], [], [97]] (by omega) hb (by simp) (by omega) (by simp [strOb, strRow]) (by simp) (by simp) (by simp) fun x hx => ?_
      simp
      exact fin x (last x hx)
end Go.Av.F
end

section
namespace Go.Av.F
open Go Go.Av
set_option linter.unusedSimpArgs false
set_option linter.unusedVariables false
set_option maxRecDepth 100000
attribute [local simp] tt3 tt4 tt9 tt5 tt22 tt25 tt23 tt35 tt33 tt27 tt42 tt54

theorem drawKidsC (code : List UInt8) (hl : code.length < 4611686018427387904) : ACall Go.Proofs.Tryd.prog 22 [.lst 1 (code.map u8row)] [] (fun r L' => namedP r ∧ L' = []) := by
  apply vc22 (by simp) (by simp)
  simp [ac22]
  refine callA_ex en73 ((namedC code hl).mono fun r L' ⟨h1, h2⟩ => ⟨h1, by obtain ⟨b, nm, _, _, _, rfl⟩ := h1; simp [bk, clA, clL], h2⟩) (by simp) ?_
  rintro r ⟨b, nm, h1, h2, h3, rfl⟩
  simp [bk]
  exact ⟨b, nm, h1, h2, h3, rfl⟩

theorem kids_nil {b : List BS} {name : List UInt8} (h : (b.any fun s => s.frm == name) = false) : kidsB b name = [] := by
  unfold kidsB
  rw [List.map_eq_nil_iff, List.filter_eq_nil_iff]
  intro s hs
  have := List.any_eq_false.1 h s hs
  exact this
theorem kids_pos {b : List BS} {name : List UInt8} (h : (b.any fun s => s.frm == name) = true) : 0 < (kidsB b name).length := by
  obtain ⟨s, hs, he⟩ := List.any_eq_true.1 h
  unfold kidsB
  rw [List.length_map, List.length_pos_iff_exists_mem]
  exact ⟨s, List.mem_filter.2 ⟨hs, he⟩⟩

theorem kill_kids {b : List BS} {name : List UInt8} {c : Int} (h : (resB b (killO name)).2 = c) : (c = 6 → 0 < (kidsR b name).length) ∧ (c = 0 → (kidsR b name).length = 0) := by
  unfold resB at h
  cases hok : bookOkB b with
  | false =>
    rw [hok, if_neg (by simp)] at h
    simp only at h
    exact ⟨fun h6 => by omega, fun h0 => by omega⟩
  | true =>
    rw [if_pos hok] at h
    have hO := okB_iff.1 hok
    cases ha : atB b name with
    | false =>
      have : doB b (killO name) = (b, 1) := by
        unfold doB killO
        simp only
        rw [if_neg (by omega), if_neg (by omega), if_pos ha]
      rw [this] at h
      simp only at h
      exact ⟨fun h6 => by omega, fun h0 => by omega⟩
    | true =>
      obtain ⟨t, ht, htn⟩ := atB_some ha
      have hne : name ≠ [] := by
        have := (hO.2.2 t (List.mem_of_getElem? ht)).1.1
        rw [htn] at this; exact name_ne this
      have e1 : doB b (killO name) = killB b (atP b name) := by
        have := doB_kill hO ht
        rw [htn] at this; exact this
      have e2 : kidsR b name = kidsB b name := by unfold kidsR; rw [if_pos ⟨hok, hne⟩]
      rw [e1] at h
      unfold killB at h
      rw [ht] at h
      simp only [htn] at h
      rw [e2]
      cases hf : (b.any fun s => s.frm == name) with
      | true =>
        rw [hf, if_pos rfl] at h
        simp only at h
        exact ⟨fun _ => kids_pos hf, fun h0 => by omega⟩
      | false =>
        rw [hf, if_neg (by simp)] at h
        simp only at h
        exact ⟨fun h6 => by omega, fun _ => by rw [kids_nil hf]; rfl⟩

def cntB (b : List BS) (name : List UInt8) (i : Nat) : Nat := if name ≠ [] then (kidsB (b.take i) name).length else 0

theorem loop6 {Q : Exit → S → Prop} (b : List BS) (name : List UInt8) (ks : List (List AV)) (c : Int) (hb : BkG b) (hbl : b.length < 100000) {st : S}
    (h0 : ∃ φ, canonOk ⟨79, []⟩ φ st ∧ canon [] [3, 4, 5, 7, 8, 9] φ st = ⟨mkT [(3, .ptr 3 0 0), (4, .str name), (5, .lst 1 ks), (7, .int .i64 c), (8, .int .i64 (0 : Nat)), (9, .int .i64 (0 : Nat))], hpOf [(3, ⟨1, [[.lst 11 (b.map BS.row)]]⟩)], Us.of [3]⟩)
    (hex : ∀ st : S, st.t 5 = .lst 1 ks → st.t 7 = .int .i64 c → st.t 8 = .int .i64 (kidsR b name).length → Q (.exit 0) st) :
    ev Go.Proofs.Tryd.prog ⟨79, []⟩ (.loop ac6_l0) Q st := by
  refine ev_loopX (X := Nat) [3, 4, 5, 7, 8, 9] (fun i => ⟨mkT [(3, .ptr 3 0 0), (4, .str name), (5, .lst 1 ks), (7, .int .i64 c), (8, .int .i64 (cntB b name i)), (9, .int .i64 i)], hpOf [(3, ⟨1, [[.lst 11 (b.map BS.row)]]⟩)], Us.of [3]⟩) (fun i => b.length - i)
    (fun i => i ≤ b.length ∧ (0 < i → bookOkB b = true)) 0 ⟨by simp, by simpa [cntB, kidsB] using h0⟩ ?_
  rintro i ⟨hi, hpos⟩
  by_cases h1 : i < b.length
  rotate_left
  · have hie : i = b.length := by omega
    subst hie
    simp [ac6_l0]
    refine hex _ rfl rfl ?_
    simp only [cntB, kidsR, List.take_length]
    rcases Nat.eq_zero_or_pos b.length with h | h
    · have : b = [] := List.length_eq_zero_iff.1 h
      subst this
      simp [kidsB]
    · rw [hpos h]
      by_cases hn : name = []
      · simp [hn]
      · simp [hn]
  have h1i : (i : Int) < b.length := by omega
  simp [ac6_l0, h1, h1i]
  refine callA_val en18 (specOkC b hb hbl) (by simp [bk]) (by simp) ?_
  cases hok : bookOkB b with
  | false =>
    have : i = 0 := by
      rcases Nat.eq_zero_or_pos i with h | h
      · exact h
      · rw [hpos h] at hok; cases hok
    subst this
    simp
    refine hex _ (by simp) (by simp) ?_
    simp [cntB, kidsR, kidsB, hok]
  | true =>
    obtain ⟨s, e0⟩ : ∃ s, b[i] = s := ⟨_, rfl⟩
    have e1 : b[i]? = some s := by rw [← e0]; exact List.getElem?_eq_getElem (by omega)
    have e2 : IntKind.i64.wrap ((i : Int) + 1) = ((i + 1 : Nat) : Int) := by rw [i64_in' _ (by omega)]; omega
    have hs8 := (hb s (List.mem_of_getElem? e1)).1
    have hk := kids_step e1 name
    have hkl := kids_len (b.take i) name
    have hkl' : (b.take i).length ≤ b.length := by simp; omega
    by_cases hn : name = []
    · simp [h1, e0, e1, row_len _ hs8, row_take _ hs8, hn, e2]
      exact nextX_of (i + 1) (by omega) (by first | omega | exact ⟨by omega, fun _ => hok⟩) [(3, 3)] (by simp [canonOk]) (by simp [canon, obOf, cntB, hn])
    · by_cases hf : s.frm = name
      · have e3 : IntKind.i64.wrap (((kidsB (b.take i) name).length : Int) + 1) = ((kidsB (b.take i) name).length : Int) + 1 := i64_in' _ (by omega)
        simp [h1, e0, e1, row_len _ hs8, row_take _ hs8, hn, hf, e2, cntB, e3]
        exact nextX_of (i + 1) (by omega) (by first | omega | exact ⟨by omega, fun _ => hok⟩) [(3, 3)] (by simp [canonOk]) (by simp [canon, obOf, cntB, hn, hk, hf])
      · simp [h1, e0, e1, row_len _ hs8, row_take _ hs8, hn, hf, e2, cntB]
        exact nextX_of (i + 1) (by omega) (by first | omega | exact ⟨by omega, fun _ => hok⟩) [(3, 3)] (by simp [canonOk]) (by simp [canon, obOf, cntB, hn, hk, hf])

theorem fnTreeMayC (code : List UInt8) : ACall Go.Proofs.Tryd.prog 6 [.lst 1 (code.map u8row)] [] (fun r L' => r = .bool true ∧ L' = []) := by
  apply vc6 (by simp) (by simp)
  simp [ac6]
  intro h0
  refine callA_ex en22 ((drawKidsC code (by omega)).mono fun r L' ⟨h1, h2⟩ => ⟨h1, by obtain ⟨b, nm, _, _, _, rfl⟩ := h1; simp [bk, clA, clL], h2⟩) (by simp) ?_
  rintro r ⟨b, nm, hb, hbl, hnl, rfl⟩
  simp [bk]
  refine callA_val en23 (implKidsC b nm hb (by omega)) (by simp [bk]) (by simp) ?_
  simp
  refine callA_val en25 (specKidsC b nm hb (by omega)) (by simp [bk]) (by simp) ?_
  simp
  have hkl : (kidsR b nm).length ≤ b.length := by
    unfold kidsR; split
    · exact kids_len b nm
    · simp
  refine callA_val en24 (textsC _ _ (by omega) (by omega)) (by simp) (by simp) ?_
  simp
  refine callA_val en16 (implDoC b (killO nm) hb (by omega) ⟨hnl, by simp [killO]⟩) (by simp [bk, BO.row, killO]) (by simp [bk]) ?_
  obtain ⟨c, hc⟩ : ∃ c, (resB b (killO nm)).2 = c := ⟨_, rfl⟩
  have hkk := kill_kids hc
  simp [bk, hc]
  refine loop6 b nm ((kidsR b nm).map strRow) c hb (by omega) ⟨[(3, 3)], by simp [canonOk], by simp [canon, obOf]⟩ ?_
  rintro ⟨t0, h0, u0⟩ f5 f7 f8
  simp only at f5 f7 f8
  by_cases c6 : c = 6
  · have := hkk.1 c6
    have h2 : ¬ kidsR b nm = [] := fun h => by rw [h] at this; simp at this
    simp [f5, f7, f8, c6, this, h2]
  · by_cases c0 : c = 0
    · have := hkk.2 c0
      have h2 : kidsR b nm = [] := List.length_eq_zero_iff.1 this
      simp [f5, f7, f8, c6, c0, h2]
    · simp [f5, f7, f8, c6, c0]
end Go.Av.F
end
