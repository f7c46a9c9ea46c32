/- Lemmas for the proof, no statement of the seat; no conditions. -/
import Derived.Test.YtiidedhlnlaalaaDoorLayAO
section
namespace Go.Av.F
open Go Go.Av Go.Proofs Go.Proofs.Tryd
set_option linter.unusedSimpArgs false
set_option linter.unusedVariables false
set_option maxRecDepth 100000
structure CoT (c : CO) : Prop where
  sets : c.sets.length ≤ 1048576
  ddt : c.ddt.length ≤ 1048576
  parts : c.parts.length ≤ 1048576
  safe : c.safe.length ≤ 1048576
  m8 : ∀ s ∈ c.sets, s.map.length = 8
  nm : ∀ s ∈ c.sets, s.name.length ≤ 1048576 ∧ s.frm.length ≤ 1048576
def coreOkB (c : CO) : Bool := decide (0 ≤ c.txg) && decide (c.txg ≤ 1000000) && ddtOkB c.ddt && decide (c.parts.length ≤ 8) && placesB 12 c.safe && decide (0 ≤ c.logn) && decide (c.logn ≤ 8) &&
  c.sets.all csOkB && c.parts.all ptRealB && bookOkB (c.sets.map csB) && cntOkB c && sumOkB c
theorem csOk_nm {s : CS} (h : csOkB s = true) : s.name.length ≤ 6 ∧ s.frm.length ≤ 6 := by
  simp only [csOkB, Bool.and_eq_true, Bool.or_eq_true, nameB, decide_eq_true_eq, List.isEmpty_iff] at h
  refine ⟨h.1.1.1.1.2, ?_⟩
  rcases h.1.1.1.2 with h | h
  · simp [h]
  · exact h.2
theorem bkG_cs {l : List CS} (h : ∀ s ∈ l, csOkB s = true) : BkG (l.map csB) := by
  intro b hb
  obtain ⟨s, hs, rfl⟩ := List.mem_map.1 hb
  have := csOk_nm (h s hs)
  simp [csB]; omega
theorem sBookOk (bs : List BS) (hb : BkG bs) (hl : bs.length ≤ 1048576) : CV prog 18 [bk bs] (.bool (bookOkB bs)) := cv_of (specOkC bs hb (by omega)) (hca := by simp [bk])
theorem iBookOk (bs : List BS) (hb : BkG bs) (hl : bs.length ≤ 1048576) : CV prog 21 [bk bs] (.bool (bookOkB bs)) := cv_of (implOkC bs hb (by omega)) (hca := by simp [bk])
theorem sCoreOk (c : CO) (h : CoT c) : CV prog 82 [.agg c.row] (.bool (coreOkB c)) := by
  obtain ⟨R, hR⟩ : ∃ R, coreOkB c = R := ⟨_, rfl⟩
  rw [hR]
  refine cvx func82 [] ntmps82 rfl rfl rfl ?_
  simp -implicitDefEqProofs
  repeat' first
    | (refine (sDdtOkC c.ddt h.ddt).call ?_; simp -implicitDefEqProofs)
    | (refine (placesC c.safe h.safe).call ?_; simp -implicitDefEqProofs)
    | with_reducible intro _
    | with_reducible refine And.intro ?_ ?_
  all_goals try (grind [coreOkB]; done)
  have hrest : coreOkB c = (c.sets.all csOkB && (c.parts.all ptRealB && (bookOkB (c.sets.map csB) && cntOkB c && sumOkB c))) := by grind [coreOkB]
  rw [hrest] at hR
  have hd : ddtOkB c.ddt = true := by assumption
  have hpl : (c.parts.length : Int) ≤ 8 := by assumption
  have hs1 := h.sets
  refine ev_lp (X := Nat) [1, 3] [(1, 1)] (fun i => [(3, .int .i64 i)]) (fun _ => []) (fun i => c.sets.length - i) (fun i => i ≤ c.sets.length ∧ (∀ s ∈ c.sets.take i, csOkB s = true) ∧ ((c.sets.drop i).all csOkB && (c.parts.all ptRealB && (bookOkB (c.sets.map csB) && cntOkB c && sumOkB c))) = R) 0 (by simpa using hR) ?_
  rintro i ⟨hi, hok, ha⟩
  cases hr : c.sets.drop i with
  | nil =>
    have := dropn hr
    rw [hr] at ha
    have hie : i = c.sets.length := by omega
    have hok' : ∀ s ∈ c.sets, csOkB s = true := by rw [List.take_of_length_le (by omega)] at hok; exact hok
    simp -implicitDefEqProofs [hie]
    refine ev_lp (X := Nat) [1, 4] [(1, 1)] (fun i => [(4, .int .i64 i)]) (fun _ => []) (fun i => c.parts.length - i) (fun i => i ≤ c.parts.length ∧ ((c.parts.drop i).all ptRealB && (bookOkB (c.sets.map csB) && cntOkB c && sumOkB c)) = R) 0 (by simpa using ha) ?_
    rintro j ⟨hj, hb⟩
    cases hq : c.parts.drop j with
    | nil =>
      have := dropn hq
      rw [hq] at hb
      have hje : j = c.parts.length := by omega
      simp -implicitDefEqProofs [hje]
      refine (sNamesC c h.sets h.m8).call ?_
      simp -implicitDefEqProofs
      refine (sBookOk _ (bkG_cs hok') (by simpa using h.sets)).call ?_
      simp -implicitDefEqProofs
      repeat' first
        | (refine (countsC c h.sets h.m8 hd).call ?_; simp -implicitDefEqProofs)
        | (refine (sumsC c h.sets (ddt_ec hd).1 h.m8).call ?_; simp -implicitDefEqProofs)
        | with_reducible intro _
        | with_reducible refine And.intro ?_ ?_
      all_goals grind
    | cons x r =>
      obtain ⟨h1, e0, e1, h3⟩ := dropc hq
      rw [hq] at hb
      have e2 := i64w ((j : Int) + 1) (by omega) (by omega)
      simp -implicitDefEqProofs [h1, e0, e1]
      refine (sPtrOkC x).call ?_
      simp -implicitDefEqProofs [h1, e0, e1, e2]
      repeat' first
        | with_reducible intro _
        | with_reducible refine And.intro ?_ ?_
      all_goals first
        | exact nx (j + 1) [(1, 1)] (by grind [ptRealB])
        | grind [ptRealB]
  | cons x r =>
    obtain ⟨h1, e0, e1, h3⟩ := dropc hr
    have hxm := List.mem_of_getElem? e1
    have hrl := cs_len x (h.m8 x hxm)
    have ht : List.take 31 x.row = x.row := List.take_of_length_le (by omega)
    rw [hr] at ha
    have e2 := i64w ((i : Int) + 1) (by omega) (by omega)
    simp -implicitDefEqProofs [h1, e0, e1, hrl, ht]
    refine (sSetC x (h.m8 x hxm) (h.nm x hxm).1 (h.nm x hxm).2).call ?_
    simp -implicitDefEqProofs [e2]
    repeat' first
      | with_reducible intro _
      | with_reducible refine And.intro ?_ ?_
    all_goals first
      | exact nx (i + 1) [(1, 1)] (by rw [takeS e1]; grind)
      | grind
theorem coreOk1 (p : PT) : CV prog 149 [.agg p.row] (.bool (!ptRealB p)) := by
  refine cvx func149 [] ntmps149 rfl rfl rfl ?_
  simp -implicitDefEqProofs
  refine (realC p).call ?_
  simp -implicitDefEqProofs
theorem coreOk2 (s : CS) (h8 : s.map.length = 8) (hn : s.name.length ≤ 1048576) (hf : s.frm.length ≤ 1048576) : CV prog 152 [.agg s.row] (.bool (!csOkB s)) := by
  have hl := cs_len s h8
  have ht : List.take 31 s.row = s.row := List.take_of_length_le (by omega)
  refine cvx func152 [] ntmps152 rfl rfl rfl ?_ (hca := by simp [cs_cl])
  simp -implicitDefEqProofs [hl, ht]
  refine (iSetC s h8 hn hf).call ?_
  simp -implicitDefEqProofs
def ptZB (l : List DE) (p : PT) : Bool := decide (p.pa = 0) || ptSumB l p
def cntRow (c : CO) (L : List PT) (e : DE) : List AV := [.int .i64 (ptN e.ea L)]
theorem ptN_app (a : Int) (L : List PT) (p : PT) : ptN a (L ++ [p]) = ptN a L + if p.pa = a then 1 else 0 := by
  simp [ptN, List.countP_append, List.countP_cons]
theorem cnt_same (c : CO) (L : List PT) (p : PT) (h : ∀ e ∈ c.ddt, e.ea ≠ p.pa) : c.ddt.map (cntRow c (L ++ [p])) = c.ddt.map (cntRow c L) := by
  refine List.map_congr_left fun e he => ?_
  have := h e he
  simp [cntRow, ptN_app, Ne.symm this]
theorem cnt_set (c : CO) (L : List PT) (p : PT) (hd : ddtOkB c.ddt = true) {k : Nat} {e : DE} (hk : c.ddt[k]? = some e) (he : e.ea = p.pa) :
    (c.ddt.map (cntRow c L)).set k [.int .i64 ((ptN p.pa L : Int) + 1)] = c.ddt.map (cntRow c (L ++ [p])) := by
  simp only [ddtOkB, Bool.and_eq_true] at hd
  have hup := (ddtR_up hd.2).2
  apply List.ext_getElem?
  intro i
  rw [List.getElem?_set, List.getElem?_map, List.getElem?_map]
  by_cases hi : k = i
  · subst hi
    obtain ⟨hl, hk0⟩ := List.getElem?_eq_some_iff.1 hk
    simp [hl, hk0, cntRow, ptN_app, he]
  · rw [if_neg hi]
    cases hx : c.ddt[i]? with
    | none => rfl
    | some x =>
      have : x.ea ≠ p.pa := by
        rw [← he]
        rcases Nat.lt_or_gt_of_ne hi with h | h
        · have := hup k i e x h hk hx; omega
        · have := hup i k x e h hx hk; omega
      simp [cntRow, ptN_app, Ne.symm this]
theorem cs_map24 (s : CS) (h8 : s.map.length = 8) : List.take 24 (List.drop 3 s.row) = s.map.flatMap PT.row := by
  obtain ⟨n, k, f, m, h, d⟩ := s
  simp only at h8
  match m, h8 with
  | [p0, p1, p2, p3, p4, p5, p6, p7], _ => rfl
theorem flat_at {l : List PT} {i : Nat} {p : PT} (h : l[i]? = some p) : List.take 3 (List.drop (i * 3) (l.flatMap PT.row)) = p.row := by
  induction l generalizing i with
  | nil => simp at h
  | cons a l ih =>
    cases i with
    | zero => simp at h; subst h; simp
    | succ i =>
      rw [← ih (i := i) (by simpa using h)]
      simp [show (i + 1) * 3 = i * 3 + 1 + 1 + 1 by omega]
@[simp] theorem renL_cnt (ρ : Nat → Option Plc) (c : CO) (L : List PT) : renL ρ ∘ cntRow c L = cntRow c L := by
  funext e; simp [cntRow]
theorem cnt_nil (c : CO) : c.ddt.map (cntRow c []) = List.replicate c.ddt.length [.int .i64 0] := by
  have : cntRow c [] = fun _ => [.int .i64 0] := by funext e; simp [cntRow, ptN]
  rw [this, List.map_const']
@[simp] theorem renL_pts (ρ : Nat → Option Plc) (l : List PT) : renL ρ (l.flatMap PT.row) = l.flatMap PT.row := renL_closed.renL_closedL ρ _ (clL_pts l)
theorem sum3 {l : List PT} (h : l.length = 8) : (List.map (fun _ => 3) l).sum = 24 := by
  rw [List.map_const', h]; rfl
theorem cs_pt {s : CS} (h : csOkB s = true) {p : PT} (hp : p ∈ s.map) : ptOkB p = true ∧ 0 ≤ p.pa ∧ p.pa < 120 := by
  simp only [csOkB, Bool.and_eq_true, List.all_eq_true] at h
  have := h.2 p hp
  refine ⟨this, ?_⟩
  unfold ptOkB at this
  split at this
  · omega
  · simp at this; omega
theorem sum_one {l : List DE} {q : Int} (h : ddtR q l = true) (hq : 0 ≤ q) (L : List PT) (hL : ∀ p ∈ L, 0 ≤ p.pa ∧ (0 < p.pa → ∃ e ∈ l, e.ea = p.pa)) : ((l.map fun e => ptN e.ea L).sum) = nnN L := by
  induction L with
  | nil =>
    clear h hL
    induction l with
    | nil => rfl
    | cons e l ih => simpa [ptN, nnN] using ih
  | cons p L ih =>
    have ih' := ih fun p hp => hL p (List.mem_cons_of_mem _ hp)
    obtain ⟨hp0, hpe⟩ := hL p (by simp)
    have key : ∀ (l : List DE) (q : Int), 0 ≤ q → ddtR q l = true → (l.map fun e => (if p.pa = e.ea then 1 else 0)).sum = if ∃ e ∈ l, e.ea = p.pa then 1 else 0 := by
      intro l
      induction l with
      | nil => intro q _ _; simp
      | cons e l ihl =>
        intro q hq h
        have hup := ddtR_up h
        simp only [ddtR, Bool.and_eq_true, decide_eq_true_eq] at h
        have h2 := ihl e.ea (by omega) h.2
        simp only [List.map_cons, List.sum_cons, h2]
        by_cases he : p.pa = e.ea
        · have : ¬ ∃ x ∈ l, x.ea = p.pa := by
            rintro ⟨x, hx, hxe⟩
            have := ((ddtR_up h.2).1 x hx).1; omega
          simp [he] at this ⊢
          exact this
        · have : e.ea ≠ p.pa := fun h => he h.symm
          simp [he, this]
    have hk := key l q hq h
    have hadd : ∀ (l : List DE), (l.map fun e => ptN e.ea (p :: L)).sum = (l.map fun e => (if p.pa = e.ea then 1 else 0)).sum + (l.map fun e => ptN e.ea L).sum := by
      intro l
      induction l with
      | nil => rfl
      | cons e l ih => simp only [List.map_cons, List.sum_cons]; rw [ih, ptN_cons]; omega
    rw [hadd, hk, ih', nnN_cons]
    congr 1
    by_cases h0 : 0 < p.pa
    · rw [if_pos (hpe h0), if_pos h0]
    · rw [if_neg, if_neg h0]
      rintro ⟨e, he, hee⟩
      have := ((ddtR_up h).1 e he).1; omega
theorem sumEc_eq {l : List DE} {L : List PT} (h : ∀ e ∈ l, (ptN e.ea L : Int) = e.ec) : sumEc l = ((l.map fun e => ptN e.ea L).sum : Nat) := by
  induction l with
  | nil => rfl
  | cons e l ih =>
    have h1 := h e (by simp)
    have h2 := ih fun e he => h e (List.mem_cons_of_mem _ he)
    simp only [sumEc, List.map_cons, List.sum_cons, h2]; omega
theorem ptN_refs {l : List DE} {q : Int} (h : ddtR q l = true) (hq : 0 ≤ q) (L : List CS) {e : DE} (he : e ∈ l) : refsB e.ea L = ptN e.ea (allPts L) := by
  have := ((ddtR_up h).1 e he).1
  unfold refsB; rw [if_pos (by omega)]
theorem cntSum (c : CO) (h : CoT c) (hd : ddtOkB c.ddt = true) (hs : ∀ s ∈ c.sets, csOkB s = true) :
    (cntOkB c && sumOkB c) = ((allPts c.sets).all (ptZB c.ddt) && c.ddt.all fun e => decide ((ptN e.ea (allPts c.sets) : Int) = e.ec)) := by
  have hd2 := hd
  simp only [ddtOkB, Bool.and_eq_true, decide_eq_true_eq] at hd2
  have hpa : ∀ p ∈ allPts c.sets, 0 ≤ p.pa := fun p hp => by
    obtain ⟨s, hs1, hs2⟩ := List.mem_flatMap.1 hp
    exact (cs_pt (hs s hs1) hs2).2.1
  have e1 : (allPts c.sets).all (ptZB c.ddt) = sumOkB c := by
    unfold sumOkB
    rw [Bool.eq_iff_iff, List.all_eq_true, List.all_eq_true]
    refine forall_congr' fun p => forall_congr' fun hp => ?_
    have := hpa p hp
    simp only [ptZB, Bool.or_eq_true, decide_eq_true_eq]
    constructor
    · rintro (h | h)
      · simp [ptSumB, h]
      · exact h
    · exact .inr
  have e2 : (c.ddt.all fun e => decide ((refsB e.ea c.sets : Int) = e.ec)) = (c.ddt.all fun e => decide ((ptN e.ea (allPts c.sets) : Int) = e.ec)) := by
    rw [Bool.eq_iff_iff, List.all_eq_true, List.all_eq_true]
    refine forall_congr' fun e => forall_congr' fun he => ?_
    rw [ptN_refs hd2.2 (by omega) _ he]
  rw [e1]
  unfold cntOkB
  rw [e2]
  cases h1 : sumOkB c with
  | false => simp
  | true =>
    cases h2 : (c.ddt.all fun e => decide ((ptN e.ea (allPts c.sets) : Int) = e.ec)) with
    | false => simp
    | true =>
      have hL : ∀ p ∈ allPts c.sets, 0 ≤ p.pa ∧ (0 < p.pa → ∃ e ∈ c.ddt, e.ea = p.pa) := fun p hp => by
        refine ⟨hpa p hp, fun h0 => ?_⟩
        have := List.all_eq_true.1 h1 p hp
        simp only [ptSumB, Bool.or_eq_true, decide_eq_true_eq, Bool.and_eq_true] at this
        rcases this with h | h
        · omega
        · obtain ⟨e, he, hea⟩ := ddT_some h.1
          exact ⟨e, List.mem_of_getElem? he, hea⟩
      have h3 := sum_one hd2.2 (by omega) _ hL
      have h4 := sumEc_eq (l := c.ddt) (L := allPts c.sets) fun e he => by simpa using List.all_eq_true.1 h2 e he
      simp [h4, h3, nnS]
theorem countsOkC (c : CO) (h : CoT c) (hd : ddtOkB c.ddt = true) (hs : ∀ s ∈ c.sets, csOkB s = true) : CV prog 155 [.agg c.row] (.bool (cntOkB c && sumOkB c)) := by
  have hdd := ddt_ec hd
  have hdl := hdd.1
  have hs1 := h.sets
  obtain ⟨F, hF⟩ : ∃ F, (c.ddt.all fun e => decide ((ptN e.ea (allPts c.sets) : Int) = e.ec)) = F := ⟨_, rfl⟩
  obtain ⟨R, hR⟩ : ∃ R, ((allPts c.sets).all (ptZB c.ddt) && F) = R := ⟨_, rfl⟩
  have hfin : (cntOkB c && sumOkB c) = R := by
    rw [← hR, ← hF]
    exact cntSum c h hd hs
  rw [hfin]
  refine cvx func155 [(10, [⟨0, [], [], [], []⟩, ⟨1, [], [], [], []⟩, ⟨2, [], [], [], []⟩, ⟨3, [], [], [], []⟩, ⟨4, [1], [], [], []⟩, ⟨5, [], [1], [], []⟩, ⟨6, [], [], [], []⟩, ⟨7, [], [], [], []⟩, ⟨8, [], [], [], []⟩, ⟨9, [], [1], [], []⟩, ⟨10, [7], [1], [], []⟩, ⟨11, [], [], [], []⟩, ⟨12, [], [], [], []⟩]), (18, [⟨0, [], [], [], []⟩, ⟨1, [11], [], [], []⟩, ⟨2, [], [11], [], []⟩, ⟨3, [], [11], [], []⟩, ⟨4, [15], [11], [], []⟩, ⟨5, [15], [11], [], []⟩, ⟨6, [], [], [], []⟩])] ntmps155 rfl rfl rfl ?_
  simp -implicitDefEqProofs
  refine ⟨by omega, ?_⟩
  refine ev_lo (X := Nat) [1, 3, 17, 18, 19] [(1, 1), (15, 15)] (fun i => [(19, .int .i64 i)]) (fun i => [(1, ⟨7, [c.row]⟩), (15, ⟨1, c.ddt.map (cntRow c (allPts (c.sets.take i)))⟩)]) (fun i => c.sets.length - i)
    (fun i => i ≤ c.sets.length ∧ ((allPts (c.sets.drop i)).all (ptZB c.ddt) && F) = R) 0 (by simpa using hR) ?_ (he := by simp [allPts, cnt_nil])
  rintro i ⟨hi, ha⟩
  cases hr : c.sets.drop i with
  | nil =>
    have := dropn hr
    rw [hr] at ha
    have hie : i = c.sets.length := by omega
    have ha' : F = R := by simpa [allPts] using ha
    simp -implicitDefEqProofs [hie]
    refine ev_lp (X := Nat) [3, 61, 62, 63] [(15, 15)] (fun i => [(63, .int .i64 i)]) (fun _ => []) (fun i => c.ddt.length - i) (fun i => i ≤ c.ddt.length ∧ ((c.ddt.drop i).all fun e => decide ((ptN e.ea (allPts c.sets) : Int) = e.ec)) = R) 0 (by simp; rw [← ha', ← hF]) ?_
    rintro j ⟨hj, hb⟩
    cases hq : c.ddt.drop j with
    | nil =>
      have := dropn hq
      rw [hq] at hb
      have hje : j = c.ddt.length := by omega
      simp -implicitDefEqProofs [hje]
      grind
    | cons e r =>
      obtain ⟨h1, e0, e1, h3⟩ := dropc hq
      rw [hq] at hb
      have e2 := i64w ((j : Int) + 1) (by omega) (by omega)
      simp -implicitDefEqProofs [h1, e0, e1, e2, cntRow]
      repeat' first
        | with_reducible intro _
        | with_reducible refine And.intro ?_ ?_
      all_goals first
        | exact nx (j + 1) [(15, 15)] (by grind)
        | grind
  | cons x r =>
    obtain ⟨h1, e0, e1, h3⟩ := dropc hr
    have hxm := List.mem_of_getElem? e1
    have hx8 := h.m8 x hxm
    have hrl := cs_len x hx8
    have ht : List.take 31 x.row = x.row := List.take_of_length_le (by omega)
    have hm24 := cs_map24 x hx8
    rw [hr] at ha
    have ha' : (x.map.all (ptZB c.ddt) && ((allPts r).all (ptZB c.ddt) && F)) = R := by rw [← ha]; simp [allPts, Bool.and_assoc]
    have e2 := i64w ((i : Int) + 1) (by omega) (by omega)
    simp -implicitDefEqProofs [h1, e0, e1, hrl, ht, hm24]
    refine ⟨oneA_cs x, ?_⟩
    refine ev_lo (X := Nat) [1, 3, 17, 18, 19, 24, 25] [(1, 1), (15, 15)] (fun j => [(25, .int .i64 j)]) (fun j => [(1, ⟨7, [c.row]⟩), (15, ⟨1, c.ddt.map (cntRow c (allPts (c.sets.take i) ++ x.map.take j))⟩)]) (fun j => 8 - j)
      (fun j => j ≤ 8 ∧ ((x.map.drop j).all (ptZB c.ddt) && ((allPts r).all (ptZB c.ddt) && F)) = R) 0 (by simpa using ha') ?_
    rintro j ⟨hj, hb⟩
    by_cases h2 : j < 8
    · obtain ⟨p, f1⟩ : ∃ p, x.map[j]? = some p := ⟨_, List.getElem?_eq_getElem (by omega)⟩
      rw [dropAt f1] at hb
      have e3 := i64w ((j : Int) + 1) (by omega) (by omega)
      have h2' : (j : Int) < 8 := by omega
      have hfa := flat_at f1
      obtain ⟨hpo, hp0, hp1⟩ := cs_pt (hs x hxm) (List.mem_of_getElem? f1)
      simp -implicitDefEqProofs [h2', hfa, sum3 hx8]
      refine ⟨by omega, fun hz => ?_, fun hz => ?_⟩
      · have hne : ∀ e ∈ c.ddt, e.ea ≠ p.pa := fun e he => by
          simp only [ddtOkB, Bool.and_eq_true] at hd
          have := ((ddtR_up hd.2).1 e he).1; omega
        exact nx (j + 1) [(1, 1), (15, 15)] ⟨by omega, by simpa [ptZB, hz] using hb⟩ (h4 := by simp [e3, takeS f1, ← List.append_assoc, cnt_same _ _ _ hne])
      · refine (ddtPlaceC c.ddt p.pa hd (by omega)).call ?_
        cases hT : ddT c.ddt p.pa with
        | false =>
          have : ptZB c.ddt p = false := by simp [ptZB, ptSumB, hT, hz]; omega
          simp -implicitDefEqProofs
          grind
        | true =>
          obtain ⟨e, he, hea⟩ := ddT_some hT
          obtain ⟨hk, hk0⟩ := List.getElem?_eq_some_iff.1 he
          have hps : ptZB c.ddt p = (e.es == p.ps) := by simp [ptZB, ptSumB, hT, he, hz]; intro; omega
          have hcl := ptN_le p.pa (allPts (c.sets.take i) ++ x.map.take j)
          have hpl := pts_len (c.sets.take i) (fun s hs => h.m8 s (List.mem_of_mem_take hs))
          simp only [List.length_append, List.length_take] at hcl hpl
          have e4 := i64w ((ptN p.pa (allPts (c.sets.take i) ++ x.map.take j) : Int) + 1) (by omega) (by omega)
          have hcr : cntRow c (allPts (c.sets.take i) ++ x.map.take j) e = [.int .i64 (ptN p.pa (allPts (c.sets.take i) ++ x.map.take j))] := by simp [cntRow, hea]
          simp -implicitDefEqProofs [hk, hk0, he, hcr, e4]
          exact ⟨fun _ => by grind, fun _ => nx (j + 1) [(1, 1), (15, 15)] ⟨by omega, by grind⟩ (h4 := by simp [e3, takeS f1, ← List.append_assoc, ← cnt_set c _ p hd he hea])⟩
    · have : j = 8 := by omega
      subst this
      simp -implicitDefEqProofs [e2]
      simp [← hx8] at hb
      refine nx (i + 1) [(1, 1), (15, 15)] ⟨by omega, by rw [h3]; grind⟩ (h4 := ?_)
      have : allPts (c.sets.take (i + 1)) = allPts (c.sets.take i) ++ x.map.take 8 := by
        rw [takeS e1, List.take_of_length_le (l := x.map) (by omega)]; simp [allPts]
      simp [this]
theorem iCoreOk (c : CO) (h : CoT c) : CV prog 87 [.agg c.row] (.bool (coreOkB c)) := by
  obtain ⟨R, hR⟩ : ∃ R, coreOkB c = R := ⟨_, rfl⟩
  rw [hR]
  have hany : (c.parts.any fun p => !ptRealB p) = !(c.parts.all ptRealB) := by rw [List.not_all_eq_any_not]
  have hany2 : (c.sets.any fun p => !csOkB p) = !(c.sets.all csOkB) := by rw [List.not_all_eq_any_not]
  refine cvx func87 [] ntmps87 rfl rfl rfl ?_
  simp -implicitDefEqProofs
  repeat' first
    | (refine (withinC' ..).call ?_; simp -implicitDefEqProofs)
    | (refine (iDdtOkC c.ddt h.ddt).call ?_; simp -implicitDefEqProofs)
    | (refine (contPt (fun p => !ptRealB p) _ c.parts (by omega) (fun x _ => coreOk1 x)).call ?_; simp -implicitDefEqProofs)
    | with_reducible intro _
    | with_reducible refine And.intro ?_ ?_
  all_goals try (grind [coreOkB, wiB]; done)
  have hd : ddtOkB c.ddt = true := by assumption
  have hsl := h.safe
  have hs1 := h.sets
  have hrest : coreOkB c = (placesB 12 c.safe && (c.sets.all csOkB && (bookOkB (c.sets.map csB) && (cntOkB c && sumOkB c)))) := by grind [coreOkB, wiB]
  rw [hrest] at hR
  obtain ⟨T, hT⟩ : ∃ T, (c.sets.all csOkB && (bookOkB (c.sets.map csB) && (cntOkB c && sumOkB c))) = T := ⟨_, rfl⟩
  rw [hT] at hR
  refine ev_lp (X := Nat × Int) [1, 33, 34, 35] [(1, 1)] (fun x => [(35, .int .i64 x.1)]) (fun _ => []) (fun x => c.safe.length - x.1)
     (fun x => x.1 ≤ c.safe.length ∧ (x.1 = 0 → x.2 = 12) ∧ (∀ k, x.1 = k + 1 → c.safe[k]? = some x.2) ∧ (placesB x.2 (c.safe.drop x.1) && T) = R) (0, 12) (by simp [hR]) ?_
  rintro ⟨i, q⟩ ⟨hi, h0, hp, hdd⟩
  simp only at hi h0 hp hdd
  cases hr : c.safe.drop i with
  | nil =>
    have := dropn hr
    rw [hr] at hdd
    have hie : i = c.safe.length := by omega
    have hTR : T = R := by simpa [placesB] using hdd
    rw [hTR] at hT
    simp -implicitDefEqProofs [hie]
    refine (contCs (fun s => !csOkB s) _ c.sets (by omega) h.m8 (fun x hx => coreOk2 x (h.m8 x hx) (h.nm x hx).1 (h.nm x hx).2)).call ?_
    rw [hany2]
    cases hall : c.sets.all csOkB with
    | false =>
      simp -implicitDefEqProofs
      grind
    | true =>
      have hok : ∀ s ∈ c.sets, csOkB s = true := List.all_eq_true.1 hall
      simp -implicitDefEqProofs
      refine (frameC c h.sets h.m8).call ?_
      simp -implicitDefEqProofs
      refine (iBookOk _ (bkG_cs hok) (by simpa using h.sets)).call ?_
      simp -implicitDefEqProofs
      repeat' first
        | (refine (countsOkC c h hd hok).call ?_; simp -implicitDefEqProofs)
        | with_reducible intro _
        | with_reducible refine And.intro ?_ ?_
      all_goals grind
  | cons x r =>
    obtain ⟨h1, e0, e1, h3⟩ := dropc hr
    rw [hr] at hdd
    have e2 := i64w ((i : Int) + 1) (by omega) (by omega)
    by_cases hz : i = 0
    · subst hz
      simp -implicitDefEqProofs [h1, e0, e1]
      refine (withinC' ..).call ?_
      simp -implicitDefEqProofs
      repeat' first
        | with_reducible intro _
        | with_reducible refine And.intro ?_ ?_
      all_goals first
        | exact nx (1, x) [(1, 1)] (by grind [placesB, wiB])
        | grind [placesB, wiB]
    · obtain ⟨k, hk⟩ : ∃ k, i = k + 1 := ⟨i - 1, by omega⟩
      have f1 := hp k hk
      have h1' : k < c.safe.length := by omega
      have f0 : c.safe[k] = q := by grind
      have e3 : (i : Int) - 1 = k := by omega
      have e4 := i64w (k : Int) (by omega) (by omega)
      have hpos : 0 < i := by omega
      simp -implicitDefEqProofs [h1, e0, e1]
      refine (withinC' ..).call ?_
      simp -implicitDefEqProofs [h1, e0, h1', f0, e2, e3, e4, hpos]
      repeat' first
        | with_reducible intro _
        | with_reducible refine And.intro ?_ ?_
      all_goals first
        | exact nx (i + 1, x) [(1, 1)] (by grind [placesB, wiB])
        | grind [placesB, wiB]
end Go.Av.F
end
section
namespace Go.Av
open Go.RowKit
set_option linter.unusedSimpArgs false
set_option linter.unusedVariables false
section
variable {P : Program} {E : Env} {s : S} {Q : Exit → S → Prop} {K : S → Prop} {d : Option Nat}
theorem cwx {f : Nat} {fn : Func} {b : Code} {ac : ACode} {n : Nat} {rs : List ResultVar} {args : List AV} {o : Ob} {v : AV} (hf : P.funcs[f]? = some fn) (pl : List (Nat × List Itm)) (hn : fn.ntmps = n) (hb : fn.body = some b)
    (hc : cp n pl b = some ac) (hr : fn.results.toList = rs)
    (h : ev P ⟨n, [1000]⟩ ac (retQ P rs (fun r L' => r = v ∧ L' = [(1000, o)])) ⟨argT args, hpOf [(1000, o)], Us.of [1000]⟩) (hk : planned pl fn = true := by kernel_rfl) (hbd : hasBody P f = true := by kernel_rfl) (he : enters P f = true := by kernel_rfl) (ha : args.length ≤ n := by simp) (hcv : clA v = true := by simp) (hco : clR o.els = true := by simp) : CW P f args o v :=
  ⟨he, hcv, hco, acx hf pl hn hb hc hr h hk hbd ha (by simp)⟩
end
end Go.Av
end
section
namespace Go.Av.F
open Go Go.Av Go.Proofs Go.Proofs.Tryd
set_option linter.unusedSimpArgs false
set_option linter.unusedVariables false
set_option maxRecDepth 100000
theorem ix_ev1 {α : Type} {row : α → List AV} {tS tE sz g : Nat} {o : Ob} (hT : RowT row tS tE sz) (p : α → Bool) (l : List α) (hl : l.length ≤ 9000000) (hs : ∀ x ∈ l, (row x).length = sz) (ho : clR o.els = true)
    (hg : ∀ x ∈ l, CW prog g [.agg (row x), .ptr 1000 0 0] o (.bool (p x))) :
    ev prog ⟨19, [1000]⟩ (ixA tS tE) (retQ prog [.tmp 4] (fun r L' => r = .int .i64 (ixR p 0 l) ∧ L' = [(1000, o)])) ⟨argT [.lst sz (l.map row), .fn g [.ptr 1000 0 0]], hpOf [(1000, o)], Us.of [1000]⟩ := by
  obtain ⟨fs, b, z, hE⟩ := hT.E
  have hS := hT.S
  have hro : ∀ ρ, renOb ρ o = o := fun ρ => renOb_cl ho
  obtain ⟨R, hR⟩ : ∃ R, ixR p 0 l = R := ⟨_, rfl⟩
  rw [hR]
  simp -implicitDefEqProofs [ixA, hS, hE]
  refine ev_lp (X := Nat) [0, 1, 7, 8] [(1000, 1000)] (fun i => [(8, .int .i64 i)]) (fun _ => []) (fun i => l.length - i) (fun i => i ≤ l.length ∧ ixR p i (l.drop i) = R) 0 (by simp [hR]) ?_ (he := by simp [hro])
  rintro i ⟨hi, hd⟩
  cases hr : l.drop i with
  | nil =>
    have := dropn hr
    rw [hr] at hd
    have hie : i = l.length := by omega
    simp -implicitDefEqProofs [hie, hro]
    grind [ixR]
  | cons x r =>
    obtain ⟨h1, e0, e1, h3⟩ := dropc hr
    rw [hr] at hd
    have hx := List.mem_of_getElem? e1
    have e2 := i64w ((i : Int) + 1) (by omega) (by omega)
    have hrl := hs x hx
    have ht : (row x).take sz = row x := List.take_of_length_le (by omega)
    simp -implicitDefEqProofs [hS, hE, h1, e0, e1, hrl, ht, hro]
    refine (hg x hx).call 1000 (by simp) (by simp [mtL_cl _ (hT.cl x)]) ?_
    simp -implicitDefEqProofs [e2]
    exact ⟨fun hp => by grind [ixR], fun hp => nx (i + 1) [(1000, 1000)] (by grind [ixR]) (h4 := by simp [hro])⟩
abbrev nmOb (name : List UInt8) : Ob := ⟨1, [[.str name]]⟩
theorem namedF (name : List UInt8) (s : CS) (h8 : s.map.length = 8) : CW prog 161 [.agg s.row, .ptr 1000 0 0] (nmOb name) (.bool (s.name == name)) := by
  have hl := cs_len s h8
  refine cwx func161 [] ntmps161 rfl rfl rfl ?_
  simp -implicitDefEqProofs [hl]
theorem namedIx (name : List UInt8) (l : List CS) (hl : l.length ≤ 9000000) (h8 : ∀ s ∈ l, s.map.length = 8) : CW prog 160 [.lst 31 (l.map CS.row), .fn 161 [.ptr 1000 0 0]] (nmOb name) (.int .i64 (ixR (fun s => s.name == name) 0 l)) := by
  refine cwx func160 [] ntmps160 rfl rfl rfl ?_
  exact ix_ev1 rowCS _ l hl (fun x hx => cs_len x (h8 x hx)) (by simp) fun x hx => namedF name x (h8 x hx)
def zCS : CS := ⟨[], 0, [], List.replicate 8 ⟨0, 0, 0⟩, ⟨0, 0, 0⟩, false⟩
def setR (c : CO) (name : List UInt8) : CS × Bool := if coreOkB c = true then match c.sets.find? (fun s => s.name == name) with
  | some s => (s, true)
  | none => (zCS, false) else (zCS, false)
theorem ixR_find {α : Type} (p : α → Bool) : ∀ (l : List α) (i : Nat), (∃ k x, ixR p i l = ((i + k : Nat) : Int) ∧ l[k]? = some x ∧ l.find? p = some x) ∨ (ixR p i l = -1 ∧ l.find? p = none)
  | [], i => .inr ⟨rfl, rfl⟩
  | x :: r, i => by
    cases h : p x with
    | true => exact .inl ⟨0, x, by simp [ixR, h], rfl, by simp [h]⟩
    | false =>
      rcases ixR_find p r (i + 1) with ⟨k, y, h1, h2, h3⟩ | ⟨h1, h2⟩
      · exact .inl ⟨k + 1, y, by simp [ixR, h, h1]; omega, by simpa using h2, by simp [h, h3]⟩
      · exact .inr ⟨by simp [ixR, h, h1], by simp [h, h2]⟩
theorem iNamedC (c : CO) (name : List UInt8) (h : CoT c) : CV prog 95 [.agg c.row, .str name] (.tup [.agg (setR c name).1.row, .bool (setR c name).2]) := by
  have hs1 := h.sets
  refine cvx func95 [] ntmps95 rfl rfl rfl ?_ (hcv := by simp [cs_cl])
  simp -implicitDefEqProofs
  refine (iCoreOk c h).call ?_
  cases hb : coreOkB c with
  | true =>
    simp -implicitDefEqProofs
    refine (namedIx name c.sets (by omega) h.m8).call 3 (by simp) (by simp) ?_
    simp -implicitDefEqProofs
    rcases ixR_find (fun s : CS => s.name == name) c.sets 0 with ⟨k, x, h1, h2, h3⟩ | ⟨h1, h2⟩
    · obtain ⟨hk, hk0⟩ := List.getElem?_eq_some_iff.1 h2
      have hx8 := h.m8 x (List.mem_of_getElem? h2)
      have hrl := cs_len x hx8
      have ht : List.take 31 x.row = x.row := List.take_of_length_le (by omega)
      have hge : ¬ ((k : Int) < 0) := by omega
      simp -implicitDefEqProofs [h1, hk, hk0, h2, hrl, ht, hge, setR, hb, h3]
      exact oneA_cs x
    · simp -implicitDefEqProofs [h1, setR, hb, h2]
      rfl
  | false =>
    simp -implicitDefEqProofs [setR, hb]
    rfl
theorem findAt {l : List CS} (name : List UInt8) (hS : Srt (l.map csB)) : (atB (l.map csB) name = true → l[atP (l.map csB) name]? = l.find? (fun s => s.name == name) ∧ (l.find? (fun s => s.name == name)).isSome = true) ∧ (atB (l.map csB) name = false → l.find? (fun s => s.name == name) = none) := by
  have hne : ∀ (i j : Nat) (a b : CS), i < j → l[i]? = some a → l[j]? = some b → Op.bytesLess a.name b.name = true := fun i j a b hij ha hb =>
    hS i j (csB a) (csB b) hij (by simp [ha]) (by simp [hb])
  have hirr : ∀ a : List UInt8, Op.bytesLess a a = false := fun a => by rw [Go.Proofs.bytesLess_eq]; simp
  have hun : ∀ (i j : Nat) (a b : CS), l[i]? = some a → l[j]? = some b → a.name = b.name → i = j := fun i j a b ha hb he => by
    rcases Nat.lt_trichotomy i j with h | h | h
    · have := hne i j a b h ha hb; rw [he, hirr] at this; cases this
    · exact h
    · have := hne j i b a h hb ha; rw [he, hirr] at this; cases this
  refine ⟨fun h => ?_, fun h => ?_⟩
  · obtain ⟨t, ht, htn⟩ := atB_some h
    rw [List.getElem?_map, Option.map_eq_some_iff] at ht
    obtain ⟨s, hs, rfl⟩ := ht
    rcases ixR_find (fun s : CS => s.name == name) l 0 with ⟨k, x, _, h2, h3⟩ | ⟨_, h2⟩
    · have hxn : x.name = name := by simpa using List.find?_some h3
      have := hun _ _ s x hs h2 (by rw [hxn]; exact htn)
      subst this
      rw [hs] at h2
      rw [hs, h3, h2]; exact ⟨rfl, rfl⟩
    · have := List.find?_eq_none.1 h2 s (List.mem_of_getElem? hs)
      simp at this
      exact absurd htn this
  · rw [List.find?_eq_none]
    intro x hx hxn
    have hxn' : x.name = name := by simpa using hxn
    obtain ⟨k, hk, rfl⟩ := List.mem_iff_getElem.1 hx
    have hk' : l[k]? = some l[k] := List.getElem?_eq_getElem hk
    have hp : atP (l.map csB) name = k := (takeWhile_step (fun b : BS => Op.bytesLess b.name name) (l.map csB) k (csB l[k]) (fun j hj y hy => by
      rw [List.getElem?_map, Option.map_eq_some_iff] at hy
      obtain ⟨z, hz, rfl⟩ := hy
      have := hne j k z l[k] hj hz hk'
      rw [hxn'] at this; exact this) (by simp [hk'])).2 (by show Op.bytesLess l[k].name name = false; rw [hxn', hirr])
    unfold atB at h
    rw [hp] at h
    simp [hk', csB, hxn'] at h
theorem core_book {c : CO} (h : coreOkB c = true) : bookOkB (c.sets.map csB) = true := by
  simp only [coreOkB, Bool.and_eq_true] at h
  exact h.1.1.2
theorem core_srt {c : CO} (h : coreOkB c = true) : Srt (c.sets.map csB) := ibookOkB_srt (by rw [ok_eq]; exact core_book h)
theorem sSet17C (c : CO) (name : List UInt8) (h : CoT c) : CV prog 94 [.agg c.row, .str name] (.tup [.agg (setR c name).1.row, .bool (setR c name).2]) := by
  have hs1 := h.sets
  refine cvx func94 [] ntmps94 rfl rfl rfl ?_ (hcv := by simp [cs_cl])
  simp -implicitDefEqProofs
  refine (sNamesC c h.sets h.m8).call ?_
  simp -implicitDefEqProofs
  refine (cv_of (atC (c.sets.map csB) name (by simp; omega)) (hca := by simp [bk])).call ?_
  simp -implicitDefEqProofs
  refine (sCoreOk c h).call ?_
  cases hb : coreOkB c with
  | true =>
    have hf := findAt name (core_srt hb)
    cases hat : atB (c.sets.map csB) name with
    | true =>
      obtain ⟨h1, h2⟩ := hf.1 hat
      obtain ⟨x, hx⟩ := Option.isSome_iff_exists.1 h2
      rw [hx] at h1
      obtain ⟨hk, hk0⟩ := List.getElem?_eq_some_iff.1 h1
      have hx8 := h.m8 x (List.mem_of_getElem? h1)
      have hrl := cs_len x hx8
      have ht : List.take 31 x.row = x.row := List.take_of_length_le (by omega)
      simp -implicitDefEqProofs [hk, hk0, h1, hrl, ht, setR, hb, hx]
      exact oneA_cs x
    | false =>
      simp -implicitDefEqProofs [setR, hb, hf.2 hat]
      rfl
  | false =>
    simp -implicitDefEqProofs [setR, hb]
    rfl
theorem core_ddt {c : CO} (h : coreOkB c = true) : ddtOkB c.ddt = true := by
  simp only [coreOkB, Bool.and_eq_true] at h
  exact h.1.1.1.1.1.1.1.1.1.2
end Go.Av.F
end
section
namespace Go.Av.F
open Go Go.Av Go.Proofs Go.Proofs.Tryd
set_option linter.unusedSimpArgs false
set_option linter.unusedVariables false
set_option maxRecDepth 100000
theorem setR8 (c : CO) (name : List UInt8) (h : CoT c) : (setR c name).1.map.length = 8 := by
  unfold setR
  split
  · split
    · rename_i s hs; exact h.m8 s (List.mem_of_find?_eq_some hs)
    · rfl
  · rfl
theorem setR_ok {c : CO} {name : List UInt8} (h : (setR c name).2 = true) : coreOkB c = true ∧ (setR c name).1 ∈ c.sets := by
  unfold setR at h ⊢
  split at h
  · rename_i hb
    rw [if_pos hb]
    split at h
    · rename_i s hs; simp only [hs]; exact ⟨hb, List.mem_of_find?_eq_some hs⟩
    · cases h
  · cases h
theorem inC (s : CS) (a : Int) (h8 : s.map.length = 8) : CV prog 96 [.agg s.row, .int .i64 a] (.int .i64 (ptN a s.map)) := by
  obtain ⟨R, hR⟩ : ∃ R, ptN a s.map = R := ⟨_, rfl⟩
  have hl := cs_len s h8
  have hRl := ptN_le a s.map
  rw [hR] at hRl ⊢
  refine cvx func96 [] ntmps96 rfl rfl rfl ?_ (hca := by simp [cs_cl])
  simp -implicitDefEqProofs [hl]
  refine ev_lp (X := Nat × Nat) [1, 2, 5, 6] [(2, 2)] (fun x => [(6, .int .i64 x.1), (5, .int .i64 x.2)]) (fun _ => []) (fun x => 8 - x.1) (fun x => x.1 ≤ 8 ∧ x.2 + ptN a (s.map.drop x.1) = R) (0, 0) (by simp [hR]) ?_
  rintro ⟨j, m⟩ ⟨hj, hm⟩
  simp only at hj hm
  by_cases h2 : j < 8
  · obtain ⟨p, f1⟩ : ∃ p, s.map[j]? = some p := ⟨_, List.getElem?_eq_getElem (by omega)⟩
    rw [dropAt f1, ptN_cons] at hm
    have e3 := i64w ((j : Int) + 1) (by omega) (by omega)
    have e4 := i64w ((m : Int) + 1) (by omega) (by omega)
    have h2' : (j : Int) < 8 := by omega
    have h2'' : 3 + j * 3 < 31 := by omega
    simp -implicitDefEqProofs [h2', hl, cs_at s f1, cs_at' s f1, h2'']
    repeat' first
      | with_reducible intro _
      | with_reducible refine And.intro ?_ ?_
    all_goals first
      | exact nx (j + 1, m + 1) [(2, 2)] (by simp only; grind) (h4 := by simp [e3, e4])
      | exact nx (j + 1, m) [(2, 2)] (by simp only; grind) (h4 := by simp [e3, e4])
  · have : j = 8 := by omega
    subst this
    simp [ptN, ← h8] at hm
    simp -implicitDefEqProofs [hm]
theorem refersC (l : List PT) (a : Int) (h8 : l.length = 8) : CV prog 97 [.agg (l.flatMap PT.row), .int .i64 a] (.int .i64 (ptN a l)) := by
  obtain ⟨R, hR⟩ : ∃ R, ptN a l = R := ⟨_, rfl⟩
  have hRl := ptN_le a l
  rw [hR] at hRl ⊢
  have hf : (l.flatMap PT.row).length = 24 := by rw [flat3, h8]
  have ht : List.take 24 (l.flatMap PT.row) = l.flatMap PT.row := List.take_of_length_le (by omega)
  refine cvx func97 [] ntmps97 rfl rfl rfl ?_ (hca := by simp [clL_pts])
  simp -implicitDefEqProofs [sum3 h8, ht]
  refine ev_lp (X := Nat × Nat) [1, 5, 8, 9] [] (fun x => [(9, .int .i64 x.1), (5, .int .i64 x.2)]) (fun _ => []) (fun x => 8 - x.1) (fun x => x.1 ≤ 8 ∧ x.2 + ptN a (l.drop x.1) = R) (0, 0) (by simp [hR]) ?_
  rintro ⟨j, m⟩ ⟨hj, hm⟩
  simp only at hj hm
  by_cases h2 : j < 8
  · obtain ⟨p, f1⟩ : ∃ p, l[j]? = some p := ⟨_, List.getElem?_eq_getElem (by omega)⟩
    rw [dropAt f1, ptN_cons] at hm
    have e3 := i64w ((j : Int) + 1) (by omega) (by omega)
    have e4 := i64w ((m : Int) + 1) (by omega) (by omega)
    have h2' : (j : Int) < 8 := by omega
    have hfa := flat_at f1
    simp -implicitDefEqProofs [h2', sum3 h8, hfa]
    refine ⟨by omega, ?_⟩
    repeat' first
      | with_reducible intro _
      | with_reducible refine And.intro ?_ ?_
    all_goals first
      | exact nx (j + 1, m + 1) [] (by simp only; grind) (h4 := by simp [e3, e4])
      | exact nx (j + 1, m) [] (by simp only; grind) (h4 := by simp [e3, e4])
  · have : j = 8 := by omega
    subst this
    simp [ptN, ← h8] at hm
    simp -implicitDefEqProofs [hm]
def cntD (c : CO) (name : List UInt8) (f : CS → DE → Bool) : Nat := if (setR c name).2 = true then c.ddt.countP (f (setR c name).1) else 0
def ownF (s : CS) (e : DE) : Bool := decide (0 < ptN e.ea s.map) && decide ((ptN e.ea s.map : Int) = e.ec)
theorem sOwnC (c : CO) (name : List UInt8) (h : CoT c) : CV prog 41 [.agg c.row, .str name] (.int .i64 (cntD c name ownF)) := by
  obtain ⟨R, hR⟩ : ∃ R, cntD c name ownF = R := ⟨_, rfl⟩
  rw [hR]
  have hdl := h.ddt
  have hs8 := setR8 c name h
  have hl := cs_len _ hs8
  have ht : List.take 31 (setR c name).1.row = (setR c name).1.row := List.take_of_length_le (by omega)
  refine cvx func41 [(6, [⟨0, [5], [], [], []⟩, ⟨1, [], [5], [], []⟩, ⟨2, [2], [5], [], []⟩, ⟨3, [], [5, 2], [], []⟩, ⟨4, [], [5], [], []⟩, ⟨5, [], [5], [], []⟩, ⟨6, [], [5], [], []⟩, ⟨7, [], [], [], []⟩, ⟨8, [], [], [], []⟩])] ntmps41 rfl rfl rfl ?_
  simp -implicitDefEqProofs
  refine (sSet17C c name h).call ?_
  cases hok : (setR c name).2 with
  | false =>
    have hR0 : R = 0 := by rw [← hR, cntD, hok]; rfl
    simp -implicitDefEqProofs [hl]
    refine ⟨oneA_cs _, ?_⟩
    refine ev_lp (X := Unit) [2, 5, 6, 7, 8] [(2, 2), (5, 5)] (fun x => []) (fun _ => []) (fun x => 0) (fun _ => True) () trivial ?_
    rintro _ _
    simp -implicitDefEqProofs [hR0]
  | true =>
    have hR1 : c.ddt.countP (ownF (setR c name).1) = R := by rw [← hR, cntD, if_pos hok]
    have hRl : R ≤ c.ddt.length := by rw [← hR1]; exact List.countP_le_length
    simp -implicitDefEqProofs [hl]
    refine ⟨oneA_cs _, ?_⟩
    refine ev_lp (X := Nat × Nat) [2, 5, 6, 7, 8] [(2, 2), (5, 5)] (fun x => [(8, .int .i64 x.1), (7, .int .i64 x.2)]) (fun _ => []) (fun x => c.ddt.length - x.1) (fun x => x.1 ≤ c.ddt.length ∧ x.2 + (c.ddt.drop x.1).countP (ownF (setR c name).1) = R) (0, 0) (by simp [hR1]) ?_
    rintro ⟨i, n⟩ ⟨hi, hs⟩
    simp only at hi hs
    cases hr : c.ddt.drop i with
    | nil =>
      have := dropn hr
      rw [hr] at hs
      have hie : i = c.ddt.length := by omega
      simp at hs
      simp -implicitDefEqProofs [hie, hs]
    | cons x r =>
      obtain ⟨h1, e0, e1, h3⟩ := dropc hr
      rw [hr, List.countP_cons] at hs
      have e2 := i64w ((i : Int) + 1) (by omega) (by omega)
      have e3 := i64w ((n : Int) + 1) (by omega) (by omega)
      simp -implicitDefEqProofs [h1, e0, e1, hl, ht]
      refine (inC _ x.ea hs8).call ?_
      simp -implicitDefEqProofs [h1, e0, e1]
      repeat' first
        | with_reducible intro _
        | with_reducible refine And.intro ?_ ?_
      all_goals first
        | exact nx (i + 1, n + 1) [(2, 2), (5, 5)] (by simp only; grind [ownF]) (h4 := by simp [e2, e3])
        | exact nx (i + 1, n) [(2, 2), (5, 5)] (by simp only; grind [ownF]) (h4 := by simp [e2, e3])
theorem iOwnC (c : CO) (name : List UInt8) (h : CoT c) : CV prog 42 [.agg c.row, .str name] (.int .i64 (cntD c name ownF)) := by
  obtain ⟨R, hR⟩ : ∃ R, cntD c name ownF = R := ⟨_, rfl⟩
  rw [hR]
  have hdl := h.ddt
  have hs8 := setR8 c name h
  have hl := cs_len _ hs8
  have hm24 := cs_map24 _ hs8
  refine cvx func42 [(6, [⟨0, [], [], [], []⟩, ⟨1, [], [], [], []⟩, ⟨2, [], [], [], []⟩, ⟨3, [5], [], [], []⟩, ⟨4, [], [5], [], []⟩, ⟨5, [9], [5], [], []⟩, ⟨7, [], [5, 9], [], []⟩, ⟨8, [9], [5, 9], [], []⟩, ⟨6, [], [9], [], []⟩, ⟨9, [], [], [], []⟩, ⟨10, [], [], [], []⟩])] ntmps42 rfl rfl rfl ?_
  simp -implicitDefEqProofs
  refine (iNamedC c name h).call ?_
  have hR1 : (c.ddt.countP fun e => (setR c name).2 && ownF (setR c name).1 e) = R := by
    rw [← hR, cntD]
    cases hok : (setR c name).2 with
    | false => simp
    | true => simp
  have hec : (setR c name).2 = true → ∀ e ∈ c.ddt, 1 ≤ e.ec := fun hok e he => ((ddt_ec (core_ddt (setR_ok hok).1)).2 e he).1
  have hRl : R ≤ c.ddt.length := by rw [← hR1]; exact List.countP_le_length
  simp -implicitDefEqProofs [hl]
  refine ⟨oneA_cs _, ?_⟩
  refine ev_lp (X := Nat × Nat) [5, 6, 7, 17, 18, 19] [(5, 5)] (fun x => [(19, .int .i64 x.1), (7, .int .i64 x.2)]) (fun _ => []) (fun x => c.ddt.length - x.1) (fun x => x.1 ≤ c.ddt.length ∧ x.2 + (c.ddt.drop x.1).countP (fun e => (setR c name).2 && ownF (setR c name).1 e) = R) (0, 0) (by simp only [List.drop_zero]; omega) ?_
  rintro ⟨i, n⟩ ⟨hi, hs⟩
  simp only at hi hs
  cases hr : c.ddt.drop i with
  | nil =>
    have := dropn hr
    rw [hr] at hs
    have hie : i = c.ddt.length := by omega
    simp at hs
    simp -implicitDefEqProofs [hie, hs]
  | cons x r =>
    obtain ⟨h1, e0, e1, h3⟩ := dropc hr
    have hxm := List.mem_of_getElem? e1
    rw [hr, List.countP_cons] at hs
    have e2 := i64w ((i : Int) + 1) (by omega) (by omega)
    have e3 := i64w ((n : Int) + 1) (by omega) (by omega)
    cases hok : (setR c name).2 with
    | false =>
      simp -implicitDefEqProofs [h1, e0, e1, hok]
      exact nx (i + 1, n) [(5, 5)] ⟨by simp only; omega, by simp only [h3]; simpa [hok] using hs⟩ (h4 := by simp [e2, e3, hok])
    | true =>
      have hxe := hec hok x hxm
      simp -implicitDefEqProofs [h1, e0, e1, hl, hm24, hok]
      refine (refersC _ x.ea hs8).call ?_
      simp -implicitDefEqProofs
      repeat' first
        | with_reducible intro _
        | with_reducible refine And.intro ?_ ?_
      all_goals first
        | exact nx (i + 1, n + 1) [(5, 5)] (by simp only; grind [ownF]) (h4 := by simp [e2, e3, hok])
        | exact nx (i + 1, n) [(5, 5)] (by simp only; grind [ownF]) (h4 := by simp [e2, e3, hok])
end Go.Av.F
end
section
namespace Go.Av.F
open Go Go.Av Go.Proofs Go.Proofs.Tryd
set_option linter.unusedSimpArgs false
set_option linter.unusedVariables false
set_option maxRecDepth 100000
theorem coT_of {c : CO} (hg : CoG c) (hs : CoS c) : CoT c := by
  exact ⟨hs.1, hs.2.1, hs.2.2.1, hs.2.2.2.1, fun s h => (hg.2.1 s h).2.1, hs.2.2.2.2⟩
theorem toCoreCV (c : CO) (hg : CoG c) (hs : CoS c) : CV prog 31 [.agg c.row] (.agg c.row) := cv_of (toCoreC c hg hs)
theorem eqCoreCV (c : CO) (hg : CoG c) (hs : CoS c) : CV prog 33 [.agg c.row, .agg c.row] (.bool true) := cv_of (eqCoreC c hg hs)
theorem lawOwn (c : CO) (name : List UInt8) (hg : CoG c) : CV prog 12 [.agg c.row, .str name] (.bool true) := by
  refine cvx func12 [(12, [⟨0, [7], [], [], []⟩, ⟨1, [2], [7], [], []⟩, ⟨2, [], [7], [], []⟩, ⟨3, [], [], [], []⟩, ⟨4, [], [], [], []⟩])] ntmps12 rfl rfl rfl ?_
  simp -implicitDefEqProofs
  intro hn
  refine callA_ex (by kernel_rfl) (szCoreC c hg) (by simp) ?_
  rintro _ ⟨z, rfl, hz1, hz2, hz3⟩
  by_cases h0 : z < 0
  · simp -implicitDefEqProofs [h0]
  · have hs := hz3 (by omega)
    have ht := coT_of hg hs
    simp -implicitDefEqProofs [h0]
    repeat' first
      | (refine (toCoreCV c hg hs).call ?_; simp -implicitDefEqProofs)
      | (refine (sOwnC c name ht).call ?_; simp -implicitDefEqProofs)
      | (refine (iOwnC c name ht).call ?_; simp -implicitDefEqProofs)
      | (refine (eqCoreCV c hg hs).call ?_; simp -implicitDefEqProofs)
      | with_reducible intro _
      | with_reducible refine And.intro ?_ ?_
end Go.Av.F
end
section
namespace Go.Av
open Go.RowKit Go.ChangeShapes Go.WideShapes Go.ChangeAt
set_option linter.unusedSimpArgs false
set_option linter.unusedVariables false
variable {H : Type} {enc : TypeId × Value → H} {P : Program} {w : World} {spare : Nat → Bool} {held : Bool}
theorem open_st {r : Reach} {base n : Nat} {t : TypeId} {fs : Array Field} {v : Value} {d : DataW H} {ps : List MemPlace} (ht : P.underlying t = some (.struct fs)) (hp : plainT P n t = true) (hv : Value.okWide P w r base t v)
    (hd : DataW.Trod enc P w 0 spare held t v d ps) : ∃ avs, AVRel w (Old w) noG (.agg avs) v ∧ Shp P n t avs := by
  obtain ⟨cs, rfl, _⟩ := okWide_struct ht hv
  obtain ⟨fuel, hf⟩ := hd
  obtain ⟨avs, hr, hs⟩ := opened n t _ fuel _ hp hf
  refine ⟨avs, .agg _ _ _ ?_ fun j hj => ?_, hs⟩
  · have := hr.1
    simpa [Value.cells] using this.symm
  · have h1 := hr.1
    simp only [Value.cells, Array.length_toList] at h1
    have := hr.2 j (by simp [Value.cells]; omega)
    simpa [Value.cells, Array.getD_eq_getD_getElem?, List.getD_eq_getElem?_getD] using this
theorem open_one {n : Nat} {t : TypeId} {v : Value} {d : DataW H} {ps : List MemPlace} (hc : v.cells = #[v]) (hp : plainT P n t = true)
    (hd : DataW.Trod enc P w 0 spare held t v d ps) : ∃ a, AVRel w (Old w) noG a v ∧ Shp P n t [a] := by
  obtain ⟨fuel, hf⟩ := hd
  obtain ⟨avs, hr, hs⟩ := opened n t _ fuel _ hp hf
  rw [hc] at hr
  obtain ⟨a, rfl⟩ : ∃ a, avs = [a] := by
    have := hr.1
    match avs, this with
    | [a], _ => exact ⟨a, rfl⟩
  exact ⟨a, by simpa using hr.2 0 (by simp), hs⟩
theorem open_str {r : Reach} {base : Nat} {t : TypeId} {v : Value} {d : DataW H} {ps : List MemPlace} (ht : P.underlying t = some .string) (hv : Value.okWide P w r base t v)
    (hd : DataW.Trod enc P w 0 spare held t v d ps) : ∃ s : List UInt8, s.length ≤ maxLen ∧ AVRel w (Old w) noG (.str s) v := by
  obtain ⟨s, rfl⟩ := okWide_string ht hv
  obtain ⟨a, hr, hs⟩ := open_one (n := 1) rfl (by simp [plainT, ht]) hd
  obtain ⟨b, hb, e⟩ := shp_string ht hs
  injection e with e; subst e
  exact ⟨b, hb, hr⟩
end Go.Av
end
