/- Lemmas for the proof, no statement of the seat; no conditions. -/
import Derived.Test.YtbdklnphnibfiaaDoorLayAF
set_option linter.unusedSimpArgs false
set_option linter.unusedVariables false
set_option linter.unnecessarySimpa false
set_option maxRecDepth 100000
section
namespace Go.Av
open Go.RowKit
section
variable {P:Program} {E:Env} {s:S}
theorem sw_ph (k sz:Nat) (hk:s.t k=.nils) (hu:k ∉ s.u):SW E s ⟨upd s.t k (.sl k 0 0),upd s.h k (some ⟨sz,[]⟩),Us.cons k s.u⟩:=fun cx Z γ a w hn hin hs=>by
 have h1:=hs.tmp k
 rw[hk]at h1
 have hv:a.tmps.getD k undef=.slice none 0 0:=by
  generalize a.tmps.getD k undef=v at h1
  cases h1;rfl
 have hkn:k<a.tmps.size:=by
  apply Classical.byContradiction
  intro h
  rw[Array.getD_eq_getD_getElem?,Array.getElem?_eq_none (by omega)]at hv
  simp[undef]at hv
 have h2:=hs.phantom (d:=k) (sz:=sz) (by rw[← hs.siz];exact hkn) hu (u:=.slice none 0 0) none rfl
 have ha:a.put (some k) (.slice none 0 0)=a:=by
  have h3:a.tmps.setIfInBounds k (.slice none 0 0)=a.tmps:=by
   apply Array.ext_getElem?
   intro i
   rw[Array.getElem?_setIfInBounds]
   split
   ·rename_i h
    subst h
    rw[Array.getD_eq_getD_getElem?,Array.getElem?_eq_getElem hkn]at hv
    rw[Array.getElem?_eq_getElem hkn]
    simp at hv
    rw[hv]
   ·rfl
  simp only[Act.put]
  obtain⟨tm,df⟩:=a
  simp_all
 rw[ha]at h2
 exact⟨Z,_,h2⟩
end
end Go.Av
end
