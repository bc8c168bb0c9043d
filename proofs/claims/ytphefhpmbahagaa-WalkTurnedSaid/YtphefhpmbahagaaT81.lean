/- Narrower ways and stays, a wider light, a later dawn: the plain law. -/
import Derived.Test.YtphefhpmbahagaaT52
import Derived.Test.YtphefhpmbahagaaT78
namespace Go.Proofs.Ytphefhpmbahagaa
open Go.RowKit
set_option linter.unusedVariables false
set_option linter.unusedSimpArgs false

theorem areB_mk {l : List Spn} {n : Nat} (hl : l.length = n) (h : ∀ k,k < n → (gs l k).ok = true) : areB l n = true := by
  unfold areB
  rw [Bool.and_eq_true,decide_eq_true_eq,List.all_eq_true]
  refine ⟨hl,fun s hs => ?_⟩
  obtain ⟨k,hk,rfl⟩ := List.mem_iff_getElem.1 hs
  have := h k (by omega)
  have e : gs l k = l[k] := by simp [gs,hk]
  rwa [e] at this
theorem valid_of_fit {t : Tr} (F : t.Fit) : t.valid = true := by
  show (decide (t.frm.length ≤ 6) && decide (t.ways.length = t.frm.length) && inR t.dawn 0 1440 && (t.ways ++ [t.frm,t.stay,t.light]).all fun l => areB l t.frm.length) = true
  simp only [inR,List.all_append,List.all_cons,List.all_nil,Bool.and_true,Bool.and_eq_true,decide_eq_true_eq]
  refine ⟨⟨⟨F.n,F.ways⟩,F.dawn⟩,?_,areB_mk rfl F.okf,areB_mk F.stay F.oks,areB_mk F.light F.okl⟩
  rw [List.all_eq_true]
  intro l hl
  obtain ⟨k,hk,rfl⟩ := List.mem_iff_getElem.1 hl
  have hkn : k < t.frm.length := by rw [← F.ways]; exact hk
  have e : gw t.ways k = t.ways[k] := by simp [gw,hk]
  rw [← e]
  exact areB_mk (F.rows k hkn) (fun j hj => F.okw k j hkn hj)
/-- x is nowhere later than t,at that end of the spans. -/
structure Ear (q : Bool) (x t : Tr) : Prop where
  n : x.frm.length = t.frm.length
  dawn : x.dawn ≤ t.dawn
  way : ∀ (f : Int) (v : Nat),(f = -1 ∨ ∃ m : Nat,f = m ∧ m < t.frm.length) → v < t.frm.length → (x.way f v).sel q ≤ (t.way f v).sel q
  stay : ∀ v : Nat,v < t.frm.length → (gs x.stay v).sel q ≤ (gs t.stay v).sel q
  llo : ∀ v : Nat,v < t.frm.length → (gs x.light v).lo ≤ (gs t.light v).lo
  lhi : ∀ v : Nat,v < t.frm.length → (gs t.light v).hi ≤ (gs x.light v).hi
theorem at_fst (x t : Tr) (o : List Int) : ∀ k,k ≤ o.length → (x.at_ o k).1 = (t.at_ o k).1
  | 0,_ => rfl
  | k + 1,h => by rw [at_succ _ (by omega),at_succ _ (by omega)]; rfl
theorem ear_min {q : Bool} {x t : Tr} (E : Ear q x t) {o : List Int} (ho : ∀ v ∈ o,t.view v = true) {k : Nat} (hk : k < o.length) (h : sel q (x.at_ o k).2 ≤ sel q (t.at_ o k).2) : x.minAt q o k ≤ t.minAt q o k := by
  obtain ⟨v,hv,hvn⟩ := view_nat (ho _ (gi_mem' hk))
  have h1 := E.way _ v (at_from ho k (by omega)) hvn
  have h2 := E.llo v hvn
  rw [← minAt_max,← minAt_max]
  unfold Tr.wayAt
  rw [at_fst x t o k (by omega),hv,Int.toNat_natCast]
  omega
theorem ear_at {q : Bool} {x t : Tr} (E : Ear q x t) {o : List Int} (ho : ∀ v ∈ o,t.view v = true) : ∀ k,k ≤ o.length → sel q (x.at_ o k).2 ≤ sel q (t.at_ o k).2
  | 0,_ => by
    have h1 : sel q (x.at_ o 0).2 = x.dawn := by cases q <;> rfl
    have h2 : sel q (t.at_ o 0).2 = t.dawn := by cases q <;> rfl
    rw [h1,h2]; exact E.dawn
  | k + 1,hk => by
    have h1 := ear_min E ho (show k < o.length by omega) (ear_at E ho k (by omega))
    rw [sel_next x q (by omega),sel_next t q (by omega)]
    obtain ⟨v,hv,hvn⟩ := view_nat (ho _ (gi_mem' (show k < o.length by omega)))
    have h2 := E.stay v hvn
    rw [hv,Int.toNat_natCast]
    omega
theorem ear_is {q : Bool} {x t : Tr} (E : Ear q x t) {o : List Int} (ho : ∀ v ∈ o,t.view v = true) (h : t.is q o = true) : x.is q o = true := by
  rw [is_iff] at h ⊢
  intro k hk
  obtain ⟨v,hv,hvn⟩ := view_nat (ho _ (gi_mem' hk))
  have h1 := ear_min E ho hk (ear_at E ho k (by omega))
  have h2 := h k hk
  have h3 := E.lhi v hvn
  rw [hv,Int.toNat_natCast] at h2 ⊢
  omega
theorem ear_order {q : Bool} {x t : Tr} (E : Ear q x t) (o : List Int) : x.order o = t.order o := by
  have hv : x.view = t.view := by funext v; unfold Tr.view Tr.n; rw [E.n]
  unfold Tr.order
  rw [hv]
theorem ear_open {q : Bool} {x t : Tr} (E : Ear q x t) (hx : x.valid = true) (ht : t.valid = true) (o : List Int) : openE x (x.order o) = openE t (t.order o) := by
  unfold openE
  rw [hx,ht,ear_order E]
theorem cnt_ear {q : Bool} {x t : Tr} (E : Ear q x t) : t.cnt q (toursL t.frm.length).length ≤ x.cnt q (toursL x.frm.length).length := by
  unfold Tr.cnt
  rw [List.take_length,List.take_length,E.n]
  exact List.countP_mono_left fun o ho h => ear_is E (tour_view ho) h
theorem walked_err (t : Tr) (o : List Int) : (walkedE t o).2 = openE t (t.order o) := by
  unfold walkedE
  split
  · next h => exact h.symm
  · rfl
theorem tours_ok {t : Tr} (h : t.valid = true) : toursE t = (((t.cnt true (toursL t.frm.length).length : Nat) : Int),((t.cnt false (toursL t.frm.length).length : Nat) : Int),0) := by
  have hE : openE t true = 0 := by unfold openE; rw [h]; rfl
  unfold toursE; rw [if_pos hE]
/-- The shortest tour,if views are valid. -/
theorem short_cases {t : Tr} (hv : t.valid = true) : ((bestE t).1.length = t.frm.length ∧ shortE t = ((bestE t).1,0)) ∨ ((bestE t).1.length ≠ t.frm.length ∧ shortE t = ([],4)) := by
  have hE : openE t true = 0 := by unfold openE; rw [hv]; rfl
  have t3 : shortE t = (if (bestE t).1.length = t.frm.length then ((bestE t).1,0) else ([],4)) := by unfold shortE; rw [if_pos hE]
  by_cases h : (bestE t).1.length = t.frm.length
  · rw [if_pos h] at t3; exact .inl ⟨h,t3⟩
  · rw [if_neg h] at t3; exact .inr ⟨h,t3⟩
/-- What the law asks of a tour that is nowhere later. -/
structure MoreX (x t : Tr) (o : List Int) : Prop where
  err : (walkedE x o).2 = (walkedE t o).2
  two : (walkedE t o).1 = 2 → (walkedE x o).1 = 2
  ok : (toursE x).2.2 = 0
  cnt : (toursE t).1 ≤ (toursE x).1
  short : (shortE t).2 = 0 → (shortE x).2 = 0 ∧ x.order (shortE x).1 = true ∧ t.order (shortE t).1 = true ∧ x.takes (shortE x).1 ≤ t.takes (shortE t).1
  len : (shortE x).1.length ≤ 6
theorem ear_more {x t : Tr} (E : Ear true x t) (hx : x.valid = true) (ht : t.valid = true) (o : List Int) : MoreX x t o := by
  have hF := fit_of_valid hx
  obtain ⟨f1,f2,f3,f4⟩ := best_facts t
  obtain ⟨g1,g2,g3,g4⟩ := best_facts x
  have hlx := (all_in _ _ g1 g2).1
  have hx6 := hF.n
  refine ⟨?_,fun h => ?_,by rw [tours_ok hx],by rw [tours_ok hx,tours_ok ht]; have := cnt_ear E; simp; omega,fun h => ?_,?_⟩
  · rw [walked_err,walked_err,ear_open E hx ht]
  · have hE : openE t (t.order o) = 0 := by
      by_cases hE : openE t (t.order o) = 0
      · exact hE
      · unfold walkedE at h; rw [if_neg hE] at h; simp at h
    have hE2 : openE x (x.order o) = 0 := by rw [ear_open E hx ht]; exact hE
    rw [sure_two hE2 (ear_is E (order_view (openE_zero hE).2) (two_sure hE h))]
  · rcases short_cases ht with ⟨h1,h2⟩ | ⟨_,h2⟩
    · have hot : t.order (bestE t).1 = true := order_mk f1 f2
      have hs : x.is true (bestE t).1 = true := ear_is E (order_view hot) f3
      have hlow := sure_low f1 (fun v hv => by rw [E.n]; exact f2 v hv) hs
      rw [g4,betE_lt] at hlow
      have k1 : (x.key (bestE t).1).1 = (bestE t).1 := rfl
      have k2 : (x.key (bestE t).1).2 = x.takes (bestE t).1 := rfl
      have k3 : (x.key (bestE x).1).1 = (bestE x).1 := rfl
      have k4 : (x.key (bestE x).1).2 = x.takes (bestE x).1 := rfl
      rw [k1,k2,k3,k4] at hlow
      have hlen : (bestE x).1.length = x.frm.length := by
        by_cases e : (bestE x).1.length < (bestE t).1.length
        · exact absurd (.inl e) hlow
        · have := E.n; omega
      have htk : x.takes (bestE t).1 ≤ t.takes (bestE t).1 := ear_at E (order_view hot) _ (Nat.le_refl _)
      have htl : ¬ x.takes (bestE t).1 < x.takes (bestE x).1 := fun e => hlow (.inr ⟨by have := E.n; omega,.inl e⟩)
      have hsx : shortE x = ((bestE x).1,0) := by
        rcases short_cases hx with ⟨_,h⟩ | ⟨h,_⟩
        · exact h
        · exact absurd hlen h
      rw [h2,hsx]
      exact ⟨rfl,order_mk g1 g2,hot,by show x.takes (bestE x).1 ≤ t.takes (bestE t).1; omega⟩
    · rw [h2] at h; cases h
  · rcases short_cases hx with ⟨_,h⟩ | ⟨_,h⟩
    · rw [h]; show (bestE x).1.length ≤ 6; omega
    · rw [h]; show 0 ≤ 6; omega
/-- What the law asks of a later dawn. -/
structure MoreY (y t : Tr) (o : List Int) : Prop where
  err : (walkedE y o).2 = (walkedE t o).2
  le : (walkedE y o).1 ≤ (walkedE t o).1
  ok : (toursE y).2.2 = 0
  cnt1 : (toursE y).1 ≤ (toursE t).1
  cnt2 : (toursE y).2.1 ≤ (toursE t).2.1
theorem ear_late {y t : Tr} (E : ∀ q,Ear q t y) (hy : y.valid = true) (ht : t.valid = true) (o : List Int) : MoreY y t o := by
  have hop := ear_open (E true) ht hy o
  refine ⟨by rw [walked_err,walked_err,hop],?_,by rw [tours_ok hy],by rw [tours_ok hy,tours_ok ht]; have := cnt_ear (E true); simp; omega,by rw [tours_ok hy,tours_ok ht]; have := cnt_ear (E false); simp; omega⟩
  by_cases hE : openE t (t.order o) = 0
  · have hE2 : openE y (y.order o) = 0 := by rw [← hop]; exact hE
    have hvw : ∀ v ∈ o,y.view v = true := order_view (openE_zero hE2).2
    have hq : ∀ q,y.is q o = true → t.is q o = true := fun q => ear_is (E q) hvw
    unfold walkedE
    rw [if_pos hE,if_pos hE2]
    have h1 := hq true
    have h2 := hq false
    cases e1 : y.is true o <;> cases e2 : y.is false o <;> cases e3 : t.is true o <;> cases e4 : t.is false o <;> simp_all
  · have hE2 : ¬ openE y (y.order o) = 0 := by rw [← hop]; exact hE
    unfold walkedE
    rw [if_neg hE,if_neg hE2]
    exact Int.le_refl _
/-! ### the tours of the law -/
def narS (b : Int) (s : Spn) : Spn := ⟨min (max s.lo (s.hi - b % 20)) (s.lo + b % 3),max s.lo (s.hi - b % 20)⟩
def narL (b : Int) (l : List Spn) (i : Nat) : List Spn := l.set i (narS b (gs l i))
def Tr.thin (t : Tr) (b : Int) (k : Nat) : Tr := { t with frm := narL b t.frm k,ways := t.ways.set k (narL b (gw t.ways k) ((k + 1) % t.frm.length)),stay := narL b t.stay k }
def widS (b : Int) (s : Spn) : Spn := ⟨max 0 (s.lo - b % 30),min 1440 (s.hi + b % 40)⟩
def Tr.wide (t : Tr) (b : Int) (k : Nat) : Tr := { t with light := t.light.set k (widS b (gs t.light k)) }
theorem gs_set {l : List Spn} {i j : Nat} {s : Spn} (h : i < l.length) : gs (l.set i s) j = if i = j then s else gs l j := by
  unfold gs
  by_cases e : i = j
  · subst e; simp [h]
  · simp [e]
theorem gw_set {l : List (List Spn)} {i j : Nat} {s : List Spn} (h : i < l.length) : gw (l.set i s) j = if i = j then s else gw l j := by
  unfold gw
  by_cases e : i = j
  · subst e; simp [h]
  · simp [e]
theorem narS_ok {b : Int} (hb : 0 ≤ b) {s : Spn} (h : s.ok = true) : (narS b s).ok = true ∧ (narS b s).hi ≤ s.hi := by
  rw [ok_iff] at h ⊢
  have h1 := Int.emod_nonneg b (show (20 : Int) ≠ 0 by omega)
  have h2 := Int.emod_nonneg b (show (3 : Int) ≠ 0 by omega)
  unfold narS
  simp only
  omega
theorem widS_ok {b : Int} (hb : 0 ≤ b) {s : Spn} (h : s.ok = true) : (widS b s).ok = true ∧ (widS b s).lo ≤ s.lo ∧ s.hi ≤ (widS b s).hi := by
  rw [ok_iff] at h ⊢
  have h1 := Int.emod_nonneg b (show (30 : Int) ≠ 0 by omega)
  have h2 := Int.emod_nonneg b (show (40 : Int) ≠ 0 by omega)
  unfold widS
  simp only
  omega
theorem thin_fit {t : Tr} (F : t.Fit) {b : Int} (hb : 0 ≤ b) {k : Nat} (hk : k < t.frm.length) : (t.thin b k).Fit := by
  have e : (t.thin b k).frm.length = t.frm.length := by simp [Tr.thin,narL]
  have hm : (k + 1) % t.frm.length < t.frm.length := Nat.mod_lt _ (by omega)
  have hw := F.ways
  have hs := F.stay
  have hrow : ∀ j,j < t.frm.length → (gw (t.thin b k).ways j).length = t.frm.length := fun j hj => by
    show (gw (t.ways.set k _) j).length = _
    rw [gw_set (by omega)]
    split
    · unfold narL; rw [List.length_set]; exact F.rows k hk
    · exact F.rows j hj
  refine ⟨by rw [e]; exact F.n,F.dawn,by rw [e]; show (t.ways.set k _).length = _; rw [List.length_set]; exact F.ways,by rw [e]; show (narL b t.stay k).length = _; unfold narL; rw [List.length_set]; exact F.stay,by rw [e]; exact F.light,
    by rw [e]; exact hrow,?_,?_,by rw [e]; exact F.okl,?_⟩
  · rw [e]; intro j hj
    show (gs (t.frm.set k _) j).ok = true
    rw [gs_set hk]
    split
    · exact (narS_ok hb (F.okf k hk)).1
    · exact F.okf j hj
  · rw [e]; intro j hj
    show (gs (t.stay.set k _) j).ok = true
    rw [gs_set (by omega)]
    split
    · exact (narS_ok hb (F.oks k hk)).1
    · exact F.oks j hj
  · rw [e]; intro i j hi hj
    show (gs (gw (t.ways.set k _) i) j).ok = true
    rw [gw_set (by omega)]
    split
    · unfold narL
      rw [gs_set (by rw [F.rows k hk]; exact hm)]
      split
      · exact (narS_ok hb (F.okw k _ hk hm)).1
      · exact F.okw k j hk hj
    · exact F.okw i j hi hj
theorem thin_ear {t : Tr} (F : t.Fit) {b : Int} (hb : 0 ≤ b) {k : Nat} (hk : k < t.frm.length) : Ear true (t.thin b k) t := by
  have e : (t.thin b k).frm.length = t.frm.length := by simp [Tr.thin,narL]
  have hm : (k + 1) % t.frm.length < t.frm.length := Nat.mod_lt _ (by omega)
  have hw := F.ways
  have hs := F.stay
  refine ⟨e,Int.le_refl _,fun f v hf hv => ?_,fun v hv => ?_,fun v hv => Int.le_refl _,fun v hv => Int.le_refl _⟩
  · show ((t.thin b k).way f v).hi ≤ (t.way f v).hi
    rcases hf with rfl | ⟨m,rfl,hmn⟩
    · show (gs (t.frm.set k _) v).hi ≤ (gs t.frm v).hi
      rw [gs_set hk]
      split
      · next h => subst h; exact (narS_ok hb (F.okf k hk)).2
      · exact Int.le_refl _
    · have hne : ¬ (m : Int) = -1 := by omega
      unfold Tr.way
      rw [if_neg hne,if_neg hne,Int.toNat_natCast,Int.toNat_natCast]
      show (gs (gw (t.ways.set k _) m) v).hi ≤ _
      rw [gw_set (by omega)]
      split
      · next h =>
        subst h
        unfold narL
        rw [gs_set (by rw [F.rows k hk]; exact hm)]
        split
        · next h => rw [← h]; exact (narS_ok hb (F.okw k _ hk hm)).2
        · exact Int.le_refl _
      · exact Int.le_refl _
  · show (gs (t.stay.set k _) v).hi ≤ (gs t.stay v).hi
    rw [gs_set (by omega)]
    split
    · next h => subst h; exact (narS_ok hb (F.oks k hk)).2
    · exact Int.le_refl _
theorem wide_fit {t : Tr} (F : t.Fit) {b : Int} (hb : 0 ≤ b) {k : Nat} (hk : k < t.frm.length) : (t.wide b k).Fit := by
  have hl := F.light
  refine ⟨F.n,F.dawn,F.ways,F.stay,by show (t.light.set k _).length = _; rw [List.length_set]; exact F.light,F.rows,F.okf,F.oks,fun j hj => ?_,F.okw⟩
  show (gs (t.light.set k _) j).ok = true
  rw [gs_set (by omega)]
  split
  · exact (widS_ok hb (F.okl k hk)).1
  · exact F.okl j hj
theorem wide_ear {t : Tr} (F : t.Fit) {b : Int} (hb : 0 ≤ b) {k : Nat} (hk : k < t.frm.length) : Ear true (t.wide b k) t := by
  have hl := F.light
  refine ⟨rfl,Int.le_refl _,fun f v hf hv => Int.le_refl _,fun v hv => Int.le_refl _,fun v hv => ?_,fun v hv => ?_⟩
  · show (gs (t.light.set k _) v).lo ≤ _
    rw [gs_set (by omega)]
    split
    · next h => subst h; exact (widS_ok hb (F.okl k hk)).2.1
    · exact Int.le_refl _
  · show _ ≤ (gs (t.light.set k _) v).hi
    rw [gs_set (by omega)]
    split
    · next h => subst h; exact (widS_ok hb (F.okl k hk)).2.2
    · exact Int.le_refl _
theorem late_ear {t : Tr} {d : Int} (h : t.dawn ≤ d) (q : Bool) : Ear q t (t.on d) := ⟨rfl,h,fun f v hf hv => Int.le_refl _,fun v hv => Int.le_refl _,fun v hv => Int.le_refl _,fun v hv => Int.le_refl _⟩
end Go.Proofs.Ytphefhpmbahagaa
