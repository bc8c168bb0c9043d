/- Views that are numbered otherwise: the plain law. -/
import Derived.Test.YtphefhpmbahagaaT81
namespace Go.Proofs.Ytphefhpmbahagaa
open Go.RowKit
set_option linter.unusedVariables false
set_option linter.unusedSimpArgs false

/-- x is t with other numbers: view v of t is view σ v of x. -/
structure Turn (n : Nat) (σ τ : Nat → Nat) (t x : Tr) : Prop where
  nt : t.frm.length = n
  nx : x.frm.length = n
  dawn : x.dawn = t.dawn
  lt : ∀ v,v < n → σ v < n
  tl : ∀ v,v < n → τ v < n
  back : ∀ v,v < n → τ (σ v) = v
  forth : ∀ v,v < n → σ (τ v) = v
  frm : ∀ v,v < n → gs x.frm (σ v) = gs t.frm v
  stay : ∀ v,v < n → gs x.stay (σ v) = gs t.stay v
  light : ∀ v,v < n → gs x.light (σ v) = gs t.light v
  ways : ∀ u v,u < n → v < n → gs (gw x.ways (σ u)) (σ v) = gs (gw t.ways u) v
theorem Turn.symm {n : Nat} {σ τ : Nat → Nat} {t x : Tr} (T : Turn n σ τ t x) : Turn n τ σ x t := by
  refine ⟨T.nx,T.nt,T.dawn.symm,T.tl,T.lt,T.forth,T.back,fun v hv => ?_,fun v hv => ?_,fun v hv => ?_,fun u v hu hv => ?_⟩
  · have := T.frm (τ v) (T.tl v hv); rw [T.forth v hv] at this; exact this.symm
  · have := T.stay (τ v) (T.tl v hv); rw [T.forth v hv] at this; exact this.symm
  · have := T.light (τ v) (T.tl v hv); rw [T.forth v hv] at this; exact this.symm
  · have := T.ways (τ u) (τ v) (T.tl u hu) (T.tl v hv); rw [T.forth u hu,T.forth v hv] at this; exact this.symm
/-- The number of a view. -/
def tmap (σ : Nat → Nat) (v : Int) : Int := ((σ v.toNat : Nat) : Int)
theorem gi_map {f : Int → Int} {o : List Int} {k : Nat} (h : k < o.length) : gi (o.map f) k = f (gi o k) := by simp [gi,h]
section
variable {n : Nat} {σ τ : Nat → Nat} {t x : Tr}
theorem turn_view (T : Turn n σ τ t x) {v : Int} (h : t.view v = true) : x.view (tmap σ v) = true := by
  obtain ⟨m,rfl,hm⟩ := view_nat h
  have := T.lt m (by rw [← T.nt]; exact hm)
  unfold tmap Tr.view inR Tr.n
  rw [T.nx,Int.toNat_natCast,Bool.and_eq_true,decide_eq_true_eq,decide_eq_true_eq]
  omega
theorem turn_back (T : Turn n σ τ t x) {v : Int} (h : t.view v = true) : tmap τ (tmap σ v) = v := by
  obtain ⟨m,rfl,hm⟩ := view_nat h
  unfold tmap
  rw [Int.toNat_natCast,Int.toNat_natCast,T.back m (by rw [← T.nt]; exact hm)]
theorem turn_list (T : Turn n σ τ t x) {o : List Int} (h : ∀ v ∈ o,t.view v = true) : (o.map (tmap σ)).map (tmap τ) = o := by
  rw [List.map_map]
  conv => rhs; rw [← List.map_id o]
  exact List.map_congr_left fun v hv => turn_back T (h v hv)
theorem turn_views (T : Turn n σ τ t x) {o : List Int} (h : ∀ v ∈ o,t.view v = true) : ∀ v ∈ o.map (tmap σ),x.view v = true := fun v hv => by
  obtain ⟨u,hu,rfl⟩ := List.mem_map.1 hv
  exact turn_view T (h u hu)
theorem turn_order (T : Turn n σ τ t x) {o : List Int} (h : t.order o = true) : x.order (o.map (tmap σ)) = true := by
  have hv := order_view h
  have hd := (order_facts h).1
  have h2 : ((o.map (tmap σ)).all x.view && decide (o.map (tmap σ)).Nodup) = true := by
    rw [Bool.and_eq_true,decide_eq_true_eq,List.all_eq_true]
    refine ⟨turn_views T hv,?_⟩
    have hp : (o.map (tmap σ)).Pairwise (· ≠ ·) := by
      rw [List.pairwise_map]
      refine List.Pairwise.imp_of_mem (R := (· ≠ ·)) ?_ hd
      intro a b ha hb hne e
      apply hne
      rw [← turn_back T (hv a ha),← turn_back T (hv b hb),e]
    exact hp
  exact h2
theorem turn_way (T : Turn n σ τ t x) {o : List Int} (h : ∀ v ∈ o,t.view v = true) : ∀ k,k < o.length → x.wayAt (o.map (tmap σ)) k = t.wayAt o k
  | 0,hk => by
    obtain ⟨m,e,hm⟩ := view_nat (h _ (gi_mem' hk))
    rw [wayAt_zero,wayAt_zero,gi_map hk,e]
    unfold tmap
    rw [Int.toNat_natCast,Int.toNat_natCast]
    exact T.frm m (by rw [← T.nt]; exact hm)
  | k + 1,hk => by
    obtain ⟨m,e,hm⟩ := view_nat (h _ (gi_mem' hk))
    obtain ⟨u,e2,hu⟩ := view_nat (h _ (gi_mem' (show k < o.length by omega)))
    have hk2 : k < (o.map (tmap σ)).length := by rw [List.length_map]; omega
    have e3 : gi (o.map (tmap σ)) k = ((σ u : Nat) : Int) := by rw [gi_map (show k < o.length by omega),e2]; unfold tmap; rw [Int.toNat_natCast]
    have e4 : gi (o.map (tmap σ)) (k + 1) = ((σ m : Nat) : Int) := by rw [gi_map hk,e]; unfold tmap; rw [Int.toNat_natCast]
    rw [wayAt_succ x hk2 (by omega),wayAt_succ t (show k < o.length by omega) (by omega),e3,e4,e,e2]
    simp only [Int.toNat_natCast]
    exact T.ways u m (by rw [← T.nt]; exact hu) (by rw [← T.nt]; exact hm)
theorem turn_light (T : Turn n σ τ t x) {o : List Int} (h : ∀ v ∈ o,t.view v = true) {k : Nat} (hk : k < o.length) : gs x.light (gi (o.map (tmap σ)) k).toNat = gs t.light (gi o k).toNat := by
  obtain ⟨m,e,hm⟩ := view_nat (h _ (gi_mem' hk))
  rw [gi_map hk,e]
  unfold tmap
  rw [Int.toNat_natCast,Int.toNat_natCast]
  exact T.light m (by rw [← T.nt]; exact hm)
theorem turn_stay (T : Turn n σ τ t x) {o : List Int} (h : ∀ v ∈ o,t.view v = true) {k : Nat} (hk : k < o.length) : gs x.stay (gi (o.map (tmap σ)) k).toNat = gs t.stay (gi o k).toNat := by
  obtain ⟨m,e,hm⟩ := view_nat (h _ (gi_mem' hk))
  rw [gi_map hk,e]
  unfold tmap
  rw [Int.toNat_natCast,Int.toNat_natCast]
  exact T.stay m (by rw [← T.nt]; exact hm)
theorem turn_sel (T : Turn n σ τ t x) (q : Bool) {o : List Int} (h : ∀ v ∈ o,t.view v = true) : ∀ k,k ≤ o.length → sel q (x.at_ (o.map (tmap σ)) k).2 = sel q (t.at_ o k).2
  | 0,_ => by
    have h1 : sel q (x.at_ (o.map (tmap σ)) 0).2 = x.dawn := by cases q <;> rfl
    have h2 : sel q (t.at_ o 0).2 = t.dawn := by cases q <;> rfl
    rw [h1,h2,T.dawn]
  | k + 1,hk => by
    have hk2 : k < (o.map (tmap σ)).length := by rw [List.length_map]; omega
    rw [sel_next x q hk2,sel_next t q (by omega),← minAt_max,← minAt_max,turn_sel T q h k (by omega),turn_way T h k (by omega),turn_light T h (by omega),turn_stay T h (by omega)]
theorem turn_min (T : Turn n σ τ t x) (q : Bool) {o : List Int} (h : ∀ v ∈ o,t.view v = true) {k : Nat} (hk : k < o.length) : x.minAt q (o.map (tmap σ)) k = t.minAt q o k := by
  rw [← minAt_max,← minAt_max,turn_sel T q h k (by omega),turn_way T h k hk,turn_light T h hk]
theorem turn_is (T : Turn n σ τ t x) (q : Bool) {o : List Int} (h : ∀ v ∈ o,t.view v = true) : x.is q (o.map (tmap σ)) = t.is q o := by
  rw [Bool.eq_iff_iff,is_iff,is_iff,List.length_map]
  constructor
  · intro hh k hk
    have := hh k hk
    rwa [turn_min T q h hk,turn_light T h hk] at this
  · intro hh k hk
    rw [turn_min T q h hk,turn_light T h hk]
    exact hh k hk
theorem turn_takes (T : Turn n σ τ t x) {o : List Int} (h : ∀ v ∈ o,t.view v = true) : x.takes (o.map (tmap σ)) = t.takes o := by
  have := turn_sel T true h o.length (Nat.le_refl _)
  show (x.at_ (o.map (tmap σ)) (o.map (tmap σ)).length).2.2 = (t.at_ o o.length).2.2
  rw [List.length_map]
  exact this
theorem turn_steps (T : Turn n σ τ t x) {o : List Int} (h : ∀ v ∈ o,t.view v = true) :
    x.steps (-1) (x.dawn,x.dawn) (o.map (tmap σ)) = (t.steps (-1) (t.dawn,t.dawn) o).map fun y => (tmap σ y.1,y.2) := by
  refine List.ext_getElem? fun k => ?_
  by_cases hk : k < o.length
  · have hk2 : k < (o.map (tmap σ)).length := by rw [List.length_map]; exact hk
    have h1 : (x.steps (-1) (x.dawn,x.dawn) (o.map (tmap σ)))[k]? = some (gi (o.map (tmap σ)) k,x.minAt false (o.map (tmap σ)) k,x.minAt true (o.map (tmap σ)) k) := steps_at x hk2
    have h2 : (t.steps (-1) (t.dawn,t.dawn) o)[k]? = some (gi o k,t.minAt false o k,t.minAt true o k) := steps_at t hk
    rw [h1,List.getElem?_map,h2,turn_min T false h hk,turn_min T true h hk,gi_map hk]
    rfl
  · rw [List.getElem?_eq_none (by rw [steps_len,List.length_map]; omega),List.getElem?_eq_none (by rw [List.length_map,steps_len]; omega)]
theorem turn_open (T : Turn n σ τ t x) (ht : t.valid = true) (hx : x.valid = true) {o : List Int} (h : t.order o = true) : openE t (t.order o) = 0 ∧ openE x (x.order (o.map (tmap σ))) = 0 :=
  ⟨openE_mk ht h,openE_mk hx (turn_order T h)⟩
theorem turn_walked (T : Turn n σ τ t x) (ht : t.valid = true) (hx : x.valid = true) {o : List Int} (h : t.order o = true) : walkedE x (o.map (tmap σ)) = walkedE t o := by
  obtain ⟨h1,h2⟩ := turn_open T ht hx h
  unfold walkedE
  rw [if_pos h1,if_pos h2,turn_is T true (order_view h),turn_is T false (order_view h)]
theorem turn_times (T : Turn n σ τ t x) (ht : t.valid = true) (hx : x.valid = true) {o : List Int} (h : t.order o = true) : timesE x (o.map (tmap σ)) = timesE t o := by
  obtain ⟨h1,h2⟩ := turn_open T ht hx h
  have hv := order_view h
  have e1 : x.times (o.map (tmap σ)) = t.times o := by
    unfold Tr.times
    rw [turn_steps T hv,List.map_map]
    rfl
  have e2 : (x.at_ (o.map (tmap σ)) (o.map (tmap σ)).length).2.1 = (t.at_ o o.length).2.1 := by
    have := turn_sel T false hv o.length (Nat.le_refl _)
    rw [List.length_map]
    exact this
  rw [times_over h1,times_over h2,e1,e2,turn_takes T hv]
theorem find_map' {α β : Type} (f : α → β) (p : β → Bool) : ∀ l : List α,(l.map f).find? p = (l.find? (fun a => p (f a))).map f
  | [] => rfl
  | a :: r => by
    rw [List.map_cons,List.find?_cons,List.find?_cons]
    cases p (f a)
    · exact find_map' f p r
    · rfl
theorem find_same {α : Type} {p q : α → Bool} : ∀ {l : List α},(∀ a ∈ l,p a = q a) → l.find? p = l.find? q
  | [],_ => rfl
  | a :: r,h => by
    rw [List.find?_cons,List.find?_cons,h a (by simp),find_same (fun b hb => h b (by simp [hb]))]
theorem steps_mem {o : List Int} (h : ∀ v ∈ o,t.view v = true) : ∀ y ∈ t.steps (-1) (t.dawn,t.dawn) o,t.view y.1 = true := fun y hy => by
  obtain ⟨k,hk,rfl⟩ := List.mem_iff_getElem.1 hy
  have hk2 : k < o.length := by rw [steps_len] at hk; exact hk
  have := steps_at t hk2
  rw [List.getElem?_eq_getElem hk] at this
  rw [Option.some.inj this]
  exact h _ (gi_mem' hk2)
theorem turn_holds (T : Turn n σ τ t x) (q : Bool) {y : Int × Int × Int} (h : t.view y.1 = true) : x.holds q (tmap σ y.1,y.2) = t.holds q y := by
  obtain ⟨v,p⟩ := y
  rw [holds_sel,holds_sel]
  obtain ⟨m,e,hm⟩ := view_nat h
  have e : v = m := e
  subst e
  unfold tmap
  rw [Int.toNat_natCast,Int.toNat_natCast,T.light m (by rw [← T.nt]; exact hm)]
theorem turn_late (T : Turn n σ τ t x) (ht : t.valid = true) (hx : x.valid = true) {o : List Int} (h : t.order o = true) :
    (lateE x (o.map (tmap σ))).2 = (lateE t o).2 ∧ ((lateE t o).2.2 = 0 → (lateE x (o.map (tmap σ))).1 = tmap σ (lateE t o).1 ∧ t.view (lateE t o).1 = true) := by
  obtain ⟨h1,h2⟩ := turn_open T ht hx h
  have hv := order_view h
  have hs := steps_mem (t := t) hv
  unfold lateE
  rw [if_pos h1,if_pos h2,turn_steps T hv]
  unfold Tr.late
  have e : ((t.steps (-1) (t.dawn,t.dawn) o).map fun y => (tmap σ y.1,y.2)).find? (fun y => !x.holds true y) = ((t.steps (-1) (t.dawn,t.dawn) o).find? (fun y => !t.holds true y)).map fun y => (tmap σ y.1,y.2) := by
    rw [find_map',find_same (fun a ha => by rw [turn_holds T true (hs a ha)])]
  rw [e]
  cases hf : (t.steps (-1) (t.dawn,t.dawn) o).find? (fun y => !t.holds true y) with
  | none => exact ⟨rfl,fun h => by cases h⟩
  | some y =>
    have hm := hs y (List.mem_of_find?_eq_some hf)
    refine ⟨?_,fun _ => ⟨rfl,hm⟩⟩
    show (!x.holds false (tmap σ y.1,y.2),(0 : Int)) = (!t.holds false y,0)
    rw [turn_holds T false hm]
theorem turn_until (T : Turn n σ τ t x) {o : List Int} (h : ∀ v ∈ o,t.view v = true) : ∀ k,k ≤ o.length → x.untilA (o.map (tmap σ)) k = t.untilA o k
  | 0,_ => rfl
  | k + 1,hk => by
    have ih := turn_until T h k (by omega)
    simp only [Tr.untilA,Tr.byA]
    rw [List.length_map,ih,turn_light T h (show o.length - 1 - k < o.length by omega),turn_stay T h (show o.length - 1 - k < o.length by omega),turn_way T h _ (show o.length - 1 - k < o.length by omega)]
theorem turn_later (T : Turn n σ τ t x) (ht : t.valid = true) (hx : x.valid = true) {o : List Int} (h : t.order o = true) : laterE x (o.map (tmap σ)) = laterE t o := by
  obtain ⟨h1,h2⟩ := turn_open T ht hx h
  have hv := order_view h
  unfold laterE
  rw [if_pos h1,if_pos h2,turn_is T true hv,List.length_map,turn_until T hv _ (Nat.le_refl _),T.dawn]
theorem toursL_nodup (n : Nat) : (toursL n).Nodup := by
  refine List.Pairwise.imp ?_ (tours_sorted n)
  intro a b h e
  subst e
  rw [cmpL_refl] at h
  omega
theorem countP_sub {α : Type} [DecidableEq α] (p : α → Bool) : ∀ (l m : List α),l.Nodup → (∀ a ∈ l,a ∈ m) → l.countP p ≤ m.countP p
  | [],m,_,_ => by simp
  | a :: r,m,hd,hs => by
    have ha := hs a (by simp)
    have hp := List.perm_cons_erase ha
    have hd2 := List.nodup_cons.1 hd
    have ih := countP_sub p r (m.erase a) hd2.2 (fun b hb => (List.mem_erase_of_ne (fun (e : b = a) => hd2.1 (by rw [← e]; exact hb))).2 (hs b (by simp [hb])))
    rw [hp.countP_eq,List.countP_cons,List.countP_cons]
    omega
theorem cnt_turn (T : Turn n σ τ t x) (q : Bool) : t.cnt q (toursL t.frm.length).length ≤ x.cnt q (toursL x.frm.length).length := by
  unfold Tr.cnt
  rw [List.take_length,List.take_length,T.nt,T.nx]
  have hview : ∀ o ∈ toursL n,t.order o = true := fun o ho => by
    obtain ⟨g1,g2,g3⟩ := tour_mem ho
    exact order_mk g3 (by rw [T.nt]; exact g2)
  have hnd : ((toursL n).map (List.map (tmap σ))).Nodup := by
    have hp : ((toursL n).map (List.map (tmap σ))).Pairwise (· ≠ ·) := by
      rw [List.pairwise_map]
      refine List.Pairwise.imp_of_mem (R := (· ≠ ·)) ?_ (toursL_nodup n)
      intro a b ha hb hne e
      apply hne
      rw [← turn_list T (order_view (hview a ha)),← turn_list T (order_view (hview b hb)),e]
    exact hp
  have hsub : ∀ y ∈ (toursL n).map (List.map (tmap σ)),y ∈ toursL n := by
    intro y hy
    obtain ⟨o,ho,rfl⟩ := List.mem_map.1 hy
    obtain ⟨g1,g2,g3⟩ := tour_mem ho
    have h2 := order_facts (turn_order T (hview o ho))
    exact tours_all (by rw [List.length_map]; exact g1) h2.1 (by have := h2.2; rw [T.nx] at this; exact this)
  have h1 : (toursL n).countP (t.is q) = ((toursL n).map (List.map (tmap σ))).countP (x.is q) := by
    rw [List.countP_map]
    refine List.countP_congr fun o ho => ?_
    show t.is q o = true ↔ x.is q (o.map (tmap σ)) = true
    rw [turn_is T q (order_view (hview o ho))]
  rw [h1]
  exact countP_sub _ _ _ hnd hsub
theorem turn_tours (T : Turn n σ τ t x) (ht : t.valid = true) (hx : x.valid = true) : toursE x = toursE t := by
  have h1 := fun q => cnt_turn T q
  have h2 := fun q => cnt_turn T.symm q
  rw [tours_ok hx,tours_ok ht,Nat.le_antisymm (h2 true) (h1 true),Nat.le_antisymm (h2 false) (h1 false)]
theorem best_turn (T : Turn n σ τ t x) : (bestE t).1.length ≤ (bestE x).1.length ∧ ((bestE t).1.length = (bestE x).1.length → x.takes (bestE x).1 ≤ t.takes (bestE t).1) := by
  obtain ⟨f1,f2,f3,f4⟩ := best_facts t
  obtain ⟨g1,g2,g3,g4⟩ := best_facts x
  have hot : t.order (bestE t).1 = true := order_mk f1 f2
  have hv := order_view hot
  have hox := order_facts (turn_order T hot)
  have hs : x.is true ((bestE t).1.map (tmap σ)) = true := by rw [turn_is T true hv]; exact f3
  have hlow := sure_low hox.1 hox.2 hs
  rw [g4,betE_lt] at hlow
  have k1 : (x.key ((bestE t).1.map (tmap σ))).1 = (bestE t).1.map (tmap σ) := rfl
  have k2 : (x.key ((bestE t).1.map (tmap σ))).2 = x.takes ((bestE t).1.map (tmap σ)) := rfl
  have k3 : (x.key (bestE x).1).1 = (bestE x).1 := rfl
  have k4 : (x.key (bestE x).1).2 = x.takes (bestE x).1 := rfl
  rw [k1,k2,k3,k4,List.length_map,turn_takes T hv] at hlow
  refine ⟨?_,fun e => ?_⟩
  · by_cases e : (bestE x).1.length < (bestE t).1.length
    · exact absurd (.inl e) hlow
    · omega
  · by_cases e2 : t.takes (bestE t).1 < x.takes (bestE x).1
    · exact absurd (.inr ⟨e,.inl e2⟩) hlow
    · omega
/-- What the law asks of the best orders. -/
theorem turn_best (T : Turn n σ τ t x) : (bestE x).1.length = (bestE t).1.length ∧ x.takes (bestE x).1 = t.takes (bestE t).1 := by
  obtain ⟨h1,h2⟩ := best_turn T
  obtain ⟨h3,h4⟩ := best_turn T.symm
  have e := Nat.le_antisymm h3 h1
  exact ⟨e,Int.le_antisymm (h2 e.symm) (h4 e)⟩
theorem turn_short (T : Turn n σ τ t x) (ht : t.valid = true) (hx : x.valid = true) : (shortE x).2 = (shortE t).2 ∧ (shortE x).1.length = (shortE t).1.length := by
  obtain ⟨e,_⟩ := turn_best T
  rcases short_cases ht with ⟨h1,h2⟩ | ⟨h1,h2⟩
  · rcases short_cases hx with ⟨h3,h4⟩ | ⟨h3,h4⟩
    · rw [h2,h4]; exact ⟨rfl,e⟩
    · exact absurd (by rw [e,h1,T.nt,T.nx]) h3
  · rcases short_cases hx with ⟨h3,h4⟩ | ⟨h3,h4⟩
    · exact absurd (by rw [← e,h3,T.nt,T.nx]) h1
    · rw [h2,h4]; exact ⟨rfl,rfl⟩
end
end Go.Proofs.Ytphefhpmbahagaa
