/- A walk: where it stands after so many views; its two functions. -/
import Derived.Test.YtphefhpmbahagaaT9
namespace Go.Proofs.Ytphefhpmbahagaa
open Go.RowKit
set_option linter.unusedVariables false
set_option linter.unusedSimpArgs false

/-- Where a walk stands: from where,when. -/
def Tr.go (t : Tr) (s : Int × Int × Int) (v : Int) : Int × Int × Int := (v,t.after v (t.begin s.1 v s.2))
def Tr.at_ (t : Tr) (o : List Int) (k : Nat) : Int × Int × Int := (o.take k).foldl t.go (-1,t.dawn,t.dawn)
theorem at_zero (t : Tr) (o : List Int) : t.at_ o 0 = (-1,t.dawn,t.dawn) := rfl
theorem at_succ (t : Tr) {o : List Int} {k : Nat} (h : k < o.length) : t.at_ o (k + 1) = t.go (t.at_ o k) (gi o k) := by
  have e : o[k] = gi o k := by simp [gi,h]
  unfold Tr.at_
  rw [List.take_succ_eq_append_getElem h,e,List.foldl_append]
  rfl
theorem steps_len (t : Tr) : ∀ (o : List Int) (f : Int) (n : Int × Int),(t.steps f n o).length = o.length
  | [],_,_ => rfl
  | v :: r,f,n => by simp [Tr.steps,steps_len t r]
theorem steps_fold (t : Tr) : ∀ (o : List Int) (f : Int) (n : Int × Int) (k : Nat),k < o.length →
    (t.steps f n o)[k]? = some (gi o k,t.begin ((o.take k).foldl t.go (f,n)).1 (gi o k) ((o.take k).foldl t.go (f,n)).2)
  | [],_,_,k,h => by simp at h
  | v :: r,f,n,0,h => rfl
  | v :: r,f,n,k + 1,h => by
    have := steps_fold t r v (t.after v (t.begin f v n)) k (by simpa using h)
    simp only [Tr.steps,List.getElem?_cons_succ,this,List.take_succ_cons,List.foldl_cons]
    rfl
theorem over_fold (t : Tr) : ∀ (o : List Int) (f : Int) (n : Int × Int),t.over f n o = (o.foldl t.go (f,n)).2
  | [],_,_ => rfl
  | v :: r,f,n => over_fold t r v _
theorem steps_at (t : Tr) {o : List Int} {k : Nat} (h : k < o.length) : (t.steps (-1) (t.dawn,t.dawn) o)[k]? = some (gi o k,t.begin (t.at_ o k).1 (gi o k) (t.at_ o k).2) := steps_fold t o _ _ k h
theorem over_at (t : Tr) (o : List Int) : t.over (-1) (t.dawn,t.dawn) o = (t.at_ o o.length).2 := by
  unfold Tr.at_; rw [List.take_length]; exact over_fold t o _ _
theorem view_nat {t : Tr} {v : Int} (h : t.view v = true) : ∃ m : Nat,v = m ∧ m < t.frm.length := by
  unfold Tr.view inR Tr.n at h
  simp at h
  exact ⟨v.toNat,by omega,by omega⟩
theorem gi_mem' {o : List Int} {k : Nat} (h : k < o.length) : gi o k ∈ o := by simp [gi,h]
theorem at_from {t : Tr} {o : List Int} (ho : ∀ x ∈ o,t.view x = true) : ∀ k,k ≤ o.length → (t.at_ o k).1 = -1 ∨ ∃ m : Nat,(t.at_ o k).1 = m ∧ m < t.frm.length
  | 0,_ => .inl rfl
  | k + 1,h => by
    rw [at_succ t (by omega)]
    exact .inr (view_nat (ho _ (gi_mem' (by omega))))
theorem begin_low {t : Tr} (hF : t.Fit) {f : Int} (hf : f = -1 ∨ ∃ m : Nat,f = m ∧ m < t.frm.length) {v : Nat} (hv : v < t.frm.length) {x y : Int} {B : Int} (h : 0 ≤ x ∧ x ≤ B ∧ 0 ≤ y ∧ y ≤ B) (hB : 0 ≤ B) :
    0 ≤ (t.begin f v (x,y)).1 ∧ (t.begin f v (x,y)).1 ≤ B + 1440 ∧ 0 ≤ (t.begin f v (x,y)).2 ∧ (t.begin f v (x,y)).2 ≤ B + 1440 := by
  have hl := (ok_iff _).1 (hF.okl v hv)
  have hw : (t.way f v).ok = true := by
    rcases hf with rfl | ⟨m,rfl,hm⟩
    · simpa [Tr.way] using hF.okf v hv
    · have e : ¬ (m : Int) = -1 := by omega
      simpa [Tr.way,e] using hF.okw m v hm hv
  have hw := (ok_iff _).1 hw
  simp only [Tr.begin,Int.toNat_natCast]
  omega
theorem after_low {t : Tr} (hF : t.Fit) {v : Nat} (hv : v < t.frm.length) {p : Int × Int} {B : Int} (h : 0 ≤ p.1 ∧ p.1 ≤ B ∧ 0 ≤ p.2 ∧ p.2 ≤ B) :
    0 ≤ (t.after v p).1 ∧ (t.after v p).1 ≤ B + 1440 ∧ 0 ≤ (t.after v p).2 ∧ (t.after v p).2 ≤ B + 1440 := by
  have hl := (ok_iff _).1 (hF.oks v hv)
  simp only [Tr.after,Int.toNat_natCast]
  omega
theorem at_low {t : Tr} (hF : t.Fit) {o : List Int} (ho : ∀ x ∈ o,t.view x = true) : ∀ k,k ≤ o.length → 0 ≤ (t.at_ o k).2.1 ∧ (t.at_ o k).2.1 ≤ 1440 + 2880 * (k : Int) ∧ 0 ≤ (t.at_ o k).2.2 ∧ (t.at_ o k).2.2 ≤ 1440 + 2880 * (k : Int)
  | 0,_ => by have := hF.dawn; simp only [at_zero]; omega
  | k + 1,h => by
    have ih := at_low hF ho k (by omega)
    have hf := at_from ho k (by omega)
    obtain ⟨m,hm,hmn⟩ := view_nat (ho _ (gi_mem' (show k < o.length by omega)))
    rw [at_succ t (by omega),hm]
    revert ih hf
    generalize t.at_ o k = q
    obtain ⟨f,x,y⟩ := q
    intro ih hf
    have hb := begin_low hF hf hmn (x := x) (y := y) ih (by omega)
    have ha := after_low hF hmn hb
    dsimp only at hb ha ih
    simp only [Tr.go]
    omega
theorem begin82 {t : Tr} {A : TrA} {tb : Nat} {w : World} (hP : TourP w tb t A) (hF : t.Fit) {f : Int} (hf : f = -1 ∨ ∃ m : Nat,f = m ∧ m < t.frm.length) {v : Nat} (hv : v < t.frm.length) {x y : Int} (hL : Low (x,y)) :
    Calls Try.prog 82 #[.pointer (some ⟨tb,0,none⟩),.int .i64 f,.int .i64 v,.agg #[.int .i64 x,.int .i64 y]] w fun e w' => e = .returned (mv (t.begin f v (x,y))) ∧ Below w.heap.size w w' := by
  rcases hf with rfl | ⟨m,rfl,hm⟩
  · exact begin82_first hP hF hv hL
  · exact begin82_next hP hF hv hm hL

set_option maxRecDepth 100000 in
set_option maxHeartbeats 1000000 in
theorem walk55 {t : Tr} {A : TrA} {tb : Nat} {w : World} (hP : TourP w tb t A) {a : Option Addr} {len cap : Nat} :
    Calls Try.prog 55 #[.pointer (some ⟨tb,0,none⟩),.slice a len cap] w fun e w' =>
      e = .returned (.tuple #[.func (.func 81) #[] #[.pointer (some ⟨w.heap.size,0,none⟩),.pointer (some ⟨w.heap.size + 2,0,none⟩),.pointer (some ⟨w.heap.size + 1,0,none⟩)],.func (.func 84) #[] #[.pointer (some ⟨w.heap.size + 2,0,none⟩)]]) ∧
      Below w.heap.size w w' ∧ w'.heap[w.heap.size]? = some (.cells #[.pointer (some ⟨tb,0,none⟩)] 69 (0,0)) ∧ w'.heap[w.heap.size + 1]? = some (.cells #[.slice a len cap] 26 (0,0)) ∧
      w'.heap[w.heap.size + 2]? = some (.cells #[.int .i64 t.dawn,.int .i64 t.dawn] 82 (0,0)) ∧ w'.heap.size = w.heap.size + 3 := by
  have hmf : ∀ (fn : Fn) (first cap : Array Value) (w : World),(Instr.makeFunc fn first cap).run Try.prog w = .ok (.func fn first cap) w := fun _ _ _ _ => rfl
  obtain ⟨q0,q1,hz,hb⟩ := heap2 w (.cells #[.pointer (some ⟨tb,0,none⟩)] 69) (.cells #[.slice a len cap] 26)
  have c0 := hP.cells.1
  have HW := Lib.hid (And.intro hb (And.intro q0 (And.intro q1 (And.intro hz c0))))
  clear q0 q1 hz hb c0 hP
  go_enter Try.func55,Try.ntmps55
  go_upto_region 1 with fail
  revert HW
  generalize (w.alloc (.cells #[.pointer (some ⟨tb,0,none⟩)] 69)).alloc (.cells #[.slice a len cap] 26) = w1
  intro HW
  obtain ⟨hb,q0,q1,hz,c0⟩ := HW.out
  clear HW
  have c0 := cell_stays hb c0
  have l0 : w1.cell? ⟨w.heap.size,0,none⟩ = some (.pointer (some ⟨tb,0,none⟩)) := by rw [cell_of_heap q0]; rfl
  refine wpIn_wide.1 (wk1 (dw := t.dawn) (tb := tb) (bx := w.heap.size) (S0 := fun v => Below w1.heap.size w1 v ∧ v.heap.size = w1.heap.size)
    (S1 := fun nb v => nb = w.heap.size + 2 ∧ Below w1.heap.size w1 v ∧ v.heap.size = w1.heap.size + 1 ∧ v.heap[nb]? = some (.cells #[.int .i64 0,.int .i64 0] 82 (0,0)))
    (S2 := fun nb v => nb = w.heap.size + 2 ∧ Below w1.heap.size w1 v ∧ v.heap.size = w1.heap.size + 1 ∧ v.heap[nb]? = some (.cells #[.int .i64 t.dawn,.int .i64 t.dawn] 82 (0,0))) ?h0 ?l0 ?l4 ?l5 ?l9 ?c11 ?c12 ?hQ)
  case h0 => exact ⟨(Below.refl _ w1).drew,by simp⟩
  case l0 => exact fun nb v h => cell_stays (h.elim (·.1) (·.2.1)) l0
  case l4 => exact fun nb v h => cell_stays (h.elim (·.1) (·.2.1)) c0
  case l5 => exact fun nb v h => cell_stays (h.elim (·.1) (·.2.1)) l0
  case l9 => exact fun nb v h => cell_stays (h.elim (·.1) (·.2.1)) c0
  case c11 => exact fun v h => ⟨by omega,h.1.alloc (by omega) _,by simp; omega,World.alloc_heap_new v _⟩
  case c12 =>
    rintro nb v ⟨rfl,h1,h2,h3⟩
    refine ⟨⟨_,by rw [cell_of_heap h3]; rfl⟩,frozen_of_heap h3,⟨_,by rw [cell_of_heap h3]; rfl⟩,frozen_of_heap h3,rfl,(h1.setCell (by simp; omega) _).setCell (by simp; omega) _,by simpa using h2,heap_setCell_at (k := 1) (heap_setCell_at (k := 0) h3 _) _⟩
  case hQ =>
    rintro nb v ⟨rfl,h1,h2,h3⟩
    have HE := Lib.hid (And.intro (hb.trans (h1.mono hb.size)) (And.intro ((h1.block _ (heap_lt q0)).trans q0) (And.intro ((h1.block _ (heap_lt q1)).trans q1) (And.intro h3 h2))))
    clear h1 h2 h3 l0 c0 q0 q1
    go_wp2_with fail
    refine bodyPost_ret (results_tmp2 rfl _ _ _) rfl ?_
    exact ⟨rfl,HE.out.1,HE.out.2.1,HE.out.2.2.1,HE.out.2.2.2.1,by have := HE.out.2.2.2.2; omega⟩
end Go.Proofs.Ytphefhpmbahagaa
