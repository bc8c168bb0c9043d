/- WalkTurned: the tour whose views are numbered otherwise. -/
import Derived.Test.YtphefhpmbahagaaT86
namespace Go.Proofs.Ytphefhpmbahagaa
open Go.RowKit
set_option linter.unusedVariables false
set_option linter.unusedSimpArgs false

/-- The number of a view,and the view of a number. -/
def sgm (n c v : Nat) : Nat := (v + c) % n
def tau (n c v : Nat) : Nat := (v + (n - c % n)) % n
theorem sgm_lt {n c v : Nat} (h : v < n) : sgm n c v < n := Nat.mod_lt _ (by omega)
theorem tau_lt {n c v : Nat} (h : v < n) : tau n c v < n := Nat.mod_lt _ (by omega)
theorem tau_sgm {n c v : Nat} (h : v < n) : tau n c (sgm n c v) = v := by
  unfold tau sgm
  have h1 : c % n < n := Nat.mod_lt _ (by omega)
  rw [Nat.mod_add_mod]
  have h2 : v + c + (n - c % n) = v + n * (c / n + 1) := by
    have := Nat.div_add_mod c n
    rw [Nat.mul_add,Nat.mul_one]
    omega
  rw [h2,Nat.add_mul_mod_self_left]
  exact Nat.mod_eq_of_lt h
theorem sgm_tau {n c v : Nat} (h : v < n) : sgm n c (tau n c v) = v := by
  unfold tau sgm
  have h1 : c % n < n := Nat.mod_lt _ (by omega)
  rw [Nat.mod_add_mod]
  have h2 : v + (n - c % n) + c = v + n * (c / n + 1) := by
    have := Nat.div_add_mod c n
    rw [Nat.mul_add,Nat.mul_one]
    omega
  rw [h2,Nat.add_mul_mod_self_left]
  exact Nat.mod_eq_of_lt h
def turnL (n c : Nat) (l : List Spn) : List Spn := (List.range n).map fun v => gs l (tau n c v)
def Tr.turned (t : Tr) (c : Nat) : Tr := { dawn := t.dawn,frm := turnL t.frm.length c t.frm,ways := (List.range t.frm.length).map fun u => turnL t.frm.length c (gw t.ways (tau t.frm.length c u)),stay := turnL t.frm.length c t.stay,light := turnL t.frm.length c t.light }
theorem turnL_len (n c : Nat) (l : List Spn) : (turnL n c l).length = n := by simp [turnL]
theorem turnL_at {n c v : Nat} (l : List Spn) (h : v < n) : gs (turnL n c l) v = gs l (tau n c v) := by simp [turnL,gs,h]
theorem turned_row {t : Tr} {c u : Nat} (h : u < t.frm.length) : gw (t.turned c).ways u = turnL t.frm.length c (gw t.ways (tau t.frm.length c u)) := by simp [Tr.turned,gw,h]
theorem turned_fit {t : Tr} (F : t.Fit) (c : Nat) : (t.turned c).Fit := by
  have e : (t.turned c).frm.length = t.frm.length := turnL_len _ _ _
  refine ⟨by rw [e]; exact F.n,F.dawn,by rw [e]; simp [Tr.turned],by rw [e]; exact turnL_len _ _ _,by rw [e]; exact turnL_len _ _ _,?_,?_,?_,?_,?_⟩
  · rw [e]; intro k hk; rw [turned_row hk]; exact turnL_len _ _ _
  · rw [e]; intro k hk; show (gs (turnL _ _ _) k).ok = true; rw [turnL_at _ hk]; exact F.okf _ (tau_lt hk)
  · rw [e]; intro k hk; show (gs (turnL _ _ _) k).ok = true; rw [turnL_at _ hk]; exact F.oks _ (tau_lt hk)
  · rw [e]; intro k hk; show (gs (turnL _ _ _) k).ok = true; rw [turnL_at _ hk]; exact F.okl _ (tau_lt hk)
  · rw [e]; intro k j hk hj; rw [turned_row hk,turnL_at _ hj]; exact F.okw _ _ (tau_lt hk) (tau_lt hj)
theorem turn_made {t : Tr} (c : Nat) : Turn t.frm.length (sgm t.frm.length c) (tau t.frm.length c) t (t.turned c) := by
  refine ⟨rfl,turnL_len _ _ _,rfl,fun v h => sgm_lt h,fun v h => tau_lt h,fun v h => tau_sgm h,fun v h => sgm_tau h,fun v h => ?_,fun v h => ?_,fun v h => ?_,fun u v hu hv => ?_⟩
  · show gs (turnL _ _ _) _ = _; rw [turnL_at _ (sgm_lt h),tau_sgm h]
  · show gs (turnL _ _ _) _ = _; rw [turnL_at _ (sgm_lt h),tau_sgm h]
  · show gs (turnL _ _ _) _ = _; rw [turnL_at _ (sgm_lt h),tau_sgm h]
  · rw [turned_row (sgm_lt hu),turnL_at _ (sgm_lt hv),tau_sgm hu,tau_sgm hv]
/-- A row of n spans in which those of the views below k stand at their numbers. -/
structure PutRow (g n c k : Nat) (l : List Spn) (v : World) : Prop where
  row : ∃ cur : Array Value,v.heap[g]? = some (.cells cur 33 (0,0)) ∧ cur.size = n * 2 ∧ ∀ u,u < k → cur[sgm n c u * 2]? = some (.int .i64 (gs l u).lo) ∧ cur[sgm n c u * 2 + 1]? = some (.int .i64 (gs l u).hi)
theorem PutRow.mono {g n c k : Nat} {l : List Spn} {v v' : World} (h : PutRow g n c k l v) (hb : Below v.heap.size v v') : PutRow g n c k l v' := by
  obtain ⟨cur,h1,h2⟩ := h.row
  exact ⟨cur,(hb.block _ (heap_lt h1)).trans h1,h2⟩
theorem PutRow.other {g n c k : Nat} {l : List Spn} {v : World} (h : PutRow g n c k l v) {b : Nat} (hne : b ≠ g) (i : Nat) (x : Value) : PutRow g n c k l (v.setCell ⟨b,i,none⟩ x) := by
  obtain ⟨cur,h1,h2⟩ := h.row
  exact ⟨cur,(Below.heap_setCell _ _ _ _ (Ne.symm hne)).trans h1,h2⟩
theorem PutRow.made {g n c : Nat} {l : List Spn} {v : World} (h : v.heap[g]? = some (.cells (madeCells #[.int .i64 0,.int .i64 0] (n * 2)) 33 (0,0))) : PutRow g n c 0 l v :=
  ⟨_,h,by simp [madeCells],fun u hu => by omega⟩
theorem PutRow.put {g n c k : Nat} {l : List Spn} {v : World} (h : PutRow g n c k l v) (hk : k < n) : (∃ u,v.cell? ⟨g,sgm n c k * 2,none⟩ = some u) ∧ v.frozen? ⟨g,sgm n c k * 2,none⟩ = false ∧ (∃ u,v.cell? ⟨g,sgm n c k * 2 + 1,none⟩ = some u) ∧ v.frozen? ⟨g,sgm n c k * 2 + 1,none⟩ = false ∧
    PutRow g n c (k + 1) l ((v.setCell ⟨g,sgm n c k * 2,none⟩ (.int .i64 (gs l k).lo)).setCell ⟨g,sgm n c k * 2 + 1,none⟩ (.int .i64 (gs l k).hi)) := by
  obtain ⟨cur,h1,h2,h3⟩ := h.row
  have hs := sgm_lt (c := c) hk
  refine ⟨⟨_,by rw [cell_of_heap h1]; exact Array.getElem?_eq_getElem (by omega)⟩,frozen_of_heap h1,⟨_,by rw [cell_of_heap h1]; exact Array.getElem?_eq_getElem (by omega)⟩,frozen_of_heap h1,_,heap_setCell_at (heap_setCell_at h1 _) _,by simp [h2],fun u hu => ?_⟩
  by_cases e : u = k
  · subst e
    refine ⟨?_,?_⟩
    · rw [Array.getElem?_setIfInBounds,if_neg (by omega),Array.getElem?_setIfInBounds,if_pos rfl,if_pos (by omega)]
    · rw [Array.getElem?_setIfInBounds,if_pos rfl,if_pos (by simp; omega)]
  · have hne : sgm n c u ≠ sgm n c k := fun e2 => e (by rw [← tau_sgm (c := c) (show u < n by omega),← tau_sgm (c := c) hk,e2])
    have h4 := h3 u (by omega)
    refine ⟨?_,?_⟩
    · rw [Array.getElem?_setIfInBounds,if_neg (by omega),Array.getElem?_setIfInBounds,if_neg (by omega)]; exact h4.1
    · rw [Array.getElem?_setIfInBounds,if_neg (by omega),Array.getElem?_setIfInBounds,if_neg (by omega)]; exact h4.2
theorem PutRow.full {g n c : Nat} {l : List Spn} {v : World} (h : PutRow g n c n l v) : SpRow g (turnL n c l) v := by
  obtain ⟨cur,h1,h2,h3⟩ := h.row
  refine ⟨cur,h1,fun i hi => ?_⟩
  rw [turnL_len] at hi
  have := h3 (tau n c i) (tau_lt hi)
  rw [sgm_tau hi] at this
  rw [turnL_at _ hi]
  exact this
end Go.Proofs.Ytphefhpmbahagaa
