/- WalkTurned: the rows of ways that are put at numbers. -/
import Derived.Test.YtphefhpmbahagaaT90
namespace Go.Proofs.Ytphefhpmbahagaa
open Go.RowKit
set_option linter.unusedVariables false
set_option linter.unusedSimpArgs false

/-- The rows of the views below k stand at their numbers,each in a block from B on. -/
structure PutWays (B g n c k : Nat) (l : List (List Spn)) (v : World) : Prop where
  row : ∃ cur : Array Value,v.heap[g]? = some (.cells cur 22 (0,0)) ∧ cur.size = n ∧ ∀ u,u < k → ∃ h : Nat,cur[sgm n c u]? = some (.slice (some ⟨h,0,none⟩) n n) ∧ B ≤ h ∧ PutRow h n c n (gw l u) v
/-- The same,and of the row of view k,in block h,the views below j. -/
structure PutK (B g n c k j h : Nat) (l : List (List Spn)) (v : World) : Prop where
  row : ∃ cur : Array Value,v.heap[g]? = some (.cells cur 22 (0,0)) ∧ cur.size = n ∧ cur[sgm n c k]? = some (.slice (some ⟨h,0,none⟩) n n) ∧ (∀ u,u < k → ∃ z : Nat,cur[sgm n c u]? = some (.slice (some ⟨z,0,none⟩) n n) ∧ B ≤ z ∧ z ≠ h ∧ PutRow z n c n (gw l u) v)
  own : PutRow h n c j (gw l k) v
  from_ : B ≤ h
theorem PutWays.mono {B g n c k : Nat} {l : List (List Spn)} {v v' : World} (h : PutWays B g n c k l v) (hb : Below v.heap.size v v') : PutWays B g n c k l v' := by
  obtain ⟨cur,h1,h2,h3⟩ := h.row
  exact ⟨cur,(hb.block _ (heap_lt h1)).trans h1,h2,fun u hu => by obtain ⟨z,z1,z2,z3⟩ := h3 u hu; exact ⟨z,z1,z2,z3.mono hb⟩⟩
theorem PutK.mono {B g n c k j h : Nat} {l : List (List Spn)} {v v' : World} (H : PutK B g n c k j h l v) (hb : Below v.heap.size v v') : PutK B g n c k j h l v' := by
  obtain ⟨cur,h1,h2,h3,h4⟩ := H.row
  exact ⟨⟨cur,(hb.block _ (heap_lt h1)).trans h1,h2,h3,fun u hu => by obtain ⟨z,z1,z2,z3,z4⟩ := h4 u hu; exact ⟨z,z1,z2,z3,z4.mono hb⟩⟩,H.own.mono hb,H.from_⟩
theorem PutWays.other {B g n c k : Nat} {l : List (List Spn)} {v : World} (h : PutWays B g n c k l v) {b : Nat} (hb : b < B) (hne : b ≠ g) (i : Nat) (x : Value) : PutWays B g n c k l (v.setCell ⟨b,i,none⟩ x) := by
  obtain ⟨cur,h1,h2,h3⟩ := h.row
  exact ⟨cur,(Below.heap_setCell _ _ _ _ (Ne.symm hne)).trans h1,h2,fun u hu => by obtain ⟨z,z1,z2,z3⟩ := h3 u hu; exact ⟨z,z1,z2,z3.other (by omega) _ _⟩⟩
theorem PutWays.made {B g n c : Nat} {l : List (List Spn)} {v : World} (h : v.heap[g]? = some (.cells (madeCells #[.slice none 0 0] n) 22 (0,0))) : PutWays B g n c 0 l v :=
  ⟨_,h,by simp [madeCells],fun u hu => by omega⟩
/-- A new row is put at a view's number. -/
theorem PutWays.put {B g n c k h : Nat} {l : List (List Spn)} {v v0 : World} (H : PutWays B g n c k l v0) (hv : Below v0.heap.size v0 v) (hk : k < n) (hh : v0.heap.size ≤ h) (hB : B ≤ v0.heap.size) (hr : PutRow h n c 0 (gw l k) v) :
    (∃ u,v.cell? ⟨g,sgm n c k,none⟩ = some u) ∧ v.frozen? ⟨g,sgm n c k,none⟩ = false ∧ PutK B g n c k 0 h l (v.setCell ⟨g,sgm n c k,none⟩ (.slice (some ⟨h,0,none⟩) n n)) := by
  obtain ⟨cur0,g1,_,_⟩ := H.row
  have hgl := heap_lt g1
  obtain ⟨cur,h1,h2,h3⟩ := (H.mono hv).row
  have hs := sgm_lt (c := c) hk
  obtain ⟨cur',q1,_,q3⟩ := H.row
  have hcc : cur = cur' := by
    have e := (hv.block _ hgl).trans q1
    rw [h1] at e
    simpa using e
  refine ⟨⟨_,by rw [cell_of_heap h1]; exact Array.getElem?_eq_getElem (by omega)⟩,frozen_of_heap h1,⟨_,heap_setCell_at h1 _,by simp [h2],by rw [Array.getElem?_setIfInBounds,if_pos rfl,if_pos (by omega)],fun u hu => ?_⟩,hr.other (by omega) _ _,by omega⟩
  obtain ⟨z,z1,z2,z3⟩ := q3 u hu
  obtain ⟨cz,zz,_⟩ := z3.row
  have hzl := heap_lt zz
  have hzg : g ≠ z := fun e => by rw [← e,g1] at zz; simp at zz
  have hne : sgm n c u ≠ sgm n c k := fun e2 => by
    have : u = k := by rw [← tau_sgm (c := c) (show u < n by omega),← tau_sgm (c := c) hk,e2]
    omega
  exact ⟨z,by rw [Array.getElem?_setIfInBounds,if_neg (by omega),hcc]; exact z1,z2,by omega,(z3.mono hv).other hzg _ _⟩
/-- One span more in the row under way. -/
theorem PutK.put {B g n c k j h : Nat} {l : List (List Spn)} {v : World} (H : PutK B g n c k j h l v) (hj : j < n) : (∃ u,v.cell? ⟨h,sgm n c j * 2,none⟩ = some u) ∧ v.frozen? ⟨h,sgm n c j * 2,none⟩ = false ∧ (∃ u,v.cell? ⟨h,sgm n c j * 2 + 1,none⟩ = some u) ∧ v.frozen? ⟨h,sgm n c j * 2 + 1,none⟩ = false ∧
    PutK B g n c k (j + 1) h l ((v.setCell ⟨h,sgm n c j * 2,none⟩ (.int .i64 (gs (gw l k) j).lo)).setCell ⟨h,sgm n c j * 2 + 1,none⟩ (.int .i64 (gs (gw l k) j).hi)) := by
  obtain ⟨a1,a2,a3,a4,a5⟩ := H.own.put hj
  obtain ⟨cur,h1,h2,h3,h4⟩ := H.row
  obtain ⟨co,o1,_⟩ := H.own.row
  have hgh : g ≠ h := fun e => by rw [← e,h1] at o1; simp at o1
  refine ⟨a1,a2,a3,a4,⟨cur,?_,h2,h3,fun u hu => ?_⟩,a5,H.from_⟩
  · exact (Below.heap_setCell _ _ _ _ hgh).trans ((Below.heap_setCell _ _ _ _ hgh).trans h1)
  · obtain ⟨z,z1,z2,z3,z4⟩ := h4 u hu
    exact ⟨z,z1,z2,z3,(z4.other (Ne.symm z3) _ _).other (Ne.symm z3) _ _⟩
theorem PutK.full {B g n c k h : Nat} {l : List (List Spn)} {v : World} (H : PutK B g n c k n h l v) : PutWays B g n c (k + 1) l v := by
  obtain ⟨cur,h1,h2,h3,h4⟩ := H.row
  refine ⟨cur,h1,h2,fun u hu => ?_⟩
  by_cases e : u = k
  · subst e; exact ⟨h,h3,H.from_,H.own⟩
  · obtain ⟨z,z1,z2,_,z4⟩ := h4 u (by omega)
    exact ⟨z,z1,z2,z4⟩
theorem PutWays.full {B g c : Nat} {t : Tr} {v : World} (H : PutWays B g t.frm.length c t.frm.length t.ways v) : IsWays v (some ⟨g,0,none⟩) (t.turned c).ways := fun i hi => by
  have hi : i < t.frm.length := by simpa [Tr.turned] using hi
  obtain ⟨cur,h1,h2,h3⟩ := H.row
  obtain ⟨z,z1,_,z3⟩ := h3 (tau t.frm.length c i) (tau_lt hi)
  rw [sgm_tau hi] at z1
  rw [turned_row hi]
  refine ⟨g,0,rfl,some ⟨z,0,none⟩,t.frm.length,by rw [cell_of_heap h1,Nat.zero_add,turnL_len]; exact z1,z3.full.spns⟩
end Go.Proofs.Ytphefhpmbahagaa
