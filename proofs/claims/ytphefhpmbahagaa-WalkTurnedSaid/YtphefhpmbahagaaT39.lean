/- Plans: the better one. -/
import Derived.Test.YtphefhpmbahagaaT38
namespace Go.Proofs.Ytphefhpmbahagaa
open Go.RowKit
set_option linter.unusedVariables false
set_option linter.unusedSimpArgs false

set_option maxRecDepth 100000 in
set_option maxHeartbeats 4000000 in
theorem better93 {x y : PV} (hx : x.o.length ≤ 1000) (hy : y.o.length ≤ 1000) {w : World} (ix : IsInts w x.a x.o) (iy : IsInts w y.a y.o) :
    Calls Try.prog 93 #[x.v,y.v] w fun e w' => e = .returned (.int .i64 (betE x.p y.p)) ∧ Below w.heap.size w w' := by
  obtain ⟨q0,q1,hz,hb⟩ := heap2 w (.cells x.arr 98) (.cells y.arr 98)
  have HI := Lib.hid (And.intro ix iy)
  clear ix iy
  go_enter Try.func93,Try.ntmps93
  go_upto_region 1 with fail
  revert q0 q1 hz hb
  generalize (w.alloc (.cells x.arr 98)).alloc (.cells y.arr 98) = w1
  intro q0 q1 hz hb
  have hb2 : Below w1.heap.size w1 (w1.alloc (.cells #[.func (.func 107) #[] #[],.func (.func 108) #[] #[]] 135)) := (Below.refl _ _).alloc (Nat.le_refl _) _
  have q2 := World.alloc_heap_new w1 (.cells #[.func (.func 107) #[] #[],.func (.func 108) #[] #[]] 135)
  go_wp2_with fail
  refine (rules101 w1).mono ?_
  rintro e w2 ⟨rfl,rfl⟩
  rw [hz] at q2 ⊢
  revert hb2 q2
  generalize w1.alloc (.cells #[.func (.func 107) #[] #[],.func (.func 108) #[] #[]] 135) = w2
  intro hb2 q2
  have HB := Lib.hid (And.intro (hb.trans (hb2.mono (by omega))) (And.intro hz (And.intro q2 trivial)))
  have HX := Lib.hid (And.intro ((hb2.block _ (heap_lt q0)).trans q0) ((hb2.block _ (heap_lt q1)).trans q1))
  clear q0 q1 hb hb2 q2 hz
  go_wp2_with fail
  go_loopw [10] (fun i wr => ∃ k : Nat,k ≤ 2 ∧ i = .int .i64 k ∧ Hid ((0 < k → cmpI (-(x.o.length : Int)) (-(y.o.length : Int)) = 0) ∧ (1 < k → cmpI x.over y.over = 0)) ∧ Hid (Below w2.heap.size w2 wr)) (fun i _ => 2 - (intOf i).toNat)
  case atStart => exact ⟨0,by omega,rfl,⟨fun h => by omega,fun h => by omega⟩,Below.refl _ _⟩
  case round =>
    obtain ⟨k,hk,rfl,HK,HBR⟩ := hrel
    have HX : Hid (wr.heap[w.heap.size]? = some (.cells x.arr 98 (0,0)) ∧ wr.heap[w.heap.size + 1]? = some (.cells y.arr 98 (0,0))) := ⟨(HBR.out.block _ (heap_lt HX.out.1)).trans HX.out.1,(HBR.out.block _ (heap_lt HX.out.2)).trans HX.out.2⟩
    have hw2 : w.heap.size + 3 ≤ w2.heap.size := heap_lt HB.out.2.2.1
    have hk3 : k = 0 ∨ k = 1 ∨ k = 2 := by omega
    rcases hk3 with rfl | rfl | rfl
    · have q0 : wr.cell? ⟨w.heap.size + 2,0,none⟩ = some (.func (.func 107) #[] #[]) := by rw [cell_of_heap ((HBR.out.block _ (heap_lt HB.out.2.2.1)).trans HB.out.2.2.1)]; rfl
      obtain ⟨c,hc⟩ : ∃ c,c = cmpI (-(x.o.length : Int)) (-(y.o.length : Int)) := ⟨_,rfl⟩
      have HC : Hid (∀ w,Calls Try.prog 102 #[.int .i64 (-(x.o.length : Int)),.int .i64 (-(y.o.length : Int))] w fun e w' => e = .returned (.int .i64 c) ∧ w = w') := fun w => by rw [hc]; exact cmp102 _ _ w
      have HCC := Lib.hid hc
      have hbs : w.heap.size + 3 ≤ wr.heap.size := by have := HBR.out.size; have := heap_lt HB.out.2.2.1; omega
      have b0 : w.heap.size < wr.heap.size := by omega
      have b1 : w.heap.size + 1 < wr.heap.size := by omega
      have b2 : w.heap.size + 2 < wr.heap.size := by omega
      clear hc
      go_upto_region 4 with fail
      have hba : Below wr.heap.size wr (wr.alloc (.cells #[.func (.func 107) #[] #[]] 135)) := (Below.refl _ wr).alloc (Nat.le_refl _) _
      have qa := World.alloc_heap_new wr (.cells #[.func (.func 107) #[] #[]] 135)
      revert hba qa
      generalize wr.alloc (.cells #[.func (.func 107) #[] #[]] 135) = X
      intro hba qa
      have hx0 := (hba.block _ (heap_lt HX.out.1)).trans HX.out.1
      have hx1 := (hba.block _ (heap_lt HX.out.2)).trans HX.out.2
      have z0 : ∀ u : Aft X.heap.size X,u.v.cell? ⟨wr.heap.size,0,none⟩ = some (.func (.func 107) #[] #[]) := fun u => by rw [cell_of_heap ((u.h.block _ (heap_lt qa)).trans qa)]; rfl
      have z1 : ∀ u : Aft X.heap.size X,u.v.cell? ⟨w.heap.size,0,none⟩ = some (.slice x.a x.o.length x.c) := fun u => by rw [cell_of_heap ((u.h.block _ (heap_lt hx0)).trans hx0)]; rfl
      have z2 : ∀ u : Aft X.heap.size X,u.v.cell? ⟨w.heap.size,1,none⟩ = some (.int .i64 x.over) := fun u => by rw [cell_of_heap ((u.h.block _ (heap_lt hx0)).trans hx0)]; rfl
      have z3 : ∀ u : Aft X.heap.size X,u.v.cell? ⟨w.heap.size + 1,0,none⟩ = some (.slice y.a y.o.length y.c) := fun u => by rw [cell_of_heap ((u.h.block _ (heap_lt hx1)).trans hx1)]; rfl
      have z4 : ∀ u : Aft X.heap.size X,u.v.cell? ⟨w.heap.size + 1,1,none⟩ = some (.int .i64 y.over) := fun u => by rw [cell_of_heap ((u.h.block _ (heap_lt hx1)).trans hx1)]; rfl
      have e1 : Hid (∀ u : Aft X.heap.size X,Calls Try.prog 107 #[x.v] u.v fun e w' => e = .returned (.int .i64 (-(x.o.length : Int))) ∧ Below u.v.heap.size u.v w') := fun u => rule107 x hx u.v
      have e2 : Hid (∀ u : Aft X.heap.size X,Calls Try.prog 107 #[y.v] u.v fun e w' => e = .returned (.int .i64 (-(y.o.length : Int))) ∧ Below u.v.heap.size u.v w') := fun u => rule107 y hy u.v
      have HBX := Lib.hid (HBR.out.trans (hba.mono HBR.out.size))
      clear hba qa hx0 hx1 q0
      refine wp_region_aft mixed (by kernel_rfl) ?_
      repeat (go_big_quiet_step (first | (go_at_call 107; exact calls_aft (e1.out _)) | (go_at_call 107; exact calls_aft (e2.out _)) | (go_at_call 102; exact calls_aft_same (HC.out _))))
      refine wpQuiet_nil ?_
      rintro _ ⟨z,rfl⟩
      have HZ := Lib.hid (HBX.out.trans (z.h.mono HBX.out.size))
      clear z0 z1 z2 z3 z4 e1 e2 HC
      by_cases h0 : c = 0
      · have hcb : (c != 0) = false := by simpa using h0
        have H0 := Lib.hid h0
        clear h0
        go_wp2_with fail
        go_roundw
        case rel => exact ⟨1,by omega,by go_num,⟨fun _ => by rw [← HCC.out]; exact H0.out,fun _ => by omega⟩,HZ.out⟩
        case measure => simp [intOf]
      · have hcb : (c != 0) = true := by simpa using h0
        have H0 := Lib.hid h0
        clear h0
        go_wp2_with fail
        go_ret
        refine ⟨ret_int ?_,HB.out.1.trans (HZ.out.mono (by omega))⟩
        have h0 := H0.out
        have hcc := HCC.out
        rw [hcc] at h0 ⊢
        unfold betE
        rw [if_neg h0]
    · have q0 : wr.cell? ⟨w.heap.size + 2,1,none⟩ = some (.func (.func 108) #[] #[]) := by rw [cell_of_heap ((HBR.out.block _ (heap_lt HB.out.2.2.1)).trans HB.out.2.2.1)]; rfl
      obtain ⟨c,hc⟩ : ∃ c,c = cmpI x.over y.over := ⟨_,rfl⟩
      have HC : Hid (∀ w,Calls Try.prog 102 #[.int .i64 x.over,.int .i64 y.over] w fun e w' => e = .returned (.int .i64 c) ∧ w = w') := fun w => by rw [hc]; exact cmp102 _ _ w
      have HCC := Lib.hid hc
      have hbs : w.heap.size + 3 ≤ wr.heap.size := by have := HBR.out.size; have := heap_lt HB.out.2.2.1; omega
      have b0 : w.heap.size < wr.heap.size := by omega
      have b1 : w.heap.size + 1 < wr.heap.size := by omega
      have b2 : w.heap.size + 2 < wr.heap.size := by omega
      clear hc
      go_upto_region 4 with fail
      have hba : Below wr.heap.size wr (wr.alloc (.cells #[.func (.func 108) #[] #[]] 135)) := (Below.refl _ wr).alloc (Nat.le_refl _) _
      have qa := World.alloc_heap_new wr (.cells #[.func (.func 108) #[] #[]] 135)
      revert hba qa
      generalize wr.alloc (.cells #[.func (.func 108) #[] #[]] 135) = X
      intro hba qa
      have hx0 := (hba.block _ (heap_lt HX.out.1)).trans HX.out.1
      have hx1 := (hba.block _ (heap_lt HX.out.2)).trans HX.out.2
      have z0 : ∀ u : Aft X.heap.size X,u.v.cell? ⟨wr.heap.size,0,none⟩ = some (.func (.func 108) #[] #[]) := fun u => by rw [cell_of_heap ((u.h.block _ (heap_lt qa)).trans qa)]; rfl
      have z1 : ∀ u : Aft X.heap.size X,u.v.cell? ⟨w.heap.size,0,none⟩ = some (.slice x.a x.o.length x.c) := fun u => by rw [cell_of_heap ((u.h.block _ (heap_lt hx0)).trans hx0)]; rfl
      have z2 : ∀ u : Aft X.heap.size X,u.v.cell? ⟨w.heap.size,1,none⟩ = some (.int .i64 x.over) := fun u => by rw [cell_of_heap ((u.h.block _ (heap_lt hx0)).trans hx0)]; rfl
      have z3 : ∀ u : Aft X.heap.size X,u.v.cell? ⟨w.heap.size + 1,0,none⟩ = some (.slice y.a y.o.length y.c) := fun u => by rw [cell_of_heap ((u.h.block _ (heap_lt hx1)).trans hx1)]; rfl
      have z4 : ∀ u : Aft X.heap.size X,u.v.cell? ⟨w.heap.size + 1,1,none⟩ = some (.int .i64 y.over) := fun u => by rw [cell_of_heap ((u.h.block _ (heap_lt hx1)).trans hx1)]; rfl
      have e1 : Hid (∀ u : Aft X.heap.size X,Calls Try.prog 108 #[x.v] u.v fun e w' => e = .returned (.int .i64 x.over) ∧ Below u.v.heap.size u.v w') := fun u => rule108 x u.v
      have e2 : Hid (∀ u : Aft X.heap.size X,Calls Try.prog 108 #[y.v] u.v fun e w' => e = .returned (.int .i64 y.over) ∧ Below u.v.heap.size u.v w') := fun u => rule108 y u.v
      have HBX := Lib.hid (HBR.out.trans (hba.mono HBR.out.size))
      clear hba qa hx0 hx1 q0
      refine wp_region_aft mixed (by kernel_rfl) ?_
      repeat (go_big_quiet_step (first | (go_at_call 108; exact calls_aft (e1.out _)) | (go_at_call 108; exact calls_aft (e2.out _)) | (go_at_call 102; exact calls_aft_same (HC.out _))))
      refine wpQuiet_nil ?_
      rintro _ ⟨z,rfl⟩
      have HZ := Lib.hid (HBX.out.trans (z.h.mono HBX.out.size))
      clear z0 z1 z2 z3 z4 e1 e2 HC
      by_cases h0 : c = 0
      · have hcb : (c != 0) = false := by simpa using h0
        have H0 := Lib.hid h0
        clear h0
        go_wp2_with fail
        go_roundw
        case rel => exact ⟨2,by omega,by go_num,⟨fun _ => HK.out.1 (by omega),fun _ => by rw [← HCC.out]; exact H0.out⟩,HZ.out⟩
        case measure => simp [intOf]
      · have hcb : (c != 0) = true := by simpa using h0
        have H0 := Lib.hid h0
        clear h0
        go_wp2_with fail
        go_ret
        refine ⟨ret_int ?_,HB.out.1.trans (HZ.out.mono (by omega))⟩
        have h0 := H0.out
        have hcc := HCC.out
        rw [hcc] at h0 ⊢
        unfold betE
        rw [if_pos (HK.out.1 (by omega)),if_neg h0]
    · have k0 : wr.cell? ⟨w.heap.size,0,none⟩ = some (.slice x.a x.o.length x.c) := by rw [cell_of_heap HX.out.1]; rfl
      have k1 : wr.cell? ⟨w.heap.size + 1,0,none⟩ = some (.slice y.a y.o.length y.c) := by rw [cell_of_heap HX.out.2]; rfl
      have HBW := Lib.hid (HB.out.1.trans (HBR.out.mono (show w.heap.size ≤ w2.heap.size by omega)))
      have HC := Lib.hid (cmp103 (ca := x.c) (cb := y.c) hx hy (HI.out.1.mono HBW.out) (HI.out.2.mono HBW.out))
      go_wp2_with fail
      refine HC.out.mono ?_
      rintro e w5 ⟨rfl,rfl⟩
      go_wp2_with fail
      go_ret
      refine ⟨ret_int ?_,HBW.out⟩
      unfold betE
      rw [if_pos (HK.out.1 (by omega)),if_pos (HK.out.2 (by omega))]
end Go.Proofs.Ytphefhpmbahagaa
