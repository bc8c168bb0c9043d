/- Plans that are compared. -/
import Derived.Test.YtphefhpmbahagaaT31
namespace Go.Proofs.Ytphefhpmbahagaa
open Go.RowKit
set_option linter.unusedVariables false
set_option linter.unusedSimpArgs false

def cmpI (a b : Int) : Int := if a < b then -1 else if b < a then 1 else 0
def cmpL : List Int → List Int → Int
  | [],[] => 0
  | [],_ :: _ => -1
  | _ :: _,[] => 1
  | x :: r,y :: s => if cmpI x y = 0 then cmpL r s else cmpI x y
/-- A plan: its order,when it is over; where the order lies. -/
structure PV where
  o : List Int
  over : Int
  a : Option Addr
  c : Nat
abbrev PV.arr (p : PV) : Array Value := #[.slice p.a p.o.length p.c,.int .i64 p.over]
abbrev PV.v (p : PV) : Value := .agg p.arr
/-- Which of two plans is better. -/
def betE (x y : List Int × Int) : Int := if cmpI (-(x.1.length : Int)) (-(y.1.length : Int)) = 0 then (if cmpI x.2 y.2 = 0 then cmpL x.1 y.1 else cmpI x.2 y.2) else cmpI (-(x.1.length : Int)) (-(y.1.length : Int))
abbrev PV.p (x : PV) : List Int × Int := (x.o,x.over)
theorem cmpI_cases (a b : Int) : cmpI a b = -1 ∨ cmpI a b = 0 ∨ cmpI a b = 1 := by unfold cmpI; split <;> (try split) <;> simp
theorem cmpL_cases : ∀ (l m : List Int),cmpL l m = -1 ∨ cmpL l m = 0 ∨ cmpL l m = 1
  | [],[] => by simp [cmpL]
  | [],_ :: _ => by simp [cmpL]
  | _ :: _,[] => by simp [cmpL]
  | x :: r,y :: s => by
    unfold cmpL
    split
    · exact cmpL_cases r s
    · exact cmpI_cases x y
set_option maxHeartbeats 1000000 in
theorem nan109 (a : Int) (w : World) : Calls Try.prog 109 #[.int .i64 a] w fun e w' => e = .returned (.bool false) ∧ w = w' := by
  have h : (a != a) = false := by simp
  go_enter Try.func109,Try.ntmps109
  go_wp2
  go_ret
  exact ⟨rfl,rfl⟩
set_option maxHeartbeats 1000000 in
theorem cmp102 (a b : Int) (w : World) : Calls Try.prog 102 #[.int .i64 a,.int .i64 b] w fun e w' => e = .returned (.int .i64 (cmpI a b)) ∧ w = w' := by
  by_cases h1 : a < b
  · have hc : Hid (cmpI a b = -1) := by unfold Hid cmpI; rw [if_pos h1]
    have hd : decide (a < b) = true := by simpa using h1
    clear h1
    go_enter Try.func102,Try.ntmps102
    go_wp2_with fail
    refine (nan109 a w).mono ?_
    rintro e w' ⟨rfl,rfl⟩
    go_wp2_with fail
    refine (nan109 b w).mono ?_
    rintro e w' ⟨rfl,rfl⟩
    go_wp2_with fail
    go_ret
    exact ⟨ret_int hc.out.symm,rfl⟩
  · have hd : decide (a < b) = false := by simpa using h1
    by_cases h2 : b < a
    · have hc : Hid (cmpI a b = 1) := by unfold Hid cmpI; rw [if_neg h1,if_pos h2]
      have hd2 : decide (b < a) = true := by simpa using h2
      clear h1 h2
      go_enter Try.func102,Try.ntmps102
      go_wp2_with fail
      refine (nan109 a w).mono ?_
      rintro e w' ⟨rfl,rfl⟩
      go_wp2_with fail
      refine (nan109 b w).mono ?_
      rintro e w' ⟨rfl,rfl⟩
      go_wp2_with fail
      go_ret
      exact ⟨ret_int hc.out.symm,rfl⟩
    · have hc : Hid (cmpI a b = 0) := by unfold Hid cmpI; rw [if_neg h1,if_neg h2]
      have hd2 : decide (b < a) = false := by simpa using h2
      clear h1 h2
      go_enter Try.func102,Try.ntmps102
      go_wp2_with fail
      refine (nan109 a w).mono ?_
      rintro e w' ⟨rfl,rfl⟩
      go_wp2_with fail
      refine (nan109 b w).mono ?_
      rintro e w' ⟨rfl,rfl⟩
      go_wp2_with fail
      go_ret
      exact ⟨ret_int hc.out.symm,rfl⟩
theorem cmpL_drop {l m : List Int} {k : Nat} (h1 : k < l.length) (h2 : k < m.length) : cmpL (l.drop k) (m.drop k) = if cmpI (gi l k) (gi m k) = 0 then cmpL (l.drop (k + 1)) (m.drop (k + 1)) else cmpI (gi l k) (gi m k) := by
  rw [List.drop_eq_getElem_cons h1,List.drop_eq_getElem_cons h2]
  have e1 : l[k] = gi l k := by simp [gi,h1]
  have e2 : m[k] = gi m k := by simp [gi,h2]
  rw [e1,e2]
  rfl
theorem cmpL_long {l m : List Int} {k : Nat} (h1 : k < l.length) (h2 : m.length ≤ k) : cmpL (l.drop k) (m.drop k) = 1 := by
  rw [List.drop_eq_getElem_cons h1,List.drop_of_length_le h2]
  rfl
theorem cmpL_end {l m : List Int} {k : Nat} (h1 : l.length ≤ k) : cmpL (l.drop k) (m.drop k) = if k < m.length then -1 else 0 := by
  rw [List.drop_of_length_le h1]
  split
  · rename_i h; rw [List.drop_eq_getElem_cons h]; rfl
  · rename_i h; rw [List.drop_of_length_le (by omega)]; rfl
set_option maxHeartbeats 2000000 in
theorem cmp103 {l m : List Int} (hl : l.length ≤ 1000) (hm : m.length ≤ 1000) {a b : Option Addr} {ca cb : Nat} {w : World} (ha : IsInts w a l) (hb : IsInts w b m) :
    Calls Try.prog 103 #[.slice a l.length ca,.slice b m.length cb] w fun e w' => e = .returned (.int .i64 (cmpL l m)) ∧ w = w' := by
  have HD : Hid (∀ k,k < l.length → k < m.length → cmpL (l.drop k) (m.drop k) = if cmpI (gi l k) (gi m k) = 0 then cmpL (l.drop (k + 1)) (m.drop (k + 1)) else cmpI (gi l k) (gi m k)) := fun k h1 h2 => cmpL_drop h1 h2
  have HB := Lib.hid hb
  clear hb
  go_enter Try.func103,Try.ntmps103
  go_wp2_with fail
  go_loop [11] (fun i => ∃ k : Nat,k ≤ l.length ∧ i = .int .i64 k ∧ Hid (k ≤ m.length ∧ cmpL l m = cmpL (l.drop k) (m.drop k))) (fun i => l.length - (intOf i).toNat)
  case atStart => exact ⟨0,by omega,rfl,by omega,rfl⟩
  case round =>
    obtain ⟨k,hk,rfl,HK⟩ := hrel
    have hkm := HK.out.1
    by_cases hlt : k < l.length
    · obtain ⟨b1,o1,rfl,q1⟩ := ha k hlt
      by_cases hltm : k < m.length
      · obtain ⟨b2,o2,rfl,q2⟩ := HB.out k hltm
        have HI := Lib.hid (HD.out k hlt hltm)
        have hge : decide ((m.length : Int) ≤ (k : Int)) = false := by simp; omega
        obtain ⟨c,hc⟩ : ∃ c,c = cmpI (gi l k) (gi m k) := ⟨_,rfl⟩
        rw [← hc] at HI
        have HC : Hid (∀ w,Calls Try.prog 102 #[.int .i64 (gi l k),.int .i64 (gi m k)] w fun e w' => e = .returned (.int .i64 c) ∧ w = w') := fun w => by rw [hc]; exact cmp102 _ _ w
        clear hc
        by_cases h0 : c = 0
        · have hcb : (c != 0) = false := by simpa using h0
          rw [if_pos h0] at HI
          clear h0
          go_wp2_with fail
          refine (HC.out w).mono ?_
          rintro e w' ⟨rfl,rfl⟩
          go_wp2_with fail
          go_round
          case rel => exact ⟨k + 1,by omega,by go_num,by omega,by rw [HK.out.2,HI.out]⟩
          case measure => simp [intOf]; omega
        · have hcb : (c != 0) = true := by simpa using h0
          rw [if_neg h0] at HI
          clear h0
          go_wp2_with fail
          refine (HC.out w).mono ?_
          rintro e w' ⟨rfl,rfl⟩
          go_wp2_with fail
          go_ret
          exact ⟨ret_int (by rw [HK.out.2,HI.out]),rfl⟩
      · have hge : decide ((m.length : Int) ≤ (k : Int)) = true := by simp; omega
        have HI := Lib.hid (cmpL_long (m := m) hlt (by omega))
        go_wp2_with fail
        go_ret
        exact ⟨ret_int (by rw [HK.out.2,HI.out]),rfl⟩
    · obtain rfl : k = l.length := by omega
      have HI := Lib.hid (cmpL_end (l := l) (m := m) (Nat.le_refl _))
      by_cases h : l.length < m.length
      · rw [if_pos h] at HI
        go_wp2_with fail
        go_ret
        exact ⟨ret_int (by rw [HK.out.2,HI.out]),rfl⟩
      · rw [if_neg h] at HI
        go_wp2_with fail
        go_ret
        exact ⟨ret_int (by rw [HK.out.2,HI.out]),rfl⟩
theorem rule107 (p : PV) (hl : p.o.length ≤ 1000) (w : World) : Calls Try.prog 107 #[p.v] w fun e w' => e = .returned (.int .i64 (-(p.o.length : Int))) ∧ Below w.heap.size w w' := by
  have HB : Hid (Below w.heap.size w (w.alloc (.cells p.arr 98))) := (Below.refl _ w).alloc (Nat.le_refl _) _
  go_enter Try.func107,Try.ntmps107
  go_wp2_with fail
  go_ret
  exact ⟨ret_int rfl,HB.out⟩
theorem rule108 (p : PV) (w : World) : Calls Try.prog 108 #[p.v] w fun e w' => e = .returned (.int .i64 p.over) ∧ Below w.heap.size w w' := by
  have HB : Hid (Below w.heap.size w (w.alloc (.cells p.arr 98))) := (Below.refl _ w).alloc (Nat.le_refl _) _
  go_enter Try.func108,Try.ntmps108
  go_wp2_with fail
  go_ret
  exact ⟨ret_int rfl,HB.out⟩
theorem rules101 (w : World) : Calls Try.prog 101 #[] w fun e w' => e = .returned (.slice (some ⟨w.heap.size,0,none⟩) 2 2) ∧ w' = w.alloc (.cells #[.func (.func 107) #[] #[],.func (.func 108) #[] #[]] 135) := by
  go_enter Try.func101,Try.ntmps101
  go_wp2_with fail
  go_ret
  exact ⟨rfl,rfl⟩
end Go.Proofs.Ytphefhpmbahagaa
