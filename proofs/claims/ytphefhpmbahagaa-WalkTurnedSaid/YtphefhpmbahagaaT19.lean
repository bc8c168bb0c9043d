/- The reference's small functions; an order from its end. -/
import Derived.Test.YtphefhpmbahagaaT18
namespace Go.Proofs.Ytphefhpmbahagaa
open Go.RowKit
set_option linter.unusedVariables false
set_option linter.unusedSimpArgs false

theorem rin77 (n lo hi : Int) (w : World) :
    Calls Try.prog 77 #[.int .i64 n,.int .i64 lo,.int .i64 hi] w fun e w' => e = .returned (.bool (inR n lo hi)) ∧ w = w' := by
  unfold inR
  go_enter Try.func77,Try.ntmps77
  by_cases h : lo ≤ n
  · have hd : decide (lo ≤ n) = true := by simp [h]
    go_wp2_with fail
    go_ret
    exact ⟨ret_bool (by first | rfl | (rw [hd]; rfl)),rfl⟩
  · have hd : decide (lo ≤ n) = false := by simp; omega
    go_wp2_with fail
    go_ret
    exact ⟨ret_bool (by first | rfl | (rw [hd]; rfl)),rfl⟩
theorem end85 (s : Spn) (q : Bool) (w : World) :
    Calls Try.prog 85 #[s.v,.bool q] w fun e w' => e = .returned (.int .i64 (if q then s.hi else s.lo)) ∧ Below w.heap.size w w' := by
  have HB : Hid (Below w.heap.size w (w.alloc (.cells s.arr 33))) := (Below.refl _ w).alloc (Nat.le_refl _) _
  cases q
  · go_enter Try.func85,Try.ntmps85
    go_wp2_with fail
    go_ret
    exact ⟨rfl,HB.out⟩
  · go_enter Try.func85,Try.ntmps85
    go_wp2_with fail
    go_ret
    exact ⟨rfl,HB.out⟩
theorem backward64 {a : Option Addr} {n cap : Nat} {w : World} : Calls Try.prog 64 #[.slice a n cap] w fun e w' => e = .returned (.func (.func 86) #[] #[.pointer (some ⟨w.heap.size,0,none⟩)]) ∧ w' = w.alloc (.cells #[.slice a n cap] 26) := by
  have hmf : ∀ (fn : Fn) (first cap : Array Value) (w : World),(Instr.makeFunc fn first cap).run Try.prog w = .ok (.func fn first cap) w := fun _ _ _ _ => rfl
  go_enter Try.func64,Try.ntmps64
  go_wp2_with fail
  go_ret
  exact ⟨rfl,rfl⟩
/-- What is handed over: the i-th element from the end,with its place. -/
def BackOk (o : List Int) (i : Nat) (v : Array Value) (A : World) (K : Nat → Prop) : Prop :=
  i < o.length ∧ v = #[.int .i64 ((o.length - 1 - i : Nat) : Int),.int .i64 (gi o (o.length - 1 - i))] ∧ K = fun _ => False
set_option maxRecDepth 100000 in
set_option maxHeartbeats 4000000 in
theorem back_iter {o : List Int} {a : Option Addr} {cap pb : Nat} {W : World} {M : Nat → Prop} {Sd : World → Prop} (hol : o.length ≤ 16)
    (hs : ∀ A,Same M W A → A.cell? ⟨pb,0,none⟩ = some (.slice a o.length cap) ∧ IsInts A a o) (hSd : ∀ A,Same M W A → Sd A) :
    IterX Try.prog 86 #[.pointer (some ⟨pb,0,none⟩)] o.length (BackOk o) M (fun _ => False) Sd W := by
  intro l J Jx hJ hJx hY h0
  obtain ⟨c0,_⟩ := hs W (Same.refl _ W)
  have HS := Lib.hid hs
  have HSd := Lib.hid hSd
  have HY := Lib.hid hY
  have H0 := Lib.hid h0
  have y1 : IntKind.i64.wrap ((o.length : Int) - 1) = (o.length : Int) - 1 := IntWalk.i64_in _ (by omega)
  clear hs hY h0 hJ hJx hSd
  refine callsIn_wide.2 ?_
  go_enter Try.func86,Try.ntmps86
  go_wp2_with fail
  clear c0
  go_loopw [3] (fun i wr => ∃ (k : Nat) (C : Nat → Prop),k ≤ o.length ∧ i = .int .i64 ((o.length : Int) - 1 - k) ∧ Hid (Same M W wr ∧ J k wr C)) (fun i _ => (intOf i + 1).toNat)
  case atStart => exact ⟨0,_,by omega,by simp,Same.refl _ W,H0.out⟩
  case round =>
    obtain ⟨k,C,hk,rfl,HR⟩ := hrel
    by_cases hlt : k < o.length
    · obtain ⟨m,hm⟩ : ∃ m : Nat,m = o.length - 1 - k := ⟨_,rfl⟩
      have hm2 : (o.length : Int) - 1 - k = (m : Int) := by omega
      have hml : m < o.length := by omega
      obtain ⟨c0,hii⟩ := HS.out wr HR.out.1
      obtain ⟨ab,ao,haa,hcell⟩ := hii m hml
      subst haa
      rw [hm2]
      have y2 : IntKind.i64.wrap ((m : Int) - 1) = (m : Int) - 1 := IntWalk.i64_in _ (by omega)
      obtain ⟨fn,tmps,assign,body,hy,hRd⟩ := HY.out k #[.int .i64 (m : Int),.int .i64 (gi o m)] wr C (fun _ => False) hlt ⟨hlt,by rw [hm],rfl⟩ (fun _ h => h.elim) HR.out.2
      have HRd := Lib.hid hRd
      have HM := Lib.hid (And.intro hm hm2)
      clear hRd hm hm2 hii
      refine (wpIn_wide (n := 0)).1 ?_
      gi_wp2_with fail
      refine ⟨rfl,HRd.out.mono ?_⟩
      rintro e W3 ⟨hs3,C3,h1,h2,h3,h4⟩
      have hS3 : Same M W W3 := same_later HR.out.1 hs3 (fun j hm => by
        by_cases hj : j < W.heap.size
        · exact .inl (hm.2 hj)
        · exact .inr (by omega))
      rcases h4 with ⟨rfl,hj⟩ | ⟨rfl,hj⟩
      · have H3 := Lib.hid (And.intro hS3 hj)
        clear hS3 hj hs3 h1 h2 h3 c0 hcell hy
        gi_wp2_with fail
        go_wp2_with fail
        go_roundw
        case rel => exact ⟨k + 1,C3,by omega,by have := HM.out.2; simp; omega,H3.out.1,H3.out.2⟩
        case measure => simp [intOf] <;> omega
      · have H3 := Lib.hid hj
        clear hS3 hj hs3 h1 h2 h3 c0 hcell hy
        gi_wp2_with fail
        go_wp2_with fail
        refine bodyPost_ret (results_none rfl _ _ _) rfl ?_
        exact ⟨⟨_,rfl⟩,C3,.inr ⟨_,hlt,H3.out⟩⟩
    · obtain rfl : k = o.length := by omega
      have hneg : (o.length : Int) - 1 - (o.length : Int) = -1 := by omega
      rw [hneg]
      go_wp2_with fail
      refine bodyPost_end (results_none rfl _ _ _) rfl ?_
      exact ⟨⟨_,rfl⟩,C,.inl ⟨HR.out.2,HSd.out _ HR.out.1⟩⟩
end Go.Proofs.Ytphefhpmbahagaa
