/- What can follow a loan: the three iterators. -/
import Derived.Test.YtlhobddaojdnoaaW6
import Derived.OwnWalkIn
import Derived.TacticsInMore
import Derived.LoopNIn
import Derived.LoopIn
namespace Go.Proofs.Ytlhobddaojdnoaa
open Go.RowKit

abbrev Ln.arr (l : Ln) : Array Value := #[.int .i64 l.kind, .int .i64 l.card, .int .i64 l.person, .int .i64 l.slot]
abbrev encSt (x : List Int × Bool) : Array Value := #[stV x.1, .bool x.2]

theorem taken_any (p : Value) (s : List Int) (l : Ln) (w : World) :
    Calls Try.prog 93 #[p, stV s, l.v] w fun e w' => e = .returned (.func (.func 98) #[] #[.pointer (some ⟨w.heap.size, 0, none⟩), .pointer (some ⟨w.heap.size + 1, 0, none⟩)]) ∧ w' = (w.alloc (.cells (stA s) 78)).alloc (.cells l.arr 48) := by
  have hmf : ∀ (fn : Fn) (first cap : Array Value) (w : World), (Instr.makeFunc fn first cap).run Try.prog w = .ok (.func fn first cap) w := fun _ _ _ _ => rfl
  go_enter Try.func93, Try.ntmps93
  go_wp2
  go_ret
  exact ⟨rfl, rfl⟩
theorem back_any (p : Option Addr) (s : List Int) (l : Ln) (w : World) :
    Calls Try.prog 94 #[.pointer p, stV s, l.v] w fun e w' => e = .returned (.func (.func 99) #[] #[.pointer (some ⟨w.heap.size + 1, 0, none⟩), .pointer (some ⟨w.heap.size + 1 + 1, 0, none⟩), .pointer (some ⟨w.heap.size, 0, none⟩)]) ∧
      w' = ((w.alloc (.cells #[.pointer p] 64)).alloc (.cells (stA s) 78)).alloc (.cells l.arr 48) := by
  have hmf : ∀ (fn : Fn) (first cap : Array Value) (w : World), (Instr.makeFunc fn first cap).run Try.prog w = .ok (.func fn first cap) w := fun _ _ _ _ => rfl
  go_enter Try.func94, Try.ntmps94
  go_wp2
  go_ret
  exact ⟨rfl, rfl⟩
theorem looked_any (p : Option Addr) (s : List Int) (l : Ln) (w : World) :
    Calls Try.prog 96 #[.pointer p, stV s, l.v] w fun e w' => e = .returned (.func (.func 100) #[] #[.pointer (some ⟨w.heap.size, 0, none⟩), .pointer (some ⟨w.heap.size + 1, 0, none⟩), .pointer (some ⟨w.heap.size + 1 + 1, 0, none⟩)]) ∧
      w' = ((w.alloc (.cells #[.pointer p] 64)).alloc (.cells (stA s) 78)).alloc (.cells l.arr 48) := by
  have hmf : ∀ (fn : Fn) (first cap : Array Value) (w : World), (Instr.makeFunc fn first cap).run Try.prog w = .ok (.func fn first cap) w := fun _ _ _ _ => rfl
  go_enter Try.func96, Try.ntmps96
  go_wp2
  go_ret
  exact ⟨rfl, rfl⟩

theorem cell_of_heap {w : World} {b k : Nat} {c : Array Value} {t : TypeId} {f : Nat × Nat} (h : w.heap[b]? = some (.cells c t f)) : w.cell? ⟨b, k, none⟩ = c[k]? := by simp [World.cell?, h]
theorem frozen_of_heap {w : World} {b k : Nat} {c : Array Value} {t : TypeId} (h : w.heap[b]? = some (.cells c t (0, 0))) : w.frozen? ⟨b, k, none⟩ = false := by simp [World.frozen?, h]

theorem five {w : World} {b : Nat} {s : List Int} {t : TypeId} (h : w.heap[b]? = some (.cells (stA s) t (0, 0))) :
    w.cell? ⟨b, 0, none⟩ = some (.int .i64 (gi s 0)) ∧ w.cell? ⟨b, 1, none⟩ = some (.int .i64 (gi s 1)) ∧ w.cell? ⟨b, 2, none⟩ = some (.int .i64 (gi s 2)) ∧ w.cell? ⟨b, 3, none⟩ = some (.int .i64 (gi s 3)) ∧ w.cell? ⟨b, 4, none⟩ = some (.int .i64 (gi s 4)) :=
  ⟨by rw [cell_of_heap h]; rfl, by rw [cell_of_heap h]; rfl, by rw [cell_of_heap h]; rfl, by rw [cell_of_heap h]; rfl, by rw [cell_of_heap h]; rfl⟩
theorem same_set (b k : Nat) (v : Value) (w : World) : Same (fun i => i = b) w (w.setCell ⟨b, k, none⟩ v) := Same.setCell (M := fun i => i = b) (Same.refl _ w) (.inl rfl) v

set_option maxHeartbeats 1000000 in
theorem taken_iter (c : Cab) (s : List Int) (k : Nat) (lp ls : Int) {bs bl : Nat} {W : World} (hs : W.heap[bs]? = some (.cells (stA s) 78 (0, 0))) (hl : W.heap[bl]? = some (.cells (Ln.arr ⟨0, k, lp, ls⟩) 48 (0, 0)))
    (hk : k < s.length) (hn : s.length ≤ 5) (M : Nat → Prop) :
    IterOk Try.prog 98 #[.pointer (some ⟨bs, 0, none⟩), .pointer (some ⟨bl, 0, none⟩)] ((step c s ⟨0, k, lp, ls⟩).map encSt) (fun i => i = bs) M W := by
  intro l J Jx hJ hJx hY h0
  have hbs : bs < W.heap.size := (Array.getElem?_eq_some_iff.1 hs).1
  have c1 : W.cell? ⟨bl, 1, none⟩ = some (.int .i64 k) := by rw [cell_of_heap hl]; rfl
  have c2 : W.cell? ⟨bs, k, none⟩ = some (.int .i64 (gi s k)) := by rw [cell_of_heap hs]; exact stA_get s k (by omega)
  have f2 : W.frozen? ⟨bs, k, none⟩ = false := frozen_of_heap hs
  have hst : step c s ⟨0, k, lp, ls⟩ = if gi s k = -1 then [] else [(s.set k (-1), false)] := by simp [step]
  by_cases hg : gi s k = -1
  · rw [hst, if_pos hg] at hY ⊢
    have hg' : (gi s k != -1) = false := by simp [hg]
    clear hst hg hs hl hY
    refine callsIn_of_wp Try.func98 rfl trivial ?_ rfl
    simp only [Try.ntmps98, List.size_toArray, List.length_cons, List.length_nil, Nat.reduceAdd, Nat.reduceSub, Array.replicate_succ, Array.replicate_zero, List.push_toArray, List.append_toArray, List.nil_append, List.cons_append]
    gi_wp2
    go_end0
    exact ⟨⟨_, rfl⟩, .inl h0⟩
  · rw [hst, if_neg hg] at hY ⊢
    have hg' : (gi s k != -1) = true := by simp [hg]
    have e1 := heap_setCell_at (k := k) hs (.int .i64 (-1))
    rw [stA_set s k (by omega) hk] at e1
    have hS : Same (fun i => i = bs) W (W.setCell ⟨bs, k, none⟩ (.int .i64 (-1))) := same_set _ _ _ _
    obtain ⟨fn, tmps, assign, body, hy, hR⟩ := hY 0 (encSt (s.set k (-1), false)) rfl _ (hJ 0 _ _ h0 hS)
    clear hst hg hl hY
    have HR := Lib.hid hR
    clear hR
    obtain ⟨d0, d1, d2, d3, d4⟩ := five e1
    refine callsIn_of_wp Try.func98 rfl trivial ?_ rfl
    simp only [Try.ntmps98, List.size_toArray, List.length_cons, List.length_nil, Nat.reduceAdd, Nat.reduceSub, Array.replicate_succ, Array.replicate_zero, List.push_toArray, List.append_toArray, List.nil_append, List.cons_append]
    gi_wp2_with fail
    refine ⟨rfl, HR.out.mono ?_⟩
    rintro e W3 (⟨rfl, hJ3, hk3⟩ | ⟨rfl, hJx3, hk3⟩)
    · gi_wp2
      go_end0
      exact ⟨⟨_, rfl⟩, .inl hJ3⟩
    · gi_wp2
      go_end0
      exact ⟨⟨_, rfl⟩, .inr ⟨0, by simp, hJx3⟩⟩

set_option maxHeartbeats 1000000 in
theorem looked_iter (c : Cab) (s : List Int) (lc lp ls : Int) {bc : Nat} {ah : Option Addr} {ch : Nat} {al : Option Addr} {cl : Nat} {bp bs bl : Nat} {W : World} (hc : CabP W bc c ah ch al cl) (hp : W.heap[bp]? = some (.cells #[.pointer (some ⟨bc, 0, none⟩)] 64 (0, 0)))
    (hs : W.heap[bs]? = some (.cells (stA s) 78 (0, 0))) (hl : W.heap[bl]? = some (.cells (Ln.arr ⟨2, lc, lp, ls⟩) 48 (0, 0))) (hn : c.homes.length ≤ 5) (hsl : s.length = c.homes.length) (O M : Nat → Prop) :
    IterOk Try.prog 100 #[.pointer (some ⟨bp, 0, none⟩), .pointer (some ⟨bs, 0, none⟩), .pointer (some ⟨bl, 0, none⟩)] ((step c s ⟨2, lc, lp, ls⟩).map encSt) O M W := by
  intro l J Jx hJ hJx hY h0
  have c1 : W.cell? ⟨bp, 0, none⟩ = some (.pointer (some ⟨bc, 0, none⟩)) := by rw [cell_of_heap hp]; rfl
  have c2 : W.cell? ⟨bl, 1, none⟩ = some (.int .i64 lc) := by rw [cell_of_heap hl]; rfl
  have c3 : W.cell? ⟨bl, 3, none⟩ = some (.int .i64 ls) := by rw [cell_of_heap hl]; rfl
  obtain ⟨d0, d1, d2, d3, d4⟩ := five hs
  have x1 := fun x : Aft W.heap.size W => cell_stays x.h c1
  have x2 := fun x : Aft W.heap.size W => cell_stays x.h c2
  have x3 := fun x : Aft W.heap.size W => cell_stays x.h c3
  have y0 := fun x : Aft W.heap.size W => cell_stays x.h d0
  have y1 := fun x : Aft W.heap.size W => cell_stays x.h d1
  have y2 := fun x : Aft W.heap.size W => cell_stays x.h d2
  have y3 := fun x : Aft W.heap.size W => cell_stays x.h d3
  have y4 := fun x : Aft W.heap.size W => cell_stays x.h d4
  have hst : step c s ⟨2, lc, lp, ls⟩ = if lies s ls = lc then [(s, false)] else [] := by simp [step]
  refine callsIn_of_wp Try.func100 rfl trivial ?_ rfl
  simp only [Try.ntmps100, List.size_toArray, List.length_cons, List.length_nil, Nat.reduceAdd, Nat.reduceSub, Array.replicate_succ, Array.replicate_zero, List.push_toArray, List.append_toArray, List.nil_append, List.cons_append]
  gi_wp2
  refine wpIn_wide.2 (wp_region_aft mixed (by kernel_rfl) ?_)
  repeat (go_big_quiet_step ((go_at_call 61; exact calls_aft (lies_any s ls (hc.mono (Aft.h _)) hn hsl))))
  refine wpQuiet_nil ?_
  rintro _ ⟨x, rfl⟩
  by_cases hh : lies s ls = lc
  · have hh' : (lies s ls == lc) = true := by simpa using hh
    rw [hst, if_pos hh] at hY
    have hr := hY 0 (encSt (s, false)) rfl x.v (hJ 0 _ _ h0 (Same.of_below O x.h))
    obtain ⟨fn, tmps, assign, body, hy, hR⟩ := hr
    have HR := Lib.hid hR
    have HL := Lib.hid (hst.trans (if_pos hh))
    have z0 := y0 x
    have z1 := y1 x
    have z2 := y2 x
    have z3 := y3 x
    have z4 := y4 x
    clear hR hst hY y0 y1 y2 y3 y4 x1 x2 x3 hh
    gi_wp2_with fail
    refine ⟨rfl, HR.out.mono ?_⟩
    rintro e W3 (⟨rfl, hJ3, hk3⟩ | ⟨rfl, hJx3, hk3⟩)
    · gi_wp2
      go_end0
      exact ⟨⟨_, rfl⟩, .inl (by rw [HL.out]; exact hJ3)⟩
    · gi_wp2
      go_end0
      exact ⟨⟨_, rfl⟩, .inr ⟨0, by rw [HL.out]; simp, hJx3⟩⟩
  · have hh' : (lies s ls == lc) = false := by simpa using hh
    have HL := Lib.hid (hst.trans (if_neg hh))
    clear hst hh hY
    gi_wp2
    go_end0
    exact ⟨⟨_, rfl⟩, .inl (by rw [HL.out]; exact hJ 0 _ _ h0 (Same.of_below O x.h))⟩
end Go.Proofs.Ytlhobddaojdnoaa
