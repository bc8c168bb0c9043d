/- What can follow a loan: the three iterators. append of whatever slice to a slice of the call's own: laws over whatever program. A region that draws its order, by an invariant over what has been done: a law over whatever program. Ways in which cards have entries: plain laws, no program in sight. What boxes with a heap of mixed cards come to, in plain Lean: no program in sight. -/
import Derived.Test.YtbnhngfegnhaiaaGreatDoorC1
import Derived.OwnWalkIn
import Derived.TacticsInMore
import Derived.LoopNIn
import Derived.LoopIn
import Derived.Laws.AppendOwn
import Derived.Laws.OwnMore
import Derived.Maps.AppendAt
import Derived.Lib.Bytealg
namespace Go.Proofs.YtbnhngfegnhaiaaGreatDoor
open Go.RowKit
abbrev Ln.arr (l : Ln) : Array Value := #[.int .i64 l.kind, .int .i64 l.card, .int .i64 l.person, .int .i64 l.slot]
abbrev encSt (x : List Int × Bool) : Array Value := #[stV x.1, .bool x.2]
theorem taken_any (p : Value) (s : List Int) (l : Ln) (w : World) :
    Calls Tryz.prog 61 #[p, stV s, l.v] w fun e w' => e = .returned (.func (.func 79) #[] #[.pointer (some ⟨w.heap.size, 0, none⟩), .pointer (some ⟨w.heap.size + 1, 0, none⟩)]) ∧ w' = (w.alloc (.cells (stA s) 95)).alloc (.cells l.arr 37) := by
  have hmf : ∀ (fn : Fn) (first cap : Array Value) (w : World), (Instr.makeFunc fn first cap).run Tryz.prog w = .ok (.func fn first cap) w := fun _ _ _ _ => rfl
  go_enter Tryz.func61, Tryz.ntmps61
  go_wp2
  go_ret
  exact ⟨rfl, rfl⟩
theorem back_any (p : Option Addr) (s : List Int) (l : Ln) (w : World) :
    Calls Tryz.prog 62 #[.pointer p, stV s, l.v] w fun e w' => e = .returned (.func (.func 80) #[] #[.pointer (some ⟨w.heap.size + 1, 0, none⟩), .pointer (some ⟨w.heap.size + 1 + 1, 0, none⟩), .pointer (some ⟨w.heap.size, 0, none⟩)]) ∧
      w' = ((w.alloc (.cells #[.pointer p] 82)).alloc (.cells (stA s) 95)).alloc (.cells l.arr 37) := by
  have hmf : ∀ (fn : Fn) (first cap : Array Value) (w : World), (Instr.makeFunc fn first cap).run Tryz.prog w = .ok (.func fn first cap) w := fun _ _ _ _ => rfl
  go_enter Tryz.func62, Tryz.ntmps62
  go_wp2
  go_ret
  exact ⟨rfl, rfl⟩
theorem looked_any (p : Option Addr) (s : List Int) (l : Ln) (w : World) :
    Calls Tryz.prog 64 #[.pointer p, stV s, l.v] w fun e w' => e = .returned (.func (.func 81) #[] #[.pointer (some ⟨w.heap.size, 0, none⟩), .pointer (some ⟨w.heap.size + 1, 0, none⟩), .pointer (some ⟨w.heap.size + 1 + 1, 0, none⟩)]) ∧
      w' = ((w.alloc (.cells #[.pointer p] 82)).alloc (.cells (stA s) 95)).alloc (.cells l.arr 37) := by
  have hmf : ∀ (fn : Fn) (first cap : Array Value) (w : World), (Instr.makeFunc fn first cap).run Tryz.prog w = .ok (.func fn first cap) w := fun _ _ _ _ => rfl
  go_enter Tryz.func64, Tryz.ntmps64
  go_wp2
  go_ret
  exact ⟨rfl, rfl⟩
theorem cell_of_heap {w : World} {b k : Nat} {c : Array Value} {t : TypeId} {f : Nat × Nat} (h : w.heap[b]? = some (.cells c t f)) : w.cell? ⟨b, k, none⟩ = c[k]? := by simp [World.cell?, h]
theorem frozen_of_heap {w : World} {b k : Nat} {c : Array Value} {t : TypeId} (h : w.heap[b]? = some (.cells c t (0, 0))) : w.frozen? ⟨b, k, none⟩ = false := by simp [World.frozen?, h]
theorem five {w : World} {b : Nat} {s : List Int} {t : TypeId} (h : w.heap[b]? = some (.cells (stA s) t (0, 0))) :
    w.cell? ⟨b, 0, none⟩ = some (.int .i64 (gi s 0)) ∧ w.cell? ⟨b, 1, none⟩ = some (.int .i64 (gi s 1)) ∧ w.cell? ⟨b, 2, none⟩ = some (.int .i64 (gi s 2)) ∧ w.cell? ⟨b, 3, none⟩ = some (.int .i64 (gi s 3)) ∧ w.cell? ⟨b, 4, none⟩ = some (.int .i64 (gi s 4)) :=
  ⟨by rw [cell_of_heap h]; rfl, by rw [cell_of_heap h]; rfl, by rw [cell_of_heap h]; rfl, by rw [cell_of_heap h]; rfl, by rw [cell_of_heap h]; rfl⟩
theorem same_set (b k : Nat) (v : Value) (w : World) : Same (fun i => i = b) w (w.setCell ⟨b, k, none⟩ v) := Same.setCell (M := fun i => i = b) (Same.refl _ w) (.inl rfl) v
set_option maxHeartbeats 1000000 in
theorem taken_iter (c : Cab) (s : List Int) (k : Nat) (lp ls : Int) {bs bl : Nat} {W : World} (hs : W.heap[bs]? = some (.cells (stA s) 95 (0, 0))) (hl : W.heap[bl]? = some (.cells (Ln.arr ⟨0, k, lp, ls⟩) 37 (0, 0)))
    (hk : k < s.length) (hn : s.length ≤ 5) (M : Nat → Prop) :
    IterOk Tryz.prog 79 #[.pointer (some ⟨bs, 0, none⟩), .pointer (some ⟨bl, 0, none⟩)] ((step c s ⟨0, k, lp, ls⟩).map encSt) (fun i => i = bs) M W := by
  intro l J Jx hJ hJx hY h0
  have hbs : bs < W.heap.size := (Array.getElem?_eq_some_iff.1 hs).1
  have c1 : W.cell? ⟨bl, 1, none⟩ = some (.int .i64 k) := by rw [cell_of_heap hl]; rfl
  have c2 : W.cell? ⟨bs, k, none⟩ = some (.int .i64 (gi s k)) := by rw [cell_of_heap hs]; exact stA_get s k (by omega)
  have f2 : W.frozen? ⟨bs, k, none⟩ = false := frozen_of_heap hs
  have hst : step c s ⟨0, k, lp, ls⟩ = if gi s k = -1 then [] else [(s.set k (-1), false)] := by simp [step]
  by_cases hg : gi s k = -1
  · rw [hst, if_pos hg] at hY ⊢
    have hg' : (gi s k != -1) = false := by simp [hg]
    clear hst hg hs hl hY
    refine callsIn_of_wp Tryz.func79 rfl trivial ?_ rfl
    simp only [Tryz.ntmps79, List.size_toArray, List.length_cons, List.length_nil, Nat.reduceAdd, Nat.reduceSub, Array.replicate_succ, Array.replicate_zero, List.push_toArray, List.append_toArray, List.nil_append, List.cons_append]
    gi_wp2
    go_end0
    exact ⟨⟨_, rfl⟩, .inl h0⟩
  · rw [hst, if_neg hg] at hY ⊢
    have hg' : (gi s k != -1) = true := by simp [hg]
    have e1 := heap_setCell_at (k := k) hs (.int .i64 (-1))
    rw [stA_set s k (by omega) hk] at e1
    have hS : Same (fun i => i = bs) W (W.setCell ⟨bs, k, none⟩ (.int .i64 (-1))) := same_set _ _ _ _
    obtain ⟨fn, tmps, assign, body, hy, hR⟩ := hY 0 (encSt (s.set k (-1), false)) rfl _ (hJ 0 _ _ h0 hS)
    clear hst hg hl hY
    have HR := Lib.hid hR
    clear hR
    obtain ⟨d0, d1, d2, d3, d4⟩ := five e1
    refine callsIn_of_wp Tryz.func79 rfl trivial ?_ rfl
    simp only [Tryz.ntmps79, List.size_toArray, List.length_cons, List.length_nil, Nat.reduceAdd, Nat.reduceSub, Array.replicate_succ, Array.replicate_zero, List.push_toArray, List.append_toArray, List.nil_append, List.cons_append]
    gi_wp2_with fail
    refine ⟨rfl, HR.out.mono ?_⟩
    rintro e W3 (⟨rfl, hJ3, hk3⟩ | ⟨rfl, hJx3, hk3⟩)
    · gi_wp2
      go_end0
      exact ⟨⟨_, rfl⟩, .inl hJ3⟩
    · gi_wp2
      go_end0
      exact ⟨⟨_, rfl⟩, .inr ⟨0, by simp, hJx3⟩⟩
set_option maxHeartbeats 1000000 in
theorem looked_iter (c : Cab) (s : List Int) (lc lp ls : Int) {bc : Nat} {ah : Option Addr} {ch : Nat} {al : Option Addr} {cl : Nat} {bp bs bl : Nat} {W : World} (hc : CabP W bc c ah ch al cl) (hp : W.heap[bp]? = some (.cells #[.pointer (some ⟨bc, 0, none⟩)] 82 (0, 0)))
    (hs : W.heap[bs]? = some (.cells (stA s) 95 (0, 0))) (hl : W.heap[bl]? = some (.cells (Ln.arr ⟨2, lc, lp, ls⟩) 37 (0, 0))) (hn : c.homes.length ≤ 5) (hsl : s.length = c.homes.length) (O M : Nat → Prop) :
    IterOk Tryz.prog 81 #[.pointer (some ⟨bp, 0, none⟩), .pointer (some ⟨bs, 0, none⟩), .pointer (some ⟨bl, 0, none⟩)] ((step c s ⟨2, lc, lp, ls⟩).map encSt) O M W := by
  intro l J Jx hJ hJx hY h0
  have c1 : W.cell? ⟨bp, 0, none⟩ = some (.pointer (some ⟨bc, 0, none⟩)) := by rw [cell_of_heap hp]; rfl
  have c2 : W.cell? ⟨bl, 1, none⟩ = some (.int .i64 lc) := by rw [cell_of_heap hl]; rfl
  have c3 : W.cell? ⟨bl, 3, none⟩ = some (.int .i64 ls) := by rw [cell_of_heap hl]; rfl
  obtain ⟨d0, d1, d2, d3, d4⟩ := five hs
  have x1 := fun x : Aft W.heap.size W => cell_stays x.h c1
  have x2 := fun x : Aft W.heap.size W => cell_stays x.h c2
  have x3 := fun x : Aft W.heap.size W => cell_stays x.h c3
  have y0 := fun x : Aft W.heap.size W => cell_stays x.h d0
  have y1 := fun x : Aft W.heap.size W => cell_stays x.h d1
  have y2 := fun x : Aft W.heap.size W => cell_stays x.h d2
  have y3 := fun x : Aft W.heap.size W => cell_stays x.h d3
  have y4 := fun x : Aft W.heap.size W => cell_stays x.h d4
  have hst : step c s ⟨2, lc, lp, ls⟩ = if lies s ls = lc then [(s, false)] else [] := by simp [step]
  refine callsIn_of_wp Tryz.func81 rfl trivial ?_ rfl
  simp only [Tryz.ntmps81, List.size_toArray, List.length_cons, List.length_nil, Nat.reduceAdd, Nat.reduceSub, Array.replicate_succ, Array.replicate_zero, List.push_toArray, List.append_toArray, List.nil_append, List.cons_append]
  gi_wp2
  refine wpIn_wide.2 (wp_region_aft mixed (by kernel_rfl) ?_)
  repeat (go_big_quiet_step ((go_at_call 45; exact calls_aft (lies_any s ls (hc.mono (Aft.h _)) hn hsl))))
  refine wpQuiet_nil ?_
  rintro _ ⟨x, rfl⟩
  by_cases hh : lies s ls = lc
  · have hh' : (lies s ls == lc) = true := by simpa using hh
    rw [hst, if_pos hh] at hY
    have hr := hY 0 (encSt (s, false)) rfl x.v (hJ 0 _ _ h0 (Same.of_below O x.h))
    obtain ⟨fn, tmps, assign, body, hy, hR⟩ := hr
    have HR := Lib.hid hR
    have HL := Lib.hid (hst.trans (if_pos hh))
    have z0 := y0 x
    have z1 := y1 x
    have z2 := y2 x
    have z3 := y3 x
    have z4 := y4 x
    clear hR hst hY y0 y1 y2 y3 y4 x1 x2 x3 hh
    gi_wp2_with fail
    refine ⟨rfl, HR.out.mono ?_⟩
    rintro e W3 (⟨rfl, hJ3, hk3⟩ | ⟨rfl, hJx3, hk3⟩)
    · gi_wp2
      go_end0
      exact ⟨⟨_, rfl⟩, .inl (by rw [HL.out]; exact hJ3)⟩
    · gi_wp2
      go_end0
      exact ⟨⟨_, rfl⟩, .inr ⟨0, by rw [HL.out]; simp, hJx3⟩⟩
  · have hh' : (lies s ls == lc) = false := by simpa using hh
    have HL := Lib.hid (hst.trans (if_neg hh))
    clear hst hh hY
    gi_wp2
    go_end0
    exact ⟨⟨_, rfl⟩, .inl (by rw [HL.out]; exact hJ 0 _ _ h0 (Same.of_below O x.h))⟩
end Go.Proofs.YtbnhngfegnhaiaaGreatDoor
namespace Go.Proofs.YtbnhngfegnhaiaaGreatDoor
open Go.RowKit
theorem append_none {P : Program} {w : World} (base : Nat) (t ty e : TypeId) (i : TypeInfo) (size c : Nat) (ht : P.underlying t = some (.slice e)) (hi : P.info? e = some i)
    (v : Value) (n : Nat) (xs : List Value) (hown : w.ownsRow base e size v n xs) :
    (Builtin.append_ #[t, t] ty #[v, .slice none 0 c]).run P w = .ok v w := by
  rcases hown.2 with ⟨rfl, rfl⟩ | ⟨g, cap, cur, rfl, _, _, hnc, _⟩
  · simp [Builtin.append_, run_underlying ht, sizeOf, typeInfo, hi, Builtin.lenOf, Builtin.firstCells]
  · simp [Builtin.append_, run_underlying ht, sizeOf, typeInfo, hi, Builtin.lenOf, Builtin.firstCells, hnc, storeCells]
/-- What a slice of the call's own holds, cell by cell. -/
theorem own_cell {w : World} {base : Nat} {e : TypeId} {size : Nat} {v : Value} {n : Nat} {xs : List Value} (h : w.ownsRow base e size v n xs) (hn : 0 < n) :
    ∃ g cap, v = .slice (some ⟨g, 0, none⟩) n cap ∧ base ≤ g ∧ g < w.heap.size ∧ n ≤ cap ∧ cap ≤ maxLen ∧ ∀ j u, xs[j]? = some u → w.cell? ⟨g, j, none⟩ = some u := by
  rcases h.2 with ⟨_, h0⟩ | ⟨g, cap, cur, rfl, h1, h2, h3, h4, _⟩
  · omega
  · refine ⟨g, cap, rfl, h1, (Array.getElem?_eq_some_iff.1 h2).1, h3, h4, fun j u hj => ?_⟩
    have := h.cells (g := g) rfl j u hj
    have e : ((⟨g, 0, none⟩ : Addr).add j) = ⟨g, j, none⟩ := by unfold Addr.add; split <;> simp_all
    rwa [e] at this
/-- A slice of the call's own, whatever it is, is a slice. -/
theorem own_slice {w : World} {base : Nat} {e : TypeId} {size : Nat} {v : Value} {n : Nat} {xs : List Value} (h : w.ownsRow base e size v n xs) : ∃ a cap, v = .slice a n cap ∧ n ≤ cap ∧ cap ≤ maxLen := by
  rcases h.2 with ⟨rfl, rfl⟩ | ⟨g, cap, cur, rfl, h1, h2, h3, h4, _⟩
  · exact ⟨_, _, rfl, by simp, by simp [maxLen]⟩
  · exact ⟨_, _, rfl, h3, h4⟩
theorem own_below {w w' : World} {v : Value} {base : Nat} {e : TypeId} {size n : Nat} {xs : List Value} (h : w.ownsRow base e size v n xs) (hb : Below w.heap.size w w') : w'.ownsRow base e size v n xs := by
  have hg : w.grownBy w' none := ⟨hb.os, hb.tape, hb.output, hb.size, fun k hk _ => hb.block k hk⟩
  refine h.kept hg ?_
  cases v.ownBlock with
  | none => exact .inl rfl
  | some k => exact .inr (by simp)
end Go.Proofs.YtbnhngfegnhaiaaGreatDoor
namespace Go.Proofs.YtbnhngfegnhaiaaGreatDoor
open Go.RowKit
/-- One thing more done. -/
def upd (d : Nat → Bool) (k : Nat) : Nat → Bool := fun j => if j = k then true else d j
/-- Each operation keeps the invariant, whatever of the others has been done that need not wait for it. -/
def InvSteps (P : Program) (Q : Exit → Act → World → Prop) (Inv : (Nat → Bool) → Act → World → Prop) : Nat → List Oper → Prop
  | _, [] => True
  | k, o :: r => (∀ d a w K, d k = false → (∀ e ∈ o.after, Region.binds .any e = true → d e.on = true) → Inv d a w → Hid (∀ a' w', Inv (upd d k) a' w' → K a' w') → o.wp P a w K Q) ∧ InvSteps P Q Inv (k + 1) r
theorem InvSteps.get {P : Program} {Q : Exit → Act → World → Prop} {Inv : (Nat → Bool) → Act → World → Prop} : ∀ {l : List Oper} {k : Nat}, InvSteps P Q Inv k l → ∀ {i : Nat} {o : Oper}, l[i]? = some o →
    ∀ d a w, d (k + i) = false → (∀ e ∈ o.after, Region.binds .any e = true → d e.on = true) → Inv d a w → o.wp P a w (fun a' w' => Inv (fun j => if j = k + i then true else d j) a' w') Q
  | [], _, _, i, o, h => by simp at h
  | o' :: r, k, hs, 0, o, h => by
    simp only [List.getElem?_cons_zero, Option.some.injEq] at h
    subst h
    exact fun d a w h1 h2 h3 => hs.1 d a w _ h1 h2 h3 (fun _ _ h => h)
  | o' :: r, k, hs, i + 1, o, h => by
    rw [List.getElem?_cons_succ] at h
    have := InvSteps.get hs.2 h
    rw [show k + 1 + i = k + (i + 1) by omega] at this
    exact this
/-- append to one's own, and where the new slice lies. -/
theorem append_rows_at {P : Program} {w : World} (base : Nat) (t ty e : TypeId) (i : TypeInfo) (z : Value) (size bytes : Nat) (ht : P.underlying t = some (.slice e)) (hi : P.info? e = some i) (hz : i.zero = some z)
    (hsize : i.size = size) (hby : i.bytes = bytes) (hzs : z.cells.size = size) (hsz : 0 < size)
    (v : Value) (n : Nat) (xs : List Value) (hown : w.ownsRow base e size v n xs)
    (a : Option Addr) (m c : Nat) (news : List Value) (hl : news.length = m * size) (hnews : m ≠ 0 → ∃ ad, a = some ad ∧ ∀ j u, news[j]? = some u → w.cell? (ad.add j) = some u) (h1 : ∀ u ∈ news, u.oneCell' = true)
    (h63 : n + m ≤ maxLen) (hbytes : (n + m) * bytes ≤ 140737488355328) (hbase : base ≤ w.heap.size) :
    ∃ v' w', (Builtin.append_ #[t, t] ty #[v, .slice a m c]).run P w = .ok v' w' ∧ w'.ownsRow base e size v' (n + m) (xs ++ news) ∧ w.grownBy w' v.ownBlock ∧ (v'.ownBlock = v.ownBlock ∨ v'.ownBlock = some w.heap.size) := by
  cases a with
  | none =>
    by_cases hm : m = 0
    · subst hm
      have hn : news = [] := List.eq_nil_of_length_eq_zero (by simpa using hl)
      subst hn
      refine ⟨v, w, append_none base t ty e i size c ht hi v n xs hown, by simpa using hown, ⟨rfl, rfl, rfl, Nat.le_refl _, fun _ _ _ => rfl⟩, .inl rfl⟩
    · obtain ⟨ad, h, _⟩ := hnews hm
      cases h
  | some ad =>
    have hn' : ∀ j u, news[j]? = some u → w.cell? (ad.add j) = some u := by
      by_cases hm : m = 0
      · subst hm
        have hn : news = [] := List.eq_nil_of_length_eq_zero (by simpa using hl)
        subst hn
        intro j u h; simp at h
      · obtain ⟨ad', h, h2⟩ := hnews hm
        cases h
        exact h2
    obtain ⟨v', w', h2, h3, h4, h5, h6⟩ := run_append_own_at (P := P) (w := w) base t ty e i z size bytes ht hi hz hsize hby hzs hsz v n xs hown ad m c news hl hn' h1 h63 hbytes hbase
    exact ⟨v', w', h2, h3, h4, h6⟩
end Go.Proofs.YtbnhngfegnhaiaaGreatDoor
namespace Go.Proofs.YtbnhngfegnhaiaaGreatDoor
def gn (l : List Nat) (k : Nat) : Nat := l.getD k 0
/-- The entries that a card can still have. -/
def freeL (E f used : Nat) : List Nat := (List.range E).filter fun i => f.testBit i && !used.testBit i
/-- All ways: which entry each card has. -/
def waysL (E : Nat) : List Nat → Nat → List (List Nat)
  | [], _ => [[]]
  | f :: fs, used => (freeL E f used).flatMap fun i => (waysL E fs (used ||| 2 ^ i)).map (i :: ·)
def WayP (E : Nat) : List Nat → Nat → List Nat → Prop
  | [], _, [] => True
  | f :: fs, used, i :: l => i < E ∧ f.testBit i = true ∧ used.testBit i = false ∧ WayP E fs (used ||| 2 ^ i) l
  | [], _, _ :: _ => False
  | _ :: _, _, [] => False
theorem mem_freeL {E f used i : Nat} : i ∈ freeL E f used ↔ i < E ∧ f.testBit i = true ∧ used.testBit i = false := by
  unfold freeL
  simp [List.mem_filter]
theorem mem_ways {E : Nat} : ∀ {fs : List Nat} {used : Nat} {l : List Nat}, l ∈ waysL E fs used ↔ WayP E fs used l
  | [], used, [] => by simp [waysL, WayP]
  | [], used, _ :: _ => by simp [waysL, WayP]
  | f :: fs, used, [] => by simp [waysL, WayP]
  | f :: fs, used, i :: l => by
    have ih := mem_ways (E := E) (fs := fs) (used := used ||| 2 ^ i) (l := l)
    unfold waysL WayP
    rw [List.mem_flatMap]
    constructor
    · rintro ⟨j, hj, hl⟩
      obtain ⟨l', hl', he⟩ := List.mem_map.1 hl
      obtain ⟨rfl, rfl⟩ := List.cons.inj he
      obtain ⟨h1, h2, h3⟩ := mem_freeL.1 hj
      exact ⟨h1, h2, h3, ih.1 hl'⟩
    · rintro ⟨h1, h2, h3, h4⟩
      exact ⟨i, mem_freeL.2 ⟨h1, h2, h3⟩, List.mem_map.2 ⟨l, ih.2 h4, rfl⟩⟩
theorem bit_or {a i j : Nat} : (a ||| 2 ^ i).testBit j = (a.testBit j || decide (i = j)) := by
  rw [Nat.testBit_or, Nat.testBit_two_pow]
theorem way_iff {E : Nat} : ∀ {fs : List Nat} {used : Nat} {l : List Nat}, WayP E fs used l ↔ l.length = fs.length ∧ (∀ j, j < fs.length → gn l j < E ∧ (gn fs j).testBit (gn l j) = true ∧ used.testBit (gn l j) = false) ∧ l.Nodup
  | [], used, [] => by simp [WayP]
  | [], used, _ :: _ => by simp [WayP]
  | f :: fs, used, [] => by simp [WayP]
  | f :: fs, used, i :: l => by
    have ih := way_iff (E := E) (fs := fs) (used := used ||| 2 ^ i) (l := l)
    unfold WayP
    rw [ih]
    constructor
    · rintro ⟨h1, h2, h3, h4, h5, h6⟩
      refine ⟨by simp [h4], fun j hj => ?_, List.nodup_cons.2 ⟨fun hi => ?_, h6⟩⟩
      · cases j with
        | zero => exact ⟨h1, h2, h3⟩
        | succ j =>
          obtain ⟨g1, g2, g3⟩ := h5 j (by simpa using hj)
          rw [bit_or, Bool.or_eq_false_iff] at g3
          exact ⟨g1, g2, g3.1⟩
      · obtain ⟨j, hj, he⟩ := List.getElem_of_mem hi
        obtain ⟨_, _, g3⟩ := h5 j (by omega)
        have : gn l j = i := by unfold gn; rw [List.getD_eq_getElem?_getD, List.getElem?_eq_getElem hj]; exact he
        rw [this, bit_or] at g3
        simp at g3
    · rintro ⟨h1, h2, h3⟩
      obtain ⟨g1, g2, g3⟩ := h2 0 (by simp)
      obtain ⟨hn, hd⟩ := List.nodup_cons.1 h3
      refine ⟨g1, g2, g3, by simpa using h1, fun j hj => ?_, hd⟩
      obtain ⟨k1, k2, k3⟩ := h2 (j + 1) (by simpa using hj)
      refine ⟨k1, k2, ?_⟩
      rw [bit_or, Bool.or_eq_false_iff]
      refine ⟨k3, decide_eq_false fun he => hn ?_⟩
      have hl : j < l.length := by have : (i :: l).length = (f :: fs).length := h1; simp at this; omega
      rw [he]
      unfold gn
      rw [List.getD_eq_getElem?_getD, List.getElem?_eq_getElem hl]
      exact List.getElem_mem hl
/-- In how many ways there are. -/
def countL (E : Nat) (fs : List Nat) (used : Nat) : Nat := (waysL E fs used).length
theorem count_cons (E f : Nat) (fs : List Nat) (used : Nat) : countL E (f :: fs) used = ((freeL E f used).map fun i => countL E fs (used ||| 2 ^ i)).sum := by
  unfold countL
  rw [waysL, List.length_flatMap]
  congr 1
  apply List.map_congr_left
  intro i _
  rw [List.length_map]
theorem free_len (E f used : Nat) : (freeL E f used).length ≤ E := by
  have := List.length_filter_le (fun i => f.testBit i && !used.testBit i) (List.range E)
  rw [List.length_range] at this
  exact this
theorem sum_le {g : Nat → Nat} {B : Nat} : ∀ {l : List Nat}, (∀ x ∈ l, g x ≤ B) → (l.map g).sum ≤ l.length * B
  | [], _ => by simp
  | x :: l, h => by
    have h1 := h x (by simp)
    have h2 := sum_le (g := g) (B := B) (l := l) fun y hy => h y (by simp [hy])
    rw [List.map_cons, List.sum_cons, List.length_cons, Nat.add_mul]
    omega
theorem count_le (E : Nat) : ∀ (fs : List Nat) (used : Nat), countL E fs used ≤ E ^ fs.length
  | [], used => by simp [countL, waysL]
  | f :: fs, used => by
    rw [count_cons]
    refine Nat.le_trans (sum_le fun i _ => count_le E fs (used ||| 2 ^ i)) ?_
    rw [List.length_cons, Nat.pow_succ, Nat.mul_comm]
    exact Nat.mul_le_mul_left _ (free_len E f used)
/-- The ways in which a card has an entry. -/
def withF (fs : List Nat) (c e : Nat) : List Nat := fs.set c (gn fs c &&& 2 ^ e)
def shareL (E : Nat) (fs : List Nat) (c e : Nat) : Nat := countL E (withF fs c e) 0
theorem flat_filter {α : Type} (p q : Nat → Bool) (g : Nat → List α) : ∀ l : List Nat, (l.filter fun i => q i && p i).flatMap g = (l.filter p).flatMap fun i => if q i then g i else []
  | [] => rfl
  | i :: l => by
    have ih := flat_filter p q g l
    rw [List.filter_cons, List.filter_cons]
    cases hp : p i <;> cases hq : q i <;> simp [hq, ih]
theorem share_ways (E : Nat) : ∀ (fs : List Nat) (used c e : Nat), c < fs.length → waysL E (withF fs c e) used = (waysL E fs used).filter fun l => decide (gn l c = e)
  | [], _, _, _, h => by simp at h
  | f :: fs, used, 0, e, _ => by
    show waysL E ((f &&& 2 ^ e) :: fs) used = _
    unfold waysL
    have h1 : freeL E (f &&& 2 ^ e) used = (List.range E).filter fun i => decide (i = e) && (f.testBit i && !used.testBit i) := by
      unfold freeL
      apply List.filter_congr
      intro i _
      rw [Nat.testBit_and, Nat.testBit_two_pow]
      by_cases h : i = e
      · subst h; simp
      · simp [h, Ne.symm h]
    rw [h1, flat_filter, List.filter_flatMap]
    show (freeL E f used).flatMap _ = _
    congr 1
    funext i
    rw [List.filter_map]
    by_cases h : i = e
    · subst h
      rw [if_pos (by simp)]
      congr 1
      symm
      rw [List.filter_eq_self]
      intro l _
      simp [gn]
    · rw [if_neg (by simp [h])]
      symm
      rw [List.map_eq_nil_iff, List.filter_eq_nil_iff]
      intro l _
      simp [gn, h]
  | f :: fs, used, c + 1, e, h => by
    show waysL E (f :: withF fs c e) used = _
    unfold waysL
    rw [List.filter_flatMap]
    congr 1
    funext i
    rw [share_ways E fs (used ||| 2 ^ i) c e (by simpa using h), List.filter_map]
    rfl
theorem share_len {E : Nat} {fs : List Nat} {c e : Nat} (h : c < fs.length) : shareL E fs c e = ((waysL E fs 0).filter fun l => decide (gn l c = e)).length := by
  unfold shareL countL
  rw [share_ways E fs 0 c e h]
/-- How often an entry is had in all ways. -/
def lostN (E : Nat) (fs : List Nat) (e : Nat) : Nat := ((List.range fs.length).map fun c => shareL E fs c e).sum
theorem sum_add {α : Type} (g h : α → Nat) : ∀ l : List α, (l.map fun x => g x + h x).sum = (l.map g).sum + (l.map h).sum
  | [] => rfl
  | x :: l => by simp only [List.map_cons, List.sum_cons, sum_add g h l]; omega
theorem sum_swap (e : Nat) (cs : List Nat) : ∀ W : List (List Nat), (cs.map fun c => (W.filter fun l => decide (gn l c = e)).length).sum = (W.map fun l => cs.countP fun c => decide (gn l c = e)).sum
  | [] => by
    simp only [List.filter_nil, List.length_nil, List.map_nil, List.sum_nil]
    induction cs with
    | nil => rfl
    | cons c cs ih => simp [ih]
  | l :: W => by
    have ih := sum_swap e cs W
    rw [List.map_cons, List.sum_cons, ← ih]
    have h1 : (fun c => ((l :: W).filter fun l => decide (gn l c = e)).length) = fun c => (if gn l c = e then 1 else 0) + (W.filter fun l => decide (gn l c = e)).length := by
      funext c
      rw [List.filter_cons]
      by_cases h : gn l c = e
      · rw [if_pos (by simp [h]), if_pos h, List.length_cons]; omega
      · rw [if_neg (by simp [h]), if_neg h]; omega
    rw [h1, sum_add]
    congr 1
    induction cs with
    | nil => rfl
    | cons c cs ih2 =>
      rw [List.map_cons, List.sum_cons, List.countP_cons]
      have ih3 : (cs.map fun c => if gn l c = e then 1 else 0).sum = cs.countP fun c => decide (gn l c = e) := by
        clear ih ih2 h1
        induction cs with
        | nil => rfl
        | cons d ds ih4 =>
          rw [List.map_cons, List.sum_cons, List.countP_cons, ih4]
          by_cases h : gn l d = e <;> simp [h] <;> omega
      rw [ih3]
      by_cases h : gn l c = e <;> simp [h] <;> omega
theorem countP_le_one {l : List Nat} (hd : l.Nodup) (e : Nat) : ∀ n, n ≤ l.length → ((List.range n).countP fun c => decide (gn l c = e)) ≤ 1 ∧ (((List.range n).countP fun c => decide (gn l c = e)) = 1 → e ∈ l)
  | 0, _ => by simp
  | n + 1, h => by
    obtain ⟨h1, h2⟩ := countP_le_one hd e n (by omega)
    rw [List.range_succ, List.countP_append]
    have hn : gn l n = l[n]'(by omega) := by unfold gn; rw [List.getD_eq_getElem?_getD, List.getElem?_eq_getElem (by omega)]; rfl
    by_cases he : gn l n = e
    · have h0 : ((List.range n).countP fun c => decide (gn l c = e)) = 0 := by
        rw [List.countP_eq_zero]
        intro c hc
        have hc := List.mem_range.1 hc
        have hcn : gn l c = l[c]'(by omega) := by unfold gn; rw [List.getD_eq_getElem?_getD, List.getElem?_eq_getElem (by omega)]; rfl
        intro heq
        have heq := of_decide_eq_true heq
        have := (List.nodup_iff_pairwise_ne.1 hd)
        rw [List.pairwise_iff_getElem] at this
        exact this c n (by omega) (by omega) hc (by rw [← hcn, ← hn, heq, he])
      rw [h0]
      refine ⟨by simp [he], fun _ => ?_⟩
      rw [← he, hn]
      exact List.getElem_mem _
    · have : ([n].countP fun c => decide (gn l c = e)) = 0 := by simp [he]
      rw [this]
      exact ⟨by omega, fun hh => h2 (by omega)⟩
theorem sum_all {α : Type} {g : α → Nat} : ∀ {l : List α}, (∀ x ∈ l, g x ≤ 1) → l.length ≤ (l.map g).sum → ∀ x ∈ l, g x = 1
  | [], _, _, x, hx => by cases hx
  | y :: l, h, hs, x, hx => by
    have hy := h y (by simp)
    have hb : ∀ l' : List α, (∀ x ∈ l', g x ≤ 1) → (l'.map g).sum ≤ l'.length := by
      intro l'
      induction l' with
      | nil => intro _; simp
      | cons z l' ih =>
        intro hz
        have := hz z (by simp)
        have := ih fun w hw => hz w (by simp [hw])
        rw [List.map_cons, List.sum_cons, List.length_cons]
        omega
    have hl := hb l fun z hz => h z (by simp [hz])
    rw [List.map_cons, List.sum_cons, List.length_cons] at hs
    rcases List.mem_cons.1 hx with rfl | hx
    · omega
    · exact sum_all (l := l) (fun z hz => h z (by simp [hz])) (by omega) x hx
/-- What is lost in no way is had in each. -/
theorem lost_law {E : Nat} {fs : List Nat} {e : Nat} {l : List Nat} (hl : l ∈ waysL E fs 0) (h : countL E fs 0 ≤ lostN E fs e) : e ∈ l := by
  have he : lostN E fs e = ((waysL E fs 0).map fun l => (List.range fs.length).countP fun c => decide (gn l c = e)).sum := by
    rw [← sum_swap]
    unfold lostN
    congr 1
    apply List.map_congr_left
    intro c hc
    exact share_len (List.mem_range.1 hc)
  rw [he] at h
  have hle : ∀ x ∈ waysL E fs 0, ((List.range fs.length).countP fun c => decide (gn x c = e)) ≤ 1 := fun x hx => by
    obtain ⟨h1, _, h3⟩ := way_iff.1 (mem_ways.1 hx)
    exact (countP_le_one h3 e fs.length (by omega)).1
  obtain ⟨h1, _, h3⟩ := way_iff.1 (mem_ways.1 hl)
  exact (countP_le_one h3 e fs.length (by omega)).2 (sum_all hle h l hl)
/-- A card can have an entry that no other one has just if it fits. -/
theorem share_law {E : Nat} {fs : List Nat} {k e : Nat} {l : List Nat} (hl : l ∈ waysL E fs 0) (hk : k < fs.length) (he : e < E) (hn : ∀ j, j < fs.length → j ≠ k → gn l j ≠ e) : 0 < shareL E fs k e ↔ (gn fs k).testBit e = true := by
  rw [share_len hk]
  constructor
  · intro h
    obtain ⟨x, hx⟩ := List.exists_mem_of_length_pos h
    rw [List.mem_filter] at hx
    obtain ⟨_, h2, _⟩ := way_iff.1 (mem_ways.1 hx.1)
    have h3 := (h2 k hk).2.1
    rwa [of_decide_eq_true hx.2] at h3
  · intro h
    obtain ⟨h1, h2, h3⟩ := way_iff.1 (mem_ways.1 hl)
    have hg : ∀ j, gn (l.set k e) j = if j = k then e else gn l j := fun j => by
      unfold gn
      rw [List.getD_eq_getElem?_getD, List.getD_eq_getElem?_getD, List.getElem?_set]
      by_cases hj : j = k
      · subst hj; simp [show j < l.length by omega]
      · rw [if_neg (fun hh => hj hh.symm), if_neg hj]
    refine List.length_pos_of_mem (a := l.set k e) (List.mem_filter.2 ⟨mem_ways.2 (way_iff.2 ⟨by simp [h1], fun j hj => ?_, ?_⟩), decide_eq_true (by rw [hg, if_pos rfl])⟩)
    · rw [hg]
      by_cases hjk : j = k
      · subst hjk
        rw [if_pos rfl]
        exact ⟨he, h, by simp⟩
      · rw [if_neg hjk]
        exact h2 j hj
    · rw [List.nodup_iff_pairwise_ne, List.pairwise_iff_getElem] at h3 ⊢
      intro i j hi hj hij
      rw [List.length_set] at hi hj
      have hgl : ∀ j (hj : j < l.length), l[j] = gn l j := fun j hj => by unfold gn; rw [List.getD_eq_getElem?_getD, List.getElem?_eq_getElem hj]; rfl
      rw [List.getElem_set, List.getElem_set]
      by_cases hik : k = i <;> by_cases hjk : k = j
      · omega
      · rw [if_pos hik, if_neg hjk, hgl]
        exact fun hh => hn j (by omega) (fun h => hjk h.symm) hh.symm
      · rw [if_neg hik, if_pos hjk, hgl]
        exact fun hh => hn i (by omega) (fun h => hik h.symm) hh
      · rw [if_neg hik, if_neg hjk]
        exact h3 i j hi hj hij
/-- The first way. -/
def firstL (E : Nat) : List Nat → Nat → List Nat
  | [], _ => []
  | f :: fs, used => match (freeL E f used).find? fun i => decide (0 < countL E fs (used ||| 2 ^ i)) with
    | some i => i :: firstL E fs (used ||| 2 ^ i)
    | none => firstL E fs used
theorem first_mem {E : Nat} : ∀ {fs : List Nat} {used : Nat}, 0 < countL E fs used → firstL E fs used ∈ waysL E fs used
  | [], used, _ => by simp [firstL, waysL]
  | f :: fs, used, h => by
    have hex : ∃ i ∈ freeL E f used, 0 < countL E fs (used ||| 2 ^ i) := by
      obtain ⟨x, hx⟩ := List.exists_mem_of_length_pos h
      unfold waysL at hx
      obtain ⟨i, hi, hx⟩ := List.mem_flatMap.1 hx
      obtain ⟨y, hy, _⟩ := List.mem_map.1 hx
      exact ⟨i, hi, List.length_pos_of_mem hy⟩
    unfold firstL waysL
    cases hf : (freeL E f used).find? fun i => decide (0 < countL E fs (used ||| 2 ^ i)) with
    | none =>
      rw [List.find?_eq_none] at hf
      obtain ⟨i, hi, hc⟩ := hex
      exact absurd (decide_eq_true hc) (by simpa using hf i hi)
    | some i =>
      have h1 := List.mem_of_find?_eq_some hf
      have h2 := List.find?_some hf
      exact List.mem_flatMap.2 ⟨i, h1, List.mem_map.2 ⟨_, first_mem (of_decide_eq_true h2), rfl⟩⟩
end Go.Proofs.YtbnhngfegnhaiaaGreatDoor
namespace Go.Proofs.YtbnhngfegnhaiaaGreatDoor
structure Bx where
  colour : Int
  titles : List ByteArray
structure Tn where
  colour : Int
  number : ByteArray
  text : ByteArray
structure Mx where
  boxes : List Bx
  cards : List Tn
structure En where
  colour : Int
  number : ByteArray
  title : ByteArray
def bx0 : Bx := ⟨0, []⟩
def tn0 : Tn := ⟨0, ByteArray.empty, ByteArray.empty⟩
def en0 : En := ⟨0, ByteArray.empty, ByteArray.empty⟩
def gb (l : List Bx) (k : Nat) : Bx := l.getD k bx0
def gc (l : List Tn) (k : Nat) : Tn := l.getD k tn0
def ge (l : List En) (k : Nat) : En := l.getD k en0
def gs (l : List ByteArray) (k : Nat) : ByteArray := l.getD k ByteArray.empty
/-- The k-th byte of a text. -/
def bt (s : ByteArray) (k : Nat) : Nat := (s.data.toList.getD k 0).toNat
def letB (b : Nat) : Bool := decide (97 ≤ b) && decide (b ≤ 122)
def digB (b : Nat) : Bool := decide (48 ≤ b) && decide (b ≤ 57)
def goodB (b : Nat) : Bool := letB b || digB b || b == 63 || b == 42
/-- So many of the first bytes are so. -/
def cntB (p : Nat → Bool) (s : ByteArray) : Nat → Nat
  | 0 => 0
  | k + 1 => cntB p s k + if p (bt s k) then 1 else 0
def titleOk (s : ByteArray) : Prop := 1 ≤ s.size ∧ s.size ≤ 12 ∧ ∀ k, k < s.size → letB (bt s k) = true
def pieceOk (s : ByteArray) : Prop := s.size ≤ 12 ∧ (∀ k, k < s.size → goodB (bt s k) = true) ∧ cntB (fun b => b == 42) s s.size ≤ 1
def Bx.ok (b : Bx) : Prop := 1 ≤ b.colour ∧ b.colour ≤ 9 ∧ ∀ k, k < b.titles.length → titleOk (gs b.titles k)
def Tn.ok (t : Tn) : Prop := 0 ≤ t.colour ∧ t.colour ≤ 9 ∧ pieceOk t.number ∧ pieceOk t.text
/-- How many cards the first boxes have. -/
def manyB (l : List Bx) : Nat → Nat
  | 0 => 0
  | k + 1 => manyB l k + (gb l k).titles.length
structure Mx.Ok (m : Mx) : Prop where
  nb : m.boxes.length ≤ 4
  nc : m.cards.length ≤ 8
  ne : manyB m.boxes m.boxes.length ≤ 12
  bs : ∀ k, k < m.boxes.length → (gb m.boxes k).ok
  cs : ∀ k, k < m.cards.length → (gc m.cards k).ok
/-- A number from 1 to 99 as it is written. -/
def numT (n : Nat) : ByteArray := if n < 10 then ⟨#[UInt8.ofNat (48 + n)]⟩ else ⟨#[UInt8.ofNat (48 + n / 10), UInt8.ofNat (48 + n % 10)]⟩
/-- The entries of the first titles of a box. -/
def boxE (b : Bx) (k : Nat) : List En := (List.range k).map fun i => ⟨b.colour, numT (i + 1), gs b.titles i⟩
def entsE (l : List Bx) : Nat → List En
  | 0 => []
  | k + 1 => entsE l k ++ boxE (gb l k) (gb l k).titles.length
def Mx.ents (m : Mx) : List En := entsE m.boxes m.boxes.length
/-- Where the star is; -1: nowhere. -/
def starI (s : ByteArray) : Int := Lib.indexByte s.data.toList 42
/-- Can a piece without a star be left of a text? -/
def wholeB (w s : ByteArray) : Bool := decide (w.size = s.size) && (List.range s.size).all fun k => bt w k == 63 || bt w k == bt s k
def endsB (h t s : ByteArray) : Bool := decide (h.size + t.size ≤ s.size) && wholeB h (s.extract 0 h.size) && wholeB t (s.extract (s.size - t.size) s.size)
def suitsB (p s : ByteArray) : Bool :=
  if 0 ≤ starI p then endsB (p.extract 0 (starI p).toNat) (p.extract ((starI p).toNat + 1) p.size) s else wholeB p s
def fitB (t : Tn) (x : En) : Bool := (decide (t.colour = 0) || decide (t.colour = x.colour)) && suitsB t.number x.number && suitsB t.text x.title
/-- The numbers below n that are so, as bits. -/
def bitsN (p : Nat → Bool) : Nat → Nat
  | 0 => 0
  | k + 1 => bitsN p k ||| (if p k then 2 ^ k else 0)
def fitE (es : List En) (t : Tn) : Nat := bitsN (fun i => fitB t (ge es i)) es.length
def Mx.fits (m : Mx) : List Nat := m.cards.map (fitE m.ents)
theorem bitsN_lt (p : Nat → Bool) : ∀ n, bitsN p n < 2 ^ n
  | 0 => by simp [bitsN]
  | n + 1 => by
    unfold bitsN
    have h1 := bitsN_lt p n
    have h2 : 2 ^ n < 2 ^ (n + 1) := Nat.pow_lt_pow_right (by omega) (by omega)
    refine Nat.or_lt_two_pow (by omega) ?_
    split
    · exact h2
    · exact Nat.two_pow_pos _
theorem many_up (l : List Bx) : ∀ n d, manyB l n ≤ manyB l (n + d)
  | _, 0 => Nat.le_refl _
  | n, d + 1 => by
    have := many_up l n d
    show _ ≤ manyB l (n + d) + _
    omega
theorem ents_len (l : List Bx) : ∀ n, (entsE l n).length = manyB l n
  | 0 => rfl
  | n + 1 => by
    unfold entsE manyB
    rw [List.length_append, ents_len l n]
    simp [boxE]
def txt (l : List Nat) : ByteArray := ⟨(l.map UInt8.ofNat).toArray⟩
/-- The boxes and the heap of chapter 10. -/
def heap11 : Mx := ⟨[⟨1, [txt [102, 97, 108, 108, 115], txt [109, 105, 108, 108], txt [112, 97, 115, 115]]⟩, ⟨2, [txt [109, 105, 108, 108], txt [108, 97, 107, 101]]⟩],
  [⟨0, txt [63], txt [109, 105, 42]⟩, ⟨0, txt [42], txt [109, 105, 108, 108]⟩, ⟨0, txt [50], txt [63, 97, 42]⟩]⟩
theorem fits11 : heap11.fits = [10, 10, 16] := by decide +kernel
theorem first11 : heap11.ents.length = 5 ∧ firstL 5 [10, 10, 16] 0 = [1, 3, 4] := by decide +kernel
end Go.Proofs.YtbnhngfegnhaiaaGreatDoor
