/- What can follow a loan, whatever its kind; the rules; the first state. Where the loops over the loans and over the states stand. The states that can be reached by some loans. All that can be reached; what is left behind when a call ends. Check. Opening a cabinet. Where. Slot. The least and the greatest number: one more is added. Misplaced. -/
import Derived.Test.YtbnhngfegnhaiaaGreatDoorC7
import Derived.Laws.CopyRow
import Derived.Laws.IdiomCopy
import Derived.Laws.CopyOwn
namespace Go.Proofs.YtbnhngfegnhaiaaGreatDoor
open Go.RowKit
structure RuleOk (r : Rule) (T : TypeId) (x : Value) : Prop where
  ex : ∃ f, (∀ w, (method (Tryz.prog.types.size + Made.depth) T x "pairworks/lend.allows").run Tryz.prog w = .ok (f, x) w) ∧ (∀ args w, (callFunc f args).run Tryz.prog w = .ok (.enter f args) w) ∧
    ∀ (i : Nat) (l : Ln) (b : Bool) (w : World), Calls Tryz.prog f #[x, .int .i64 i, l.v, .bool b] w fun e w' => e = .returned (.bool (r i l b)) ∧ Below w.heap.size w w'
theorem anything_rule : RuleOk anyRule 90 (.agg #[]) := ⟨125, fun w => by kernel_rfl, fun args w => by simp [callFunc, Tryz.func125, Tryz.f125, go_sem], fun i l b w => anything_any i l b w⟩
theorem IterOk.monoO {P : Program} {g : Nat} {lb : Array Value} {encs : List (Array Value)} {O O' M : Nat → Prop} {W : World} (h : IterOk P g lb encs O M W) (ho : ∀ k, O k → O' k) : IterOk P g lb encs O' M W :=
  fun l J Jx hJ hJx hY h0 => h l J Jx (fun i A B hj hs => hJ i A B hj (hs.mono fun k _ => ho k)) (fun i A B hj hs => hJx i A B hj (hs.mono fun k _ => ho k)) hY h0
/-- What a call hands back that is to be ranged over: these elements, from whatever world. -/
def MovesP (c : Cab) (s : List Int) (l : Ln) (n0 : Nat) (w : World) (e : Ending) (w' : World) : Prop :=
  ∃ gf lb, e = .returned (.func (.func gf) #[] lb) ∧ (∀ args w, (callFunc gf args).run Tryz.prog w = .ok (.enter gf args) w) ∧ Below w.heap.size w w' ∧
    ∀ (M : Nat → Prop) W, (∀ k, M k → n0 ≤ k) → (∀ k, M k → ¬ (w.heap.size ≤ k ∧ k < w'.heap.size)) → Below w'.heap.size w' W → IterOk Tryz.prog gf lb ((step c s l).map encSt) (fun k => w.heap.size ≤ k ∧ k < w'.heap.size) M W
theorem card_in {c : Cab} {l : Ln} (h : c.card l.card = true) : ∃ k : Nat, l.card = k ∧ k < c.homes.length := by
  simp only [Cab.card, inR, Bool.and_eq_true, decide_eq_true_eq] at h
  exact ⟨l.card.toNat, by omega, by omega⟩
theorem heap_alloc2_0 (w : World) (a b : Obj) : ((w.alloc a).alloc b).heap[w.heap.size]? = some a := (Below.heap_alloc _ _ _ (by simp)).trans (World.alloc_heap_new w a)
theorem moves0_any {c : Cab} {bc : Nat} (n0 : Nat) {w : World} {s : List Int} (hs : s.length = c.homes.length) (hn : c.homes.length ≤ 5) {l : Ln} (hk : l.kind = 0) (hl : c.card l.card = true) :
    Calls Tryz.prog 61 #[.pointer (some ⟨bc, 0, none⟩), stV s, l.v] w (MovesP c s l n0 w) := by
  refine (taken_any _ s l w).mono ?_
  rintro e w' ⟨rfl, rfl⟩
  obtain ⟨lk, lc, lp, ls⟩ := l
  obtain ⟨k, hk1, hk2⟩ := card_in hl
  simp only at hk hk1
  subst hk hk1
  refine ⟨79, _, rfl, fun args w => by simp [callFunc, Tryz.func79, Tryz.f79, go_sem], ((Below.refl _ w).alloc (Nat.le_refl _) _).alloc (by simp) _, fun M W _ _ hb => ?_⟩
  have q1 := World.alloc_heap_new (w.alloc (.cells (stA s) 95)) (.cells (Ln.arr ⟨0, k, lp, ls⟩) 37)
  rw [World.size_alloc] at q1
  have h1 := (hb.block w.heap.size (by simp; omega)).trans (heap_alloc2_0 w _ _)
  have h2 := (hb.block (w.heap.size + 1) (by simp)).trans q1
  exact (taken_iter c s k lp ls h1 h2 (by omega) (by omega) M).monoO (fun i hi => by subst hi; simp; omega)
theorem heap3 (w : World) (a b d : Obj) : (((w.alloc a).alloc b).alloc d).heap[w.heap.size]? = some a ∧ (((w.alloc a).alloc b).alloc d).heap[w.heap.size + 1]? = some b ∧ (((w.alloc a).alloc b).alloc d).heap[w.heap.size + 1 + 1]? = some d := by
  refine ⟨(Below.heap_alloc _ _ _ (by simp; omega)).trans (heap_alloc2_0 w a b), (Below.heap_alloc _ _ _ (by simp)).trans ?_, ?_⟩
  · have := World.alloc_heap_new (w.alloc a) b; rwa [World.size_alloc] at this
  · have := World.alloc_heap_new ((w.alloc a).alloc b) d; rwa [World.size_alloc, World.size_alloc] at this
theorem moves1_any {c : Cab} {w0 : World} {bc : Nat} {ah : Option Addr} {ch : Nat} {al : Option Addr} {cl : Nat} (hc : CabP w0 bc c ah ch al cl) {w : World} (hb0 : Below w0.heap.size w0 w) {s : List Int} (hs : s.length = c.homes.length) (hn : c.homes.length ≤ 5)
    (hslots : 0 ≤ c.slots ∧ c.slots ≤ 100) {l : Ln} (hk : l.kind = 1) (hl : c.card l.card = true) :
    Calls Tryz.prog 62 #[.pointer (some ⟨bc, 0, none⟩), stV s, l.v] w (MovesP c s l w0.heap.size w) := by
  refine (back_any _ s l w).mono ?_
  rintro e w' ⟨rfl, rfl⟩
  obtain ⟨lk, lc, lp, ls⟩ := l
  obtain ⟨k, hk1, hk2⟩ := card_in hl
  simp only at hk hk1
  subst hk hk1
  have hbb : Below w.heap.size w (((w.alloc (.cells #[.pointer (some ⟨bc, 0, none⟩)] 82)).alloc (.cells (stA s) 95)).alloc (.cells (Ln.arr ⟨1, k, lp, ls⟩) 37)) := (((Below.refl _ w).alloc (Nat.le_refl _) _).alloc (by simp) _).alloc (by simp; omega) _
  refine ⟨80, _, rfl, fun args w => by simp [callFunc, Tryz.func80, Tryz.f80, go_sem], hbb, fun M W hM1 hM2 hb => ?_⟩
  obtain ⟨q0, q1, q2⟩ := heap3 w (.cells #[.pointer (some ⟨bc, 0, none⟩)] 82) (.cells (stA s) 95) (.cells (Ln.arr ⟨1, k, lp, ls⟩) 37)
  have h0 := (hb.block w.heap.size (by simp; omega)).trans q0
  have h1 := (hb.block (w.heap.size + 1) (by simp)).trans q1
  have h2 := (hb.block (w.heap.size + 1 + 1) (by simp)).trans q2
  have hle := hb0.size
  have hW : Below w0.heap.size w0 W := (hb0.trans (hbb.mono hle)).trans (hb.mono (by simp; omega))
  refine (back_iter c s k lp ls _ M (fun W' hs' => hc.mono (hW.trans (hs'.below hW.size (fun k hk hm => by have := hM1 k hm; omega)))) h0 h1 h2 ?_ ?_ ?_ hn hs (by omega) hslots)
  · exact fun h => hM2 _ h (by simp; omega)
  · exact fun h => hM2 _ h (by simp)
  · exact fun h => hM2 _ h (by simp; omega)
theorem moves2_any {c : Cab} {w0 : World} {bc : Nat} {ah : Option Addr} {ch : Nat} {al : Option Addr} {cl : Nat} (hc : CabP w0 bc c ah ch al cl) {w : World} (hb0 : Below w0.heap.size w0 w) {s : List Int} (hs : s.length = c.homes.length) (hn : c.homes.length ≤ 5)
    {l : Ln} (hk : l.kind = 2) :
    Calls Tryz.prog 64 #[.pointer (some ⟨bc, 0, none⟩), stV s, l.v] w (MovesP c s l w0.heap.size w) := by
  refine (looked_any _ s l w).mono ?_
  rintro e w' ⟨rfl, rfl⟩
  obtain ⟨lk, lc, lp, ls⟩ := l
  simp only at hk
  subst hk
  have hbb : Below w.heap.size w (((w.alloc (.cells #[.pointer (some ⟨bc, 0, none⟩)] 82)).alloc (.cells (stA s) 95)).alloc (.cells (Ln.arr ⟨2, lc, lp, ls⟩) 37)) := (((Below.refl _ w).alloc (Nat.le_refl _) _).alloc (by simp) _).alloc (by simp; omega) _
  refine ⟨81, _, rfl, fun args w => by simp [callFunc, Tryz.func81, Tryz.f81, go_sem], hbb, fun M W hM1 hM2 hb => ?_⟩
  obtain ⟨q0, q1, q2⟩ := heap3 w (.cells #[.pointer (some ⟨bc, 0, none⟩)] 82) (.cells (stA s) 95) (.cells (Ln.arr ⟨2, lc, lp, ls⟩) 37)
  have h0 := (hb.block w.heap.size (by simp; omega)).trans q0
  have h1 := (hb.block (w.heap.size + 1) (by simp)).trans q1
  have h2 := (hb.block (w.heap.size + 1 + 1) (by simp)).trans q2
  have hle := hb0.size
  have hW : Below w0.heap.size w0 W := (hb0.trans (hbb.mono hle)).trans (hb.mono (by simp; omega))
  exact looked_iter c s lc lp ls (hc.mono hW) h0 h1 h2 hn hs _ M
theorem row_of (s : List Int) (h : s.length ≤ 5) : (((s.map fun x => Value.int .i64 x) ++ (stA []).toList.drop s.length).toArray : Array Value) = stA s := by
  match s, h with
  | [], _ => simp
  | [_], _ => simp [gi]
  | [_, _], _ => simp [gi]
  | [_, _, _], _ => simp [gi]
  | [_, _, _, _], _ => simp [gi]
  | [a, b, c, d, e], _ => simp [gi]
  | _ :: _ :: _ :: _ :: _ :: _ :: _, h => simp at h
/-- The homes are copied into a fresh state. -/
theorem copy_homes {w : World} {b : Nat} {ah : Option Addr} {ch : Nat} {s : List Int} (hi : IsInts w ah s) (hn : s.length ≤ 5) (hb : w.heap[b]? = some (.cells (stA []) 95 (0, 0))) :
    ∃ w', (Builtin.copy_ #[30, 30] 3 #[.slice (some ⟨b, 0, none⟩) 5 5, .slice ah s.length ch]).run Tryz.prog w = .ok (goInt s.length) w' ∧ w'.heap[b]? = some (.cells (stA s) 95 (0, 0)) ∧ Same (fun k => k = b) w w' ∧ w'.heap.size = w.heap.size := by
  have hu : Tryz.prog.underlying 30 = some (.slice 3) := Tryz.underlying30
  have hz : (Tryz.prog.info? 3).map (·.size) = some 1 := by kernel_rfl
  by_cases h0 : s = []
  · subst h0
    exact ⟨w, run_copy_none w 30 30 3 3 _ ah 5 5 0 ch hu hz (by simp), hb, Same.refl _ _, rfl⟩
  · have hl : 0 < s.length := List.length_pos_iff.2 h0
    obtain ⟨b', off, rfl, hcell⟩ := hi.at hl
    have hr := run_copy_row Tryz.prog w 30 30 3 3 b 0 5 5 ⟨b', off, none⟩ s.length ch (stA []) 95 (s.map fun x => .int .i64 x) hu hz hb (by rw [List.length_map]; exact (Nat.min_eq_left hn).symm)
      (fun j v hj => by
        rw [List.getElem?_map] at hj
        obtain ⟨hj1, hj2⟩ : j < s.length ∧ .int .i64 (gi s j) = v := by
          cases hg : s[j]? with
          | none => rw [hg] at hj; cases hj
          | some y =>
            rw [hg] at hj
            refine ⟨(List.getElem?_eq_some_iff.1 hg).1, ?_⟩
            cases hj
            simp [gi, hg]
        subst hj2
        have hadd : (⟨b', off, none⟩ : Addr).add j = ⟨b', off + j, none⟩ := by unfold Addr.add; split <;> simp_all
        rw [hadd]
        exact hcell j hj1)
      (by simp; omega) (by simp [Value.oneCell'])
    rw [List.length_map] at hr
    refine ⟨_, hr, ?_, ⟨rfl, rfl, rfl, by simp, fun k _ hk => setRow_other w b k _ hk⟩, by simp⟩
    rw [setRow_heap w b _ _ 95 (0, 0) hb, List.take_zero, List.nil_append, Nat.zero_add, row_of s hn]
end Go.Proofs.YtbnhngfegnhaiaaGreatDoor
namespace Go.Proofs.YtbnhngfegnhaiaaGreatDoor
open Go.RowKit
/-- Where the loop over the loans stands: j loans have been walked. -/
structure PlayAt (c : Cab) (r : Rule) (W : Int) (T : TypeId) (x kv : Value) (w0 : World) (ds : List Deferred) (j b : Nat) (M : List (List Int × Int)) (w : World) : Prop where
  below : Below w0.heap.size w0 w
  box : w.heap[w0.heap.size]? = some (.cells #[.int .i64 W] 3 (0, 0))
  rule : w.heap[w0.heap.size + 1]? = some (.cells #[.iface T x] 110 (0, 0))
  kinds : IsKinds w kv
  map : StMap c.homes.length w b M
  reach : ∀ t, lookM M t = reachF c r W (c.loans.take j) t
  lo : w0.heap.size + 2 ≤ b
  marks : MarksAt w0.heap.size ds w
abbrev encP (p : List Int × Int) : Value × Value := (stV p.1, .int .i64 p.2)
/-- Where the loop over the states stands. -/
structure InAt (c : Cab) (r : Rule) (W : Int) (ds : List Deferred) (j : Nat) (l : Ln) (w : World) (n0 b : Nat) (M D Td Mn : List (List Int × Int)) (w' : World) : Prop where
  below : Below w.heap.size w w'
  num : w'.heap[w.heap.size]? = some (.cells #[.int .i64 j] 3 (0, 0))
  loan : w'.heap[w.heap.size + 1]? = some (.cells l.arr 37 (0, 0))
  box : w'.heap[w.heap.size + 1 + 1 + 1]? = some (.cells #[.map (some (w.heap.size + 1 + 1))] 87 (0, 0))
  rng : Rng Tryz.prog 95 w' b (w.heap.size + 1 + 1 + 1 + 1) (M.map encP) (Td.map encP)
  new : StMap c.homes.length w' (w.heap.size + 1 + 1) Mn
  mem : ∀ p, p ∈ M ↔ p ∈ D ∨ p ∈ Td
  look : ∀ t, lookM Mn t = minF (D.flatMap (contrib c r W j l)) t
  marks : MarksAt n0 ds w'
  size : w.heap.size + 5 ≤ w'.heap.size
theorem StMap.empty {n : Nat} {w : World} {b : Nat} (h : w.heap[b]? = some (.map #[] 0)) : StMap n w b [] := ⟨⟨#[], 0, h, MapKept.stamped_empty 0, rfl, by simp⟩, by simp, by simp⟩
theorem gl_mem {l : List Ln} {k : Nat} (h : k < l.length) : gl l k ∈ l := by
  have : gl l k = l[k] := by simp [gl, h]
  rw [this]; exact List.getElem_mem h
theorem take_snoc {l : List Ln} {k : Nat} (h : k < l.length) : l.take (k + 1) = l.take k ++ [gl l k] := by
  have : gl l k = l[k] := by simp [gl, h]
  rw [this, List.take_append_getElem h]
/-- What a loan's kind leads to. -/
theorem kinds_pick {c : Cab} {l : Ln} (hl : c.loanOk l = true) {w : World} {kv : Value} (hk : IsKinds w kv) {w0 : World} {bc : Nat} {ah : Option Addr} {ch : Nat} {al : Option Addr} {cl : Nat} (hc : CabP w0 bc c ah ch al cl) (hn : c.homes.length ≤ 5)
    (hslots : 0 ≤ c.slots ∧ c.slots ≤ 100) :
    ∃ bk kk mf : Nat, kv = .slice (some ⟨bk, 0, none⟩) 3 3 ∧ l.kind = kk ∧ kk < 3 ∧ w.cell? ⟨bk, kk * 2 + 1, none⟩ = some (.func (.func mf) #[] #[]) ∧ (∀ args w, (callFunc mf args).run Tryz.prog w = .ok (.enter mf args) w) ∧
      ∀ w1 s, Below w0.heap.size w0 w1 → s.length = c.homes.length → Calls Tryz.prog mf #[.pointer (some ⟨bc, 0, none⟩), stV s, l.v] w1 (MovesP c s l w0.heap.size w1) := by
  obtain ⟨bk, rfl, h0, h1, h2, h3, h4, h5⟩ := hk
  unfold Cab.loanOk Cab.lent at hl
  split at hl
  · rename_i hk
    exact ⟨bk, 0, 61, rfl, hk, by omega, h1, fun args w => by simp [callFunc, Tryz.func61, Tryz.f61, go_sem], fun w1 s hb hs => moves0_any _ hs hn hk (by simp at hl; exact hl.1)⟩
  · split at hl
    · rename_i hk
      exact ⟨bk, 1, 62, rfl, hk, by omega, h3, fun args w => by simp [callFunc, Tryz.func62, Tryz.f62, go_sem], fun w1 s hb hs => moves1_any hc hb hs hn hslots hk (by simp at hl; exact hl.1)⟩
    · split at hl
      · rename_i hk
        exact ⟨bk, 2, 64, rfl, hk, by omega, h5, fun args w => by simp [callFunc, Tryz.func64, Tryz.f64, go_sem], fun w1 s hb hs => moves2_any hc hb hs hn hk⟩
      · cases hl
theorem GoodSt.set {n : Nat} {s : List Int} (h : GoodSt n s) (k : Nat) {v : Int} (hv : -1 ≤ v ∧ v ≤ 5) : GoodSt n (s.set k v) :=
  ⟨by rw [List.length_set]; exact h.1, fun x hx => by
    rcases List.mem_or_eq_of_mem_set hx with hx | rfl
    · exact h.2 x hx
    · exact hv⟩
theorem step_good {c : Cab} {n : Nat} {s : List Int} (hs : GoodSt n s) (hslots : c.slots ≤ 6) {l : Ln} {x : List Int × Bool} (hx : x ∈ step c s l) : GoodSt n x.1 := by
  unfold step at hx
  split at hx
  · split at hx
    · simp at hx
    · rw [List.mem_singleton] at hx; subst hx; exact hs.set _ (by omega)
  · split at hx
    · split at hx
      · obtain ⟨y, hy, he⟩ := List.mem_filterMap.1 hx
        have := List.mem_range.1 hy
        split at he
        · cases he; exact hs.set _ (by omega)
        · cases he
      · simp at hx
    · split at hx
      · rw [List.mem_singleton] at hx; subst hx; exact hs
      · simp at hx
/-- What a way that a loan may go adds. -/
def contribOf (r : Rule) (W : Int) (j : Nat) (l : Ln) (n : Int) (x : List Int × Bool) : Option (List Int × Int) :=
  if n + (if x.2 then 1 else 0) ≤ W ∧ r j l x.2 = true then some (x.1, n + (if x.2 then 1 else 0)) else none
theorem contrib_eq (c : Cab) (r : Rule) (W : Int) (j : Nat) (l : Ln) (s : List Int) (n : Int) : contrib c r W j l (s, n) = (step c s l).filterMap (contribOf r W j l n) := rfl
theorem filterMap_take {α β : Type} (f : α → Option β) {l : List α} {k : Nat} {x : α} (h : l[k]? = some x) : (l.take (k + 1)).filterMap f = (l.take k).filterMap f ++ (f x).toList := by
  obtain ⟨hk, rfl⟩ := List.getElem?_eq_some_iff.1 h
  rw [← List.take_append_getElem hk, List.filterMap_append]
  cases hf : f l[k] <;> simp [hf]
theorem map_split {α β : Type} {f : α → β} : ∀ {T : List α} {l1 l2 : List β} {y : β}, T.map f = l1 ++ y :: l2 → ∃ T1 p T2, T = T1 ++ p :: T2 ∧ f p = y ∧ (T1 ++ T2).map f = l1 ++ l2
  | [], l1, l2, y, h => by simp at h
  | t :: T, [], l2, y, h => by
    simp only [List.map_cons, List.nil_append, List.cons.injEq] at h
    exact ⟨[], t, T, rfl, h.1, by simpa using h.2⟩
  | t :: T, z :: l1, l2, y, h => by
    simp only [List.map_cons, List.cons_append, List.cons.injEq] at h
    obtain ⟨T1, p, T2, h1, h2, h3⟩ := map_split h.2
    exact ⟨t :: T1, p, T2, by rw [h1]; rfl, h2, by simp only [List.cons_append, List.map_cons, h3, h.1]⟩
/-- All states walked: the next loan's states. -/
theorem reach_next {c : Cab} {r : Rule} {W : Int} {j : Nat} {M D Mn : List (List Int × Int)} (hj : j < c.loans.length) (hkeys : (M.map (·.1)).Nodup) (hM : ∀ t, lookM M t = reachF c r W (c.loans.take j) t)
    (hmem : ∀ p, p ∈ M ↔ p ∈ D ∨ p ∈ ([] : List (List Int × Int))) (hlook : ∀ t, lookM Mn t = minF (D.flatMap (contrib c r W j (gl c.loans j))) t) : ∀ t, lookM Mn t = reachF c r W (c.loans.take (j + 1)) t := by
  intro t
  have hlen : (c.loans.take j).length = j := by simp; omega
  have := reach_step c r W (c.loans.take j) (gl c.loans j) D (fun t n => by
    rw [← hM t, look_some hkeys, hmem]; simp)
  rw [hlen] at this
  rw [take_snoc hj, this, hlook]
end Go.Proofs.YtbnhngfegnhaiaaGreatDoor
namespace Go.Proofs.YtbnhngfegnhaiaaGreatDoor
open Go.RowKit
attribute [local go_sem] Oper.semAt_some
set_option maxRecDepth 100000 in
set_option maxHeartbeats 4000000 in
theorem play_any (c : Cab) (r : Rule) {T : TypeId} {x : Value} (hr : RuleOk r T x) {w0 : World} {bc : Nat} {ah : Option Addr} {ch : Nat} {al : Option Addr} {cl : Nat} (hc : CabP w0 bc c ah ch al cl) (hn : c.homes.length ≤ 5)
    (hgood : GoodSt c.homes.length c.homes) (hslots : 0 ≤ c.slots ∧ c.slots ≤ 6) (hok : ∀ l ∈ c.loans, c.loanOk l = true) (hcl : c.loans.length ≤ cl)
    (i : Nat) (hi : i ≤ c.loans.length) (hi100 : c.loans.length ≤ 100) (W : Int) (hW : 0 ≤ W ∧ W ≤ 100) :
    Calls Tryz.prog 30 #[.pointer (some ⟨bc, 0, none⟩), .int .i64 i, .int .i64 W, .iface T x] w0 fun e w' => ∃ b M, e = .returned (.map (some b)) ∧ StMap c.homes.length w' b M ∧ (∀ t, lookM M t = reachF c r W (c.loans.take i) t) ∧
      Below w0.heap.size w0 w' ∧ w0.heap.size ≤ b := by
  have hbc := lt_of_cell hc.h
  obtain ⟨f, hmeth, hcall, hcon⟩ := hr.ex
  rw [show Tryz.prog.types.size + Made.depth = 291 from by kernel_rfl] at hmeth
  refine calls_of_wp_marks Tryz.func30 rfl ?_
  simp only [Tryz.ntmps30, List.size_toArray, List.length_cons, List.length_nil, Nat.reduceAdd, Nat.reduceSub, Array.replicate_succ, Array.replicate_zero, List.push_toArray, List.append_toArray, List.nil_append, List.cons_append]
  go_wp2
  have hB1 : Below w0.heap.size w0 (((w0.alloc (.cells #[.int .i64 W] 3)).alloc (.cells #[.iface T x] 110)).alloc (.cells (stA []) 95)) := (((Below.refl _ w0).alloc (Nat.le_refl _) _).alloc (by simp) _).alloc (by simp; omega) _
  obtain ⟨h0, h1, h2⟩ := heap3 w0 (.cells #[.int .i64 W] 3) (.cells #[.iface T x] 110) (.cells (stA []) 95)
  have hsz : (((w0.alloc (.cells #[.int .i64 W] 3)).alloc (.cells #[.iface T x] 110)).alloc (.cells (stA []) 95)).heap.size = w0.heap.size + 3 := by simp
  revert hB1 h0 h1 h2 hsz
  generalize hw1 : (((w0.alloc (.cells #[.int .i64 W] 3)).alloc (.cells #[.iface T x] 110)).alloc (.cells (stA []) 95)) = w1
  intro hB1 h0 h1 h2 hsz
  have hw1' : ((w0.alloc (.cells #[.int .i64 W] 3)).alloc (.cells #[.iface T x] 110)).alloc (.cells #[.int .i64 0, .int .i64 0, .int .i64 0, .int .i64 0, .int .i64 0] 95) = w1 := hw1
  rw [hw1']
  clear hw1 hw1'
  have hc1 := hc.mono hB1
  have cH := hc1.h
  have x1 := fun y : Aft w1.heap.size w1 => cell_stays y.h cH
  refine wp_region_aft_tail 6 mixed (by kernel_rfl) ?_
  simp only [List.take_succ_cons, List.take_zero, List.drop_succ_cons, List.drop_zero]
  repeat (go_big_quiet_step (fail))
  refine wpQuiet_nil ?_
  rintro _ ⟨y, rfl⟩
  have hb2 := y.h
  revert hb2
  generalize y.v = w2
  intro hb2
  clear y x1
  have hc2 := hc1.mono hb2
  obtain ⟨w3, hr3, hf3, hS3, hs3⟩ := copy_homes hc2.hi hn ((hb2.block _ (by omega)).trans h2) (ch := ch)
  have g0 := (hS3.block _ (by have := hb2.size; omega) (by omega)).trans ((hb2.block w0.heap.size (by omega)).trans h0)
  have g1 := (hS3.block _ (by have := hb2.size; omega) (by omega)).trans ((hb2.block (w0.heap.size + 1) (by omega)).trans h1)
  have hB3 : Below w0.heap.size w0 w3 := (hB1.trans (hb2.mono (by omega))).trans (hS3.below (by have := hb2.size; omega) (by omega))
  have hz3 : w0.heap.size + 3 ≤ w3.heap.size := by have := hb2.size; omega
  clear h0 h1 h2 hc1 hc2 hS3 cH hs3
  have hmm : ∀ w : World, (Instr.makeMap 87 none).run Tryz.prog w = .ok (.map (some w.heap.size)) (w.alloc (.map #[] 0)) := fun w => by kernel_rfl
  obtain ⟨w5, hu5, hg5, hs5, hM5⟩ := (MapRaw.made Tryz.prog 95 w3).update keyed78 Tryz.underlying87 hgood.key (.int .i64 0)
  have hM5' : StMap c.homes.length w5 w3.heap.size [(c.homes, 0)] := by
    rcases hM5 with ⟨_, h⟩ | ⟨j, v, h, _⟩
    · exact ⟨h, by simpa using hgood, by simp⟩
    · simp at h
  obtain ⟨f0, f1, f2, f3, f4⟩ := five hf3
  have hlt := lt_of_cell f0
  go_wp2_with fail
  refine (kinds_any w5).mono ?_
  rintro e w6 ⟨⟨kv, rfl, hK6⟩, hb6⟩
  have hB5 : Below w0.heap.size w0 w5 := hB3.trans (((Below.refl _ w3).alloc (by omega) _).grown hg5 (by simp; omega) (by rintro k ⟨⟩; omega))
  have hB6 : Below w0.heap.size w0 w6 := hB5.trans (hb6.mono hB5.size)
  have hS36 : Same (fun _ => False) w3 w6 := (((Same.refl _ w3).alloc _).grown hg5 (by simp)).trans (Same.of_below _ hb6)
  have hM6 : StMap c.homes.length w6 w3.heap.size [(c.homes, 0)] := hM5'.kept (hb6.block _ hM5'.lt)
  have m0 := (hS36.block _ (by omega) (by simp)).trans g0
  have m1 := (hS36.block _ (by omega) (by simp)).trans g1
  clear hu5 hg5 hs5 hM5 hM5' f0 f1 f2 f3 f4 hf3 hr3 hb6 hB5 g0 g1 hS36 hlt hB3 hmm
  revert hM6 hz3
  generalize w3.heap.size = b0
  intro hb0 hM6
  have hc6 := hc.mono hB6
  have l6 := hc6.l
  clear hc6
  go_wp2_with fail
  have hP0 : PlayAt c r W T x kv w0 [] 0 b0 [(c.homes, 0)] w6 := ⟨hB6, m0, m1, hK6, hM6, fun t => by
    rw [List.take_zero, reach_nil c r W hW.1]
    by_cases h : c.homes = t
    · subst h; simp [lookM, minF, addAt]
    · have h' : (c.homes == t) = false := by simpa using h
      simp [lookM, minF, addAt, h', Ne.symm h], by omega, MarksAt.nil _ _⟩
  clear hB6 m0 m1 hK6 hM6 hbc l6 hgood
  refine wp_loop (fun a w => ∃ (j b : Nat) (M : List (List Int × Int)) (u12 u13 u14 u15 u16 u17 u18 u19 u41 u42 u43 u44 u45 u46 u47 u48 u49 u50 u51 u52 u53 u54 u55 u56 u57 u58 u59 u60 u61 u62 u63 u64 u65 u66 u67 u68 u69 u70 u71 u72 u73 u74 u75 u76 u77 u78 u79 u80 u81 u82 u83 u84 : Value) (ds : List Deferred), a = ⟨#[.pointer (some ⟨bc, 0, none⟩), .int .i64 i, .int .i64 W, .iface T x, undef, undef, .pointer (some ⟨w0.heap.size, 0, none⟩), .pointer (some ⟨w0.heap.size + 1, 0, none⟩), .map none, .pointer (some ⟨w0.heap.size + 1 + 1, 0, none⟩), .map (some b), kv, u12, u13, u14, u15, u16, u17, u18, u19, .agg #[.int .i64 0, .int .i64 0, .int .i64 0, .int .i64 0, .int .i64 0], .slice (some ⟨w0.heap.size + 1 + 1, 0, none⟩) 5 5, .pointer (some ⟨bc, 0, none⟩), .pointer (some ⟨bc, 0, none⟩), .pointer (some ⟨bc, 0, none⟩), .pointer (some ⟨bc, 1, none⟩), .slice ah c.homes.length ch, .int .i64 c.homes.length, .map (some b0), stV c.homes, .map (some b0), kv, .pointer (some ⟨bc, 0, none⟩), .pointer (some ⟨bc, 0, none⟩), .pointer (some ⟨bc, 0, none⟩), .pointer (some ⟨bc, 3, none⟩), .slice al c.loans.length cl, .int .i64 i, .slice al i cl, .int .i64 i, .int .i64 j, u41, u42, u43, u44, u45, u46, u47, u48, u49, u50, u51, u52, u53, u54, u55, u56, u57, u58, u59, u60, u61, u62, u63, u64, u65, u66, u67, u68, u69, u70, u71, u72, u73, u74, u75, u76, u77, u78, u79, u80, u81, u82, u83, u84, undef], ds⟩ ∧ j ≤ i ∧ PlayAt c r W T x kv w0 ds j b M w) (fun a _ => i - (intOf (a.tmps.getD 40 undef)).toNat) ⟨0, b0, [(c.homes, 0)], undef, undef, undef, undef, undef, undef, undef, undef, undef, undef, undef, undef, undef, undef, undef, undef, undef, undef, undef, undef, undef, undef, undef, undef, undef, undef, undef, undef, undef, undef, undef, undef, undef, undef, undef, undef, undef, undef, undef, undef, undef, undef, undef, undef, undef, undef, undef, undef, undef, undef, undef, undef, [], rfl, Nat.zero_le _, hP0⟩ ?_
  clear hP0
  rintro a w ⟨j, b, M, u12, u13, u14, u15, u16, u17, u18, u19, u41, u42, u43, u44, u45, u46, u47, u48, u49, u50, u51, u52, u53, u54, u55, u56, u57, u58, u59, u60, u61, u62, u63, u64, u65, u66, u67, u68, u69, u70, u71, u72, u73, u74, u75, u76, u77, u78, u79, u80, u81, u82, u83, u84, ds, rfl, hj, hP⟩
  by_cases hlt : j < i
  · have hcw := hc.mono hP.below
    obtain ⟨bl, ol, rfl, k0, k1, k2, k3⟩ := hcw.li j (by omega)
    have hlok : c.loanOk (gl c.loans j) = true := hok _ (gl_mem (by omega))
    obtain ⟨l, hl⟩ : ∃ l, gl c.loans j = l := ⟨_, rfl⟩
    rw [hl] at k0 k1 k2 k3 hlok
    have HL := Lib.hid hl
    clear hl
    have hwA : Below w.heap.size w ((((w.alloc (.cells #[.int .i64 j] 3)).alloc (.cells l.arr 37)).alloc (.map #[] 0)).alloc (.cells #[.map (some (w.heap.size + 1 + 1))] 87)) :=
      ((((Below.refl _ w).alloc (Nat.le_refl _) _).alloc (by simp) _).alloc (by simp; omega) _).alloc (by simp; omega) _
    obtain ⟨a0, a1, a2⟩ := heap3 w (.cells #[.int .i64 j] 3) (.cells l.arr 37) (.map #[] 0)
    have a0 := (Below.heap_alloc _ (.cells #[.map (some (w.heap.size + 1 + 1))] 87) _ (by simp only [World.size_alloc]; omega)).trans a0
    have a1 := (Below.heap_alloc _ (.cells #[.map (some (w.heap.size + 1 + 1))] 87) _ (by simp only [World.size_alloc]; omega)).trans a1
    have a2 := (Below.heap_alloc _ (.cells #[.map (some (w.heap.size + 1 + 1))] 87) _ (by simp only [World.size_alloc]; omega)).trans a2
    have a3 := World.alloc_heap_new (((w.alloc (.cells #[.int .i64 j] 3)).alloc (.cells l.arr 37)).alloc (.map #[] 0)) (.cells #[.map (some (w.heap.size + 1 + 1))] 87)
    obtain ⟨w8, hrng, hR8, hg8, hs8⟩ := (hP.map.raw.kept (hwA.block b hP.map.lt)).range Tryz.underlying87
    simp only [World.size_alloc] at hrng hR8 hs8 a3
    have hB8 : Below w.heap.size w w8 := hwA.grown hg8 hwA.size (by simp)
    have c0 := (hg8.block w.heap.size (by simp only [World.size_alloc]; omega) (by simp)).trans a0
    have c1 := (hg8.block (w.heap.size + 1) (by simp only [World.size_alloc]; omega) (by simp)).trans a1
    have c2 := (hg8.block (w.heap.size + 1 + 1) (by simp only [World.size_alloc]; omega) (by simp)).trans a2
    have c3 := (hg8.block (w.heap.size + 1 + 1 + 1) (by simp only [World.size_alloc]; omega) (by simp)).trans a3
    have hI0 : InAt c r W ds j l w w0.heap.size b M [] M [] w8 := ⟨hB8, c0, c1, c3, hR8, StMap.empty c2, by simp, by simp [lookM, minF], hP.marks.mono (fun k hk h => (hB8.block k hk).trans h), by omega⟩
    clear a0 a1 a2 a3 hwA c0 c1 c2 c3 hB8 hR8 hg8 hs8
    have hmm : ∀ w : World, (Instr.makeMap 87 none).run Tryz.prog w = .ok (.map (some w.heap.size)) (w.alloc (.map #[] 0)) := fun w => by kernel_rfl
    have hlt' : (j : Int) < (i : Int) := by omega
    have hj100 : (j : Int) ≤ 100 := by omega
    go_wp2_with fail
    obtain ⟨bk, kk, mf, hkv, hkk, hk3, hkf, hmf, hmoves⟩ := kinds_pick hlok hP.kinds hc hn ⟨hslots.1, by omega⟩
    subst hkv
    refine wp_loop (fun a w' => ∃ (D Td Mn : List (List Int × Int)) (u15 u16 u17 u18 u19 u48 u49 u50 u51 u52 u53 u54 u55 u56 u57 u58 u59 u60 u61 u62 u63 u64 u65 u66 u67 u68 u69 u70 u71 u72 u73 u74 u75 u76 u77 u78 u79 u80 u81 u82 : Value) (ds' : List Deferred), a = ⟨#[.pointer (some ⟨bc, 0, none⟩), .int .i64 i, .int .i64 W, .iface T x, undef, undef, .pointer (some ⟨w0.heap.size, 0, none⟩), .pointer (some ⟨w0.heap.size + 1, 0, none⟩), .map none, .pointer (some ⟨w0.heap.size + 1 + 1, 0, none⟩), .map (some b), .slice (some ⟨bk, 0, none⟩) 3 3, .pointer (some ⟨w.heap.size, 0, none⟩), .pointer (some ⟨w.heap.size + 1, 0, none⟩), .pointer (some ⟨w.heap.size + 1 + 1 + 1, 0, none⟩), u15, u16, u17, u18, u19, .agg #[.int .i64 0, .int .i64 0, .int .i64 0, .int .i64 0, .int .i64 0], .slice (some ⟨w0.heap.size + 1 + 1, 0, none⟩) 5 5, .pointer (some ⟨bc, 0, none⟩), .pointer (some ⟨bc, 0, none⟩), .pointer (some ⟨bc, 0, none⟩), .pointer (some ⟨bc, 1, none⟩), .slice ah c.homes.length ch, .int .i64 c.homes.length, .map (some b0), stV c.homes, .map (some b0), .slice (some ⟨bk, 0, none⟩) 3 3, .pointer (some ⟨bc, 0, none⟩), .pointer (some ⟨bc, 0, none⟩), .pointer (some ⟨bc, 0, none⟩), .pointer (some ⟨bc, 3, none⟩), .slice (some ⟨bl, ol, none⟩) c.loans.length cl, .int .i64 i, .slice (some ⟨bl, ol, none⟩) i cl, .int .i64 i, .int .i64 j, .bool true, .int .i64 j, .pointer (some ⟨bl, ol + j * 4, none⟩), l.v, .map (some (w.heap.size + 1 + 1)), .map (some b), .pointer (some ⟨w.heap.size + 1 + 1 + 1 + 1, 0, none⟩), u48, u49, u50, u51, u52, u53, u54, u55, u56, u57, u58, u59, u60, u61, u62, u63, u64, u65, u66, u67, u68, u69, u70, u71, u72, u73, u74, u75, u76, u77, u78, u79, u80, u81, u82, u83, u84, undef], ds'⟩ ∧ InAt c r W ds' j l w w0.heap.size b M D Td Mn w') (fun _ w' => rngLeft w' b (w.heap.size + 1 + 1 + 1 + 1)) ⟨[], M, [], u15, u16, u17, u18, u19, u48, u49, u50, u51, u52, u53, u54, u55, u56, u57, u58, u59, u60, u61, u62, u63, u64, u65, u66, u67, u68, u69, u70, u71, u72, u73, u74, u75, u76, u77, u78, u79, u80, u81, u82, ds, rfl, hI0⟩ ?_
    clear hI0 hrng k0 k1 k2 k3 hmm hlt'
    rintro a w9 ⟨D, Td, Mn, v15, v16, v17, v18, v19, v48, v49, v50, v51, v52, v53, v54, v55, v56, v57, v58, v59, v60, v61, v62, v63, v64, v65, v66, v67, v68, v69, v70, v71, v72, v73, v74, v75, v76, v77, v78, v79, v80, v81, v82, ds', rfl, hI⟩
    rcases hI.rng.next 0 with ⟨htd, hnx⟩ | ⟨kx, vx, l1, l2, w10, htd, hkm, hnx, hR10, hg10, hs10, hent⟩
    · have htd' : Td = [] := by simpa using htd
      subst htd'
      clear htd
      have hbx := cell_of_heap (k := 0) hI.box
      have hbx' : w9.cell? ⟨w.heap.size + 1 + 1 + 1, 0, none⟩ = some (.map (some (w.heap.size + 1 + 1))) := hbx
      have hle := hP.below.size
      have hP' : PlayAt c r W T x (.slice (some ⟨bk, 0, none⟩) 3 3) w0 ds' (j + 1) (w.heap.size + 1 + 1) Mn w9 :=
        ⟨hP.below.trans (hI.below.mono hle), (hI.below.block _ (Array.getElem?_eq_some_iff.1 hP.box).1).trans hP.box, (hI.below.block _ (Array.getElem?_eq_some_iff.1 hP.rule).1).trans hP.rule, hP.kinds.mono hI.below, hI.new,
          reach_next (by omega) hP.map.keys hP.reach hI.mem (by rw [HL.out]; exact hI.look), by omega, hI.marks⟩
      clear hbx hP hI
      go_wp2
      rw [show ((j : Int) + 1) = ((j + 1 : Nat) : Int) from by omega]
      refine ⟨⟨j + 1, w.heap.size + 1 + 1, Mn, _, _, _, _, _, _, _, _, _, _, _, _, _, _, _, _, _, _, _, _, _, _, _, _, _, _, _, _, _, _, _, _, _, _, _, _, _, _, _, _, _, _, _, _, _, _, _, _, _, _, _, _, ds', rfl, by omega, hP'⟩, ?_⟩
      simp [intOf]
      omega
    · obtain ⟨T1, ⟨s, n⟩, T2, rfl, he, hl12⟩ := map_split htd
      have hsn : stV s = kx ∧ Value.int .i64 n = vx := by simpa [encP] using he
      obtain ⟨rfl, rfl⟩ := hsn
      have hsM : (s, n) ∈ M := (hI.mem (s, n)).2 (.inr (by simp))
      have hsg := hP.map.good _ hsM
      have hns := hP.map.small _ hsM
      have hrg := hg10
      rw [← hl12] at hR10
      have hs10' := Lib.hid hs10
      clear he hl12 htd hkm hs10
      go_wp2_with fail
      obtain ⟨T0, hT0⟩ : ∃ T0 : Nat, w10.heap.size = T0 := ⟨_, rfl⟩
      have hs11 := World.alloc_heap_new (w10.alloc (.cells (stA s) 95)) (.cells #[.int .i64 n] 3)
      rw [World.size_alloc] at hs11
      have hq11 := heap_alloc2_0 w10 (.cells (stA s) 95) (.cells #[.int .i64 n] 3)
      have hB1011 : Below w10.heap.size w10 ((w10.alloc (.cells (stA s) 95)).alloc (.cells #[.int .i64 n] 3)) := ((Below.refl _ w10).alloc (Nat.le_refl _) _).alloc (by simp) _
      have hz11 : ((w10.alloc (.cells (stA s) 95)).alloc (.cells #[.int .i64 n] 3)).heap.size = w10.heap.size + 2 := by simp
      revert hs11 hq11 hB1011 hz11
      generalize hw11 : (w10.alloc (.cells (stA s) 95)).alloc (.cells #[.int .i64 n] 3) = w11
      intro hs11 hq11 hB1011 hz11
      clear hw11
      rw [hT0] at hs11 hq11 hB1011 hz11 ⊢
      -- what lies where, when the iterator is made
      have hlo10 : w.heap.size + 5 ≤ T0 := by have := hI.size; have := hg10.size; omega
      have hB911 : Same (fun q => q = w.heap.size + 1 + 1 + 1 + 1) w9 w11 := ((Same.refl _ w9).grown hg10 (by rintro k ⟨⟩; exact .inl rfl)).trans (Same.of_below _ (hT0.symm ▸ hB1011))
      have hB11 : Below w.heap.size w w11 := hI.below.trans (hB911.below (by have := hI.size; omega) (by omega))
      have e1 := (hB911.block (w.heap.size + 1) (by have := hI.size; omega) (by omega)).trans hI.loan
      have e2 := hB911.cell (hI.below.cell (p := ⟨bk, kk * 2 + 1, none⟩) (lt_of_cell hkf) |>.trans hkf) (by have := lt_of_cell hkf; omega)
      obtain ⟨d0, d1, d2, d3, d4⟩ := five hq11
      have l0 : w11.cell? ⟨w.heap.size + 1, 0, none⟩ = some (.int .i64 kk) := by rw [cell_of_heap e1, ← hkk]; rfl
      have l1 : w11.cell? ⟨w.heap.size + 1, 1, none⟩ = some (.int .i64 l.card) := by rw [cell_of_heap e1]; rfl
      have l2 : w11.cell? ⟨w.heap.size + 1, 2, none⟩ = some (.int .i64 l.person) := by rw [cell_of_heap e1]; rfl
      have l3 : w11.cell? ⟨w.heap.size + 1, 3, none⟩ = some (.int .i64 l.slot) := by rw [cell_of_heap e1]; rfl
      have x0 := fun y : Aft w11.heap.size w11 => cell_stays y.h d0
      have x1 := fun y : Aft w11.heap.size w11 => cell_stays y.h d1
      have x2 := fun y : Aft w11.heap.size w11 => cell_stays y.h d2
      have x3 := fun y : Aft w11.heap.size w11 => cell_stays y.h d3
      have x4 := fun y : Aft w11.heap.size w11 => cell_stays y.h d4
      have x5 := fun y : Aft w11.heap.size w11 => cell_stays y.h l0
      have x6 := fun y : Aft w11.heap.size w11 => cell_stays y.h l1
      have x7 := fun y : Aft w11.heap.size w11 => cell_stays y.h l2
      have x8 := fun y : Aft w11.heap.size w11 => cell_stays y.h l3
      have x9 := fun y : Aft w11.heap.size w11 => cell_stays y.h e2
      have HKK := Lib.hid hkk
      clear hkk
      refine wp_region_aft_tail 9 mixed (by kernel_rfl) ?_
      simp only [List.take_succ_cons, List.take_zero, List.drop_succ_cons, List.drop_zero]
      repeat (go_big_quiet_step (fail))
      refine wpQuiet_nil ?_
      rintro _ ⟨y, rfl⟩
      have hb12 := y.h
      revert hb12
      generalize y.v = w12
      intro hb12
      clear x0 x1 x2 x3 x4 x5 x6 x7 x8 x9 y
      go_wp2_with fail
      have hB12 : Below w.heap.size w w12 := hB11.trans (hb12.mono hB11.size)
      have hm := hmoves w12 s (hP.below.trans (hB12.mono hP.below.size)) hsg.1
      have hlv : l.v = .agg #[.int .i64 kk, .int .i64 l.card, .int .i64 l.person, .int .i64 l.slot] := by rw [← HKK.out]
      rw [hlv] at hm
      refine hm.mono ?_
      clear hm hlv
      rintro e w13 ⟨gf, lb, rfl, egf, hb13, hIt⟩
      have hB13 : Below w.heap.size w w13 := hB12.trans (hb13.mono hB12.size)
      have hS913 : Same (fun q => q = w.heap.size + 1 + 1 + 1 + 1) w9 w13 := (hB911.trans (Same.of_below _ hb12)).trans (Same.of_below _ hb13)
      have hle9 := hI.size
      have z13 : T0 + 2 ≤ w12.heap.size ∧ w12.heap.size ≤ w13.heap.size := ⟨by have := hb12.size; omega, hb13.size⟩
      have hle0 := hP.below.size
      have y0 : w13.cell? ⟨w0.heap.size, 0, none⟩ = some (.int .i64 W) := by rw [cell_of_heap ((hB13.block _ (Array.getElem?_eq_some_iff.1 hP.box).1).trans hP.box)]; rfl
      have y1 : w13.cell? ⟨w0.heap.size + 1, 0, none⟩ = some (.iface T x) := by rw [cell_of_heap ((hB13.block _ (Array.getElem?_eq_some_iff.1 hP.rule).1).trans hP.rule)]; rfl
      have y2 : w13.cell? ⟨w.heap.size, 0, none⟩ = some (.int .i64 j) := by rw [cell_of_heap ((hS913.block _ (by omega) (by omega)).trans hI.num)]; rfl
      have e13 := (hS913.block (w.heap.size + 1) (by omega) (by omega)).trans hI.loan
      have y3 : w13.cell? ⟨w.heap.size + 1, 0, none⟩ = some (.int .i64 l.kind) := by rw [cell_of_heap e13]; rfl
      have y4 : w13.cell? ⟨w.heap.size + 1, 1, none⟩ = some (.int .i64 l.card) := by rw [cell_of_heap e13]; rfl
      have y5 : w13.cell? ⟨w.heap.size + 1, 2, none⟩ = some (.int .i64 l.person) := by rw [cell_of_heap e13]; rfl
      have y6 : w13.cell? ⟨w.heap.size + 1, 3, none⟩ = some (.int .i64 l.slot) := by rw [cell_of_heap e13]; rfl
      have y7 : w13.cell? ⟨w.heap.size + 1 + 1 + 1, 0, none⟩ = some (.map (some (w.heap.size + 1 + 1))) := by rw [cell_of_heap ((hS913.block _ (by omega) (by omega)).trans hI.box)]; rfl
      have y8 : w13.cell? ⟨T0 + 1, 0, none⟩ = some (.int .i64 n) := cell_stays hb13 (cell_stays hb12 (by rw [cell_of_heap hs11]; rfl))
      have hn13 : StMap c.homes.length w13 (w.heap.size + 1 + 1) Mn := hI.new.kept (hS913.block _ hI.new.lt (by omega))
      have hS1013 : Same (fun _ => False) w10 w13 := ((Same.of_below _ (hT0.symm ▸ hB1011)).trans (Same.of_below _ hb12)).trans (Same.of_below _ hb13)
      have hs10'' : Hid (T0 = w9.heap.size) := hT0.symm.trans hs10'.out
      clear e13 e1 e2 d0 d1 d2 d3 d4 l0 l1 l2 l3 hs11 hq11 hB1011 hz11 hkf hnx hent
      go_wp2_with fail
      refine wp_rangeFunc (P := Tryz.prog) (gf := gf) (lb := lb) rfl egf ((step c s l).map encSt) (fun q => w12.heap.size ≤ q ∧ q < w13.heap.size) (fun q => q = w.heap.size + 1 + 1 ∨ q = w13.heap.size + 1) ?hps (by omega) (by omega) (by omega) (by omega) ?hit
        (fun k V => Same (fun q => (w12.heap.size ≤ q ∧ q < w13.heap.size) ∨ q = w.heap.size + 1 + 1 ∨ q = w13.heap.size + 1) w13 V ∧ ∃ Mn', StMap c.homes.length V (w.heap.size + 1 + 1) Mn' ∧ ∀ t, lookM Mn' t = minF (D.flatMap (contrib c r W j l) ++ ((step c s l).take k).filterMap (contribOf r W j l n)) t)
        (fun _ _ _ => False) ?hI ?hIx ?h0 ?hround ?hdone ?hstop
      case hps =>
        intro v hv
        obtain ⟨x', _, rfl⟩ := List.mem_map.1 hv
        rfl
      case hit =>
        intro V hb _
        refine hIt _ V ?_ ?_ hb
        · rintro q (h | h) <;> omega
        · rintro q (h | h) <;> omega
      case hI =>
        rintro q A B ⟨hs, Mn', hmn, hlk⟩ hab
        refine ⟨hs.trans (hab.mono (fun q _ h => h.elim .inl (fun e => .inr (.inr e)))), Mn', hmn.kept (hab.block _ hmn.lt ?_), hlk⟩
        rintro (h | h) <;> omega
      case hIx => exact fun _ _ _ _ h _ => h
      case h0 =>
        intro V hb _
        exact ⟨Same.of_below _ hb, Mn, hn13.kept (hb.block _ hn13.lt), fun t => by rw [hI.look]; simp⟩
      case hstop => exact fun _ _ _ _ h => h.elim
      case hround =>
        intro k v hv V hIV hVsz
        obtain ⟨x', hx', rfl⟩ : ∃ x', (step c s l)[k]? = some x' ∧ encSt x' = v := by simpa using hv
        obtain ⟨t, wr⟩ := x'
        obtain ⟨hSV, Mn', hMn', hlk'⟩ := hIV
        have hgt : GoodSt c.homes.length t := step_good hsg hslots.2 (List.mem_of_getElem? hx')
        have HX := Lib.hid hx'
        have nb : ∀ q, q < w12.heap.size → q ≠ w.heap.size + 1 + 1 → ¬ ((w12.heap.size ≤ q ∧ q < w13.heap.size) ∨ q = w.heap.size + 1 + 1 ∨ q = w13.heap.size + 1) := by intro q h1 h2; omega
        have v0 := hSV.cell y0 (nb _ (by omega) (by omega))
        have v1 := hSV.cell y1 (nb _ (by omega) (by omega))
        have v2 := hSV.cell y2 (nb _ (by omega) (by omega))
        have v3 := hSV.cell y3 (nb _ (by omega) (by omega))
        have v4 := hSV.cell y4 (nb _ (by omega) (by omega))
        have v5 := hSV.cell y5 (nb _ (by omega) (by omega))
        have v6 := hSV.cell y6 (nb _ (by omega) (by omega))
        have v7 := hSV.cell y7 (nb _ (by omega) (by omega))
        have v8 := hSV.cell y8 (nb _ (by omega) (by omega))
        clear hv hx' nb y0 y1 y2 y3 y4 y5 y6 y7 y8
        simp only [encSt, List.zip_toArray, List.zip_cons_cons, List.zip_nil_left]
        gi_wp2_with fail
        refine ⟨(Same.refl _ _).alloc _, Below.heap_alloc _ _ _ hVsz, fun V2 hS2 hsz2 => ?_⟩
        have hsz2' : V2.heap.size = V.heap.size + 1 := by simpa using hsz2
        have hV2 : Same (fun q => q = w13.heap.size + 1) V V2 := ((Same.refl _ V).alloc _).trans hS2
        have hnew2 : V2.heap[V.heap.size]? = some (.cells (stA t) 95 (0, 0)) := (hS2.block _ (by simp) (by omega)).trans (World.alloc_heap_new V _)
        have v0 := hV2.cell v0 (by omega)
        have v1 := hV2.cell v1 (by omega)
        have v2 := hV2.cell v2 (by omega)
        have v3 := hV2.cell v3 (by omega)
        have v4 := hV2.cell v4 (by omega)
        have v5 := hV2.cell v5 (by omega)
        have v6 := hV2.cell v6 (by omega)
        have v7 := hV2.cell v7 (by omega)
        have v8 := hV2.cell v8 (by omega)
        obtain ⟨n0, n1, n2, n3, n4⟩ := five hnew2
        have hm2 : StMap c.homes.length V2 (w.heap.size + 1 + 1) Mn' := hMn'.kept (hV2.block _ hMn'.lt (by omega))
        have hSV2 : Same (fun q => (w12.heap.size ≤ q ∧ q < w13.heap.size) ∨ q = w.heap.size + 1 + 1 ∨ q = w13.heap.size + 1) w13 V2 := hSV.trans (hV2.mono (fun q _ h => .inr (.inr h)))
        have finNo : Hid (contribOf r W j l n (t, wr) = none) → ∀ V3, Below V2.heap.size V2 V3 → Same (fun q => q = w.heap.size + 1 + 1 ∨ q = w13.heap.size + 1) V2 V3 ∧ V3.heap[w13.heap.size + 1]? = V2.heap[w13.heap.size + 1]? ∧
            Same (fun q => (w12.heap.size ≤ q ∧ q < w13.heap.size) ∨ q = w.heap.size + 1 + 1 ∨ q = w13.heap.size + 1) w13 V3 ∧ ∃ Mn', StMap c.homes.length V3 (w.heap.size + 1 + 1) Mn' ∧ ∀ t, lookM Mn' t = minF (D.flatMap (contrib c r W j l) ++ ((step c s l).take (k + 1)).filterMap (contribOf r W j l n)) t := by
          intro hcn V3 hb3
          exact ⟨Same.of_below _ hb3, hb3.block _ (by omega), hSV2.trans (Same.of_below _ hb3), Mn', hm2.kept (hb3.block _ hm2.lt), fun t' => by rw [hlk', filterMap_take _ HX.out, hcn.out]; simp⟩
        have finYes : ∀ m, Hid (contribOf r W j l n (t, wr) = some (t, m)) → ∀ V3 V4, Below V2.heap.size V2 V3 → Same (fun q => q = w.heap.size + 1 + 1) V3 V4 → (∃ M'', StMap c.homes.length V4 (w.heap.size + 1 + 1) M'' ∧ ∀ s, lookM M'' s = addAt (lookM Mn') t m s) →
            Same (fun q => q = w.heap.size + 1 + 1 ∨ q = w13.heap.size + 1) V2 V4 ∧ V4.heap[w13.heap.size + 1]? = V2.heap[w13.heap.size + 1]? ∧
            Same (fun q => (w12.heap.size ≤ q ∧ q < w13.heap.size) ∨ q = w.heap.size + 1 + 1 ∨ q = w13.heap.size + 1) w13 V4 ∧ ∃ Mn', StMap c.homes.length V4 (w.heap.size + 1 + 1) Mn' ∧ ∀ t, lookM Mn' t = minF (D.flatMap (contrib c r W j l) ++ ((step c s l).take (k + 1)).filterMap (contribOf r W j l n)) t := by
          rintro m hcn V3 V4 hb3 hs4 ⟨M'', hM'', hl''⟩
          refine ⟨(Same.of_below _ hb3).trans (hs4.mono (fun q _ h => .inl h)), (hs4.block _ (by have := hb3.size; omega) (by omega)).trans (hb3.block _ (by omega)), (hSV2.trans (Same.of_below _ hb3)).trans (hs4.mono (fun q _ h => .inr (.inl h))), M'', hM'', fun t' => ?_⟩
          rw [hl'', filterMap_take _ HX.out, hcn.out, Option.toList_some, ← List.append_assoc, minF_snoc]
          unfold addAt
          simp only [hlk']
        clear hS2 hsz2 hSV hMn' hlk' hnew2
        have g2 := lt_of_cell v2
        have g3 := lt_of_cell v3
        cases wr
        · have hm100 : n + 1 ≤ 101 := by omega
          by_cases hle : n ≤ W
          · cases hrr : r j l false
            · have hcn : Hid (contribOf r W j l n (t, false) = none) := by unfold Hid contribOf; simp [hrr]
              have HR := Lib.hid hrr
              clear hrr finYes
              gi_wp2_with fail
              refine ⟨trivial, rfl, wideAt_calls ((hcon j l false V2).mono ?_)⟩
              rintro e V3 ⟨rfl, hb3⟩
              rw [HR.out]
              gi_wp2_with fail
              exact finNo hcn V3 hb3
            · have hcn : Hid (contribOf r W j l n (t, false) = some (t, n)) := by unfold Hid contribOf; simp [hrr, hle]
              have HR := Lib.hid hrr
              clear hrr finNo
              gi_wp2_with fail
              refine ⟨trivial, rfl, wideAt_calls ((hcon j l false V2).mono ?_)⟩
              rintro e V3 ⟨rfl, hb3⟩
              rw [HR.out]
              have v7 := cell_stays hb3 v7
              have n0 := cell_stays hb3 n0
              have n1 := cell_stays hb3 n1
              have n2 := cell_stays hb3 n2
              have n3 := cell_stays hb3 n3
              have n4 := cell_stays hb3 n4
              gi_wp2_with fail
              refine ⟨trivial, rfl, wideAt_calls ((add_any hn (hm2.kept (hb3.block _ hm2.lt)) t hgt n (by omega)).mono ?_)⟩
              rintro e V4 ⟨rfl, hs4, hM4⟩
              gi_wp2_with fail
              exact finYes n hcn V3 V4 hb3 hs4 hM4
          · have hcn : Hid (contribOf r W j l n (t, false) = none) := by unfold Hid contribOf; simp [hle]
            clear finYes
            have hle : W < n := by omega
            gi_wp2_with fail
            all_goals refine ⟨fun _ _ => trivial, ?_⟩
            all_goals gi_wp2_with fail
            all_goals exact finNo hcn V2 (Below.refl _ _)
        · have hm100 : n + 1 ≤ 101 := by omega
          by_cases hle : n + 1 ≤ W
          · cases hrr : r j l true
            · have hcn : Hid (contribOf r W j l n (t, true) = none) := by unfold Hid contribOf; simp [hrr]
              have HR := Lib.hid hrr
              clear hrr finYes
              gi_wp2_with fail
              refine ⟨trivial, rfl, wideAt_calls ((hcon j l true V2).mono ?_)⟩
              rintro e V3 ⟨rfl, hb3⟩
              rw [HR.out]
              gi_wp2_with fail
              exact finNo hcn V3 hb3
            · have hcn : Hid (contribOf r W j l n (t, true) = some (t, (n + 1))) := by unfold Hid contribOf; simp [hrr, hle]
              have HR := Lib.hid hrr
              clear hrr finNo
              gi_wp2_with fail
              refine ⟨trivial, rfl, wideAt_calls ((hcon j l true V2).mono ?_)⟩
              rintro e V3 ⟨rfl, hb3⟩
              rw [HR.out]
              have v7 := cell_stays hb3 v7
              have n0 := cell_stays hb3 n0
              have n1 := cell_stays hb3 n1
              have n2 := cell_stays hb3 n2
              have n3 := cell_stays hb3 n3
              have n4 := cell_stays hb3 n4
              gi_wp2_with fail
              refine ⟨trivial, rfl, wideAt_calls ((add_any hn (hm2.kept (hb3.block _ hm2.lt)) t hgt (n + 1) (by omega)).mono ?_)⟩
              rintro e V4 ⟨rfl, hs4, hM4⟩
              gi_wp2_with fail
              exact finYes (n + 1) hcn V3 V4 hb3 hs4 hM4
          · have hcn : Hid (contribOf r W j l n (t, true) = none) := by unfold Hid contribOf; simp [hle]
            clear finYes
            have hle : W < n + 1 := by omega
            gi_wp2_with fail
            all_goals refine ⟨fun _ _ => trivial, ?_⟩
            all_goals gi_wp2_with fail
            all_goals exact finNo hcn V2 (Below.refl _ _)
      case hdone =>
        rintro V ⟨hSV, Mn', hMn', hlk'⟩ hopen
        have hs9 := hs10''.out
        have hVb : ∀ q, q < w12.heap.size → q ≠ w.heap.size + 1 + 1 → V.heap[q]? = w13.heap[q]? := fun q h1 h2 => hSV.block q (by omega) (by omega)
        have hrgV : Rng Tryz.prog 95 V b (w.heap.size + 1 + 1 + 1 + 1) (M.map encP) ((T1 ++ T2).map encP) := by
          have hbl := hP.map.lt
          exact hR10.kept ((hVb b (by omega) (by omega)).trans (hS1013.block b (by omega) (by simp))) ((hVb _ (by omega) (by omega)).trans (hS1013.block _ (by omega) (by simp)))
        have hIn : InAt c r W ({ target := .collected w13.heap.size, args := #[] } :: ds') j l w w0.heap.size b M (D ++ [(s, n)]) (T1 ++ T2) Mn' V := by
          refine ⟨hB13.trans (hSV.below hB13.size (fun q hq h => by omega)), (hVb _ (by omega) (by omega)).trans ((hS913.block _ (by omega) (by omega)).trans hI.num), (hVb _ (by omega) (by omega)).trans ((hS913.block _ (by omega) (by omega)).trans hI.loan),
            (hVb _ (by omega) (by omega)).trans ((hS913.block _ (by omega) (by omega)).trans hI.box), hrgV, hMn', fun p => ?_, fun t => ?_, hI.marks.cons (by omega) (by omega) hopen (fun q hq hd => ?_), by have := hSV.size; omega⟩
          · rw [hI.mem]; simp only [List.mem_append, List.mem_cons, List.not_mem_nil, or_false]
            constructor
            · rintro (h | h | h | h)
              · exact .inl (.inl h)
              · exact .inr (.inl h)
              · exact .inl (.inr h)
              · exact .inr (.inr h)
            · rintro ((h | h) | h | h)
              · exact .inl h
              · exact .inr (.inr (.inl h))
              · exact .inr (.inl h)
              · exact .inr (.inr (.inr h))
          · rw [hlk', List.length_map, List.take_length, List.flatMap_append, List.flatMap_singleton, contrib_eq]
          · have hne1 : q ≠ w.heap.size + 1 + 1 := by
              rintro rfl
              obtain ⟨es, clock, hmm', _⟩ := hI.new.raw
              rw [hmm'] at hd; cases hd
            have hne2 : q ≠ w.heap.size + 1 + 1 + 1 + 1 := by
              rintro rfl
              obtain ⟨es, clock, seen, _, _, _, _, hmm', _⟩ := hI.rng
              rw [hmm'] at hd; cases hd
            exact (hVb q (by omega) hne1).trans ((hS913.block q hq hne2).trans hd)
        refine ⟨⟨D ++ [(s, n)], T1 ++ T2, Mn', _, _, _, _, _, _, _, _, _, _, _, _, _, _, _, _, _, _, _, _, _, _, _, _, _, _, _, _, _, _, _, _, _, _, _, _, _, _, _, _, _, rfl, hIn⟩, ?_⟩
        rw [hrgV.left, hI.rng.left]
        simp
  · have hji : j = i := by omega
    subst hji
    go_wp2_with fail
    obtain ⟨ks, rfl, hnd, hall⟩ := hP.marks
    refine leaves_marks (n := w0.heap.size) ks w hnd hall (fun W' hs hsz => ⟨results_tmp rfl _ _ _, b, M, rfl, hP.map.kept (hs.block b hP.map.lt ?_), hP.reach, hP.below.trans (hs.below hP.below.size (fun k hk hm => by have := hm.1; omega)), by have := hP.lo; omega⟩)
    rintro ⟨_, hd⟩
    obtain ⟨es, clock, hm, _⟩ := hP.map.raw
    rw [hm] at hd
    cases hd
end Go.Proofs.YtbnhngfegnhaiaaGreatDoor
namespace Go.Proofs.YtbnhngfegnhaiaaGreatDoor
open Go.RowKit
theorem leaves_ok {fn : Func} {tmps : Array Value} {R : Ending → World → Prop} {f : Nat} {pe : Value} {w : World} (hok : CallsD Tryz.prog f #[pe] .returning w fun e u' w' => e = .returned (.tuple #[]) ∧ u' = .returning ∧ w = w')
    (hcf : ∀ args w, (callFunc f args).run Tryz.prog w = .ok (.enter f args) w) {v : Value} (hv : (results fn tmps).run Tryz.prog w = .ok v w) (hR : R (.returned v) w) :
    Leaves Tryz.prog fn tmps R [{ target := .fn (.func f) #[pe], args := #[] }] .returning w := by
  refine ⟨by simp, _, _, f, #[pe], rfl, ?_, ?_⟩
  · simp [invoke, go_sem, hcf]
  · refine CallsD.mono hok ?_
    rintro e u' w' ⟨rfl, rfl, rfl⟩
    exact ⟨v, hv, hR⟩
theorem leaves_no {fn : Func} {tmps : Array Value} {R : Ending → World → Prop} {f : Nat} {pe : Value} {w w' : World} {c c' : List PanicEntry}
    (hno : CallsD Tryz.prog f #[pe] (.panicking c) w fun e u' w'' => e = .returned (.tuple #[]) ∧ u' = .panicking c' ∧ w'' = w') (hs : settle (.panicking c') = .returning)
    (hcf : ∀ args w, (callFunc f args).run Tryz.prog w = .ok (.enter f args) w) {v : Value} (hv : (results fn tmps).run Tryz.prog w' = .ok v w') (hR : R (.returned v) w') :
    Leaves Tryz.prog fn tmps R [{ target := .fn (.func f) #[pe], args := #[] }] (.panicking c) w := by
  refine ⟨by simp, _, _, f, #[pe], rfl, ?_, ?_⟩
  · simp [invoke, go_sem, hcf]
  · refine CallsD.mono hno ?_
    rintro e u' w'' ⟨rfl, rfl, rfl⟩
    simp only [hs]
    exact ⟨v, hv, hR⟩
theorem res_tc {fn : Func} {p u : Tmp} (h : fn.results = #[.tmp p, .cell u 31]) (tmps : Array Value) {w : World} {b : Nat} {x : Int} (hu : tmps.getD u undef = .pointer (some ⟨b, 0, none⟩)) (hc : w.cell? ⟨b, 0, none⟩ = some (.int .i64 x)) :
    (results fn tmps).run Tryz.prog w = .ok (.tuple #[tmps.getD p undef, .int .i64 x]) w := by
  have hu' : tmps[u]?.getD undef = .pointer (some ⟨b, 0, none⟩) := by simpa using hu
  simp [results, h, hu', hc, go_sem]
theorem res_ttc {fn : Func} {p q u : Tmp} (h : fn.results = #[.tmp p, .tmp q, .cell u 31]) (tmps : Array Value) {w : World} {b : Nat} {x : Int} (hu : tmps.getD u undef = .pointer (some ⟨b, 0, none⟩)) (hc : w.cell? ⟨b, 0, none⟩ = some (.int .i64 x)) :
    (results fn tmps).run Tryz.prog w = .ok (.tuple #[tmps.getD p undef, tmps.getD q undef, .int .i64 x]) w := by
  have hu' : tmps[u]?.getD undef = .pointer (some ⟨b, 0, none⟩) := by simpa using hu
  simp [results, h, hu', hc, go_sem]
theorem valid_parts {c : Cab} (h : c.valid = true) : c.homes.length ≤ 5 ∧ GoodSt c.homes.length c.homes ∧ (1 ≤ c.slots ∧ c.slots ≤ 6) ∧ (∀ l ∈ c.loans, c.loanOk l = true) ∧ c.loans.length ≤ 12 ∧ (0 ≤ c.wrong ∧ c.wrong ≤ 12) := by
  unfold Cab.valid Cab.sizes Cab.homesOk Cab.slotOf inR at h
  simp only [Bool.and_eq_true, decide_eq_true_eq, List.all_eq_true] at h
  obtain ⟨⟨⟨⟨⟨h1, h2⟩, h3⟩, h4⟩, h5, h6⟩, h7⟩ := h
  refine ⟨h2, ⟨rfl, fun x hx => ?_⟩, h1, h7, h4, h3⟩
  have := h6 x hx
  omega
theorem play_valid {c : Cab} {r : Rule} {T : TypeId} {x : Value} (hr : RuleOk r T x) {w : World} {bc : Nat} {ah : Option Addr} {ch : Nat} {al : Option Addr} {cl : Nat} (hc : CabP w bc c ah ch al cl) (hv : c.valid = true) (hcl : c.loans.length ≤ cl)
    (i : Nat) (hi : i ≤ c.loans.length) (W : Int) (hW : 0 ≤ W ∧ W ≤ 100) :
    Calls Tryz.prog 30 #[.pointer (some ⟨bc, 0, none⟩), .int .i64 i, .int .i64 W, .iface T x] w fun e w' => ∃ b M, e = .returned (.map (some b)) ∧ StMap c.homes.length w' b M ∧ (∀ t, lookM M t = reachF c r W (c.loans.take i) t) ∧
      Below w.heap.size w w' ∧ w.heap.size ≤ b := by
  obtain ⟨h1, h2, h3, h4, h5, h6⟩ := valid_parts hv
  exact play_any c r hr hc h1 h2 ⟨by omega, h3.2⟩ h4 hcl i hi (by omega) W hW
theorem map_empty {c : Cab} {r : Rule} {W : Int} {ls : List Ln} {n : Nat} {w : World} {b : Nat} {M : List (List Int × Int)} (hM : StMap n w b M) (h : ∀ t, lookM M t = reachF c r W ls t) : M = [] ↔ truthsBy c r ls W = [] := by
  constructor
  · rintro rfl
    cases ht : truthsBy c r ls W with
    | nil => rfl
    | cons x l =>
      have h1 := h x.1
      have h2 : reachF c r W ls x.1 = none := by rw [← h1]; rfl
      have := minF_none.1 h2 (wrongs x.2 : Int)
      exact absurd (by rw [ht]; simp) this
  · intro ht
    cases hM' : M with
    | nil => rfl
    | cons p M' =>
      have h1 := (look_some hM.keys (t := p.1) (x := p.2)).2 (by rw [hM']; simp)
      rw [h p.1] at h1
      unfold reachF at h1
      rw [ht] at h1
      cases h1
set_option maxRecDepth 100000 in
theorem all_any {c : Cab} {r : Rule} {T : TypeId} {x : Value} (hr : RuleOk r T x) {w : World} {bc : Nat} {ah : Option Addr} {ch : Nat} {al : Option Addr} {cl : Nat} (hc : CabP w bc c ah ch al cl) (hv : c.valid = true) (hcl : c.loans.length ≤ cl) :
    Calls Tryz.prog 52 #[.pointer (some ⟨bc, 0, none⟩), .iface T x] w fun e w' => ∃ b M, e = .returned (.map (some b)) ∧ StMap c.homes.length w' b M ∧ (∀ t, lookM M t = reachF c r c.wrong c.loans t) ∧
      Below w.heap.size w w' ∧ w.heap.size ≤ b := by
  have hbc := lt_of_cell hc.h
  obtain ⟨h1, h2, h3, h4, h5, h6⟩ := valid_parts hv
  have x1 := fun y : Aft w.heap.size w => cell_stays y.h hc.l
  have x2 := fun y : Aft w.heap.size w => cell_stays y.h hc.g
  go_enter Tryz.func52, Tryz.ntmps52
  go_wp2_with fail
  refine wp_region_aft_tail 13 mixed (by kernel_rfl) ?_
  simp only [List.take_succ_cons, List.take_zero, List.drop_succ_cons, List.drop_zero]
  repeat (go_big_quiet_step (fail))
  refine wpQuiet_nil ?_
  rintro _ ⟨y, rfl⟩
  go_wp2_with fail
  refine (play_valid hr (hc.mono y.h) hv hcl c.loans.length (Nat.le_refl _) c.wrong ⟨h6.1, by omega⟩).mono ?_
  rintro e w' ⟨b, M, rfl, hM, hl, hb, hlo⟩
  go_wp2
  go_ret
  refine ⟨b, M, rfl, hM, fun t => ?_, y.h.trans (hb.mono y.h.size), by have := y.h.size; omega⟩
  rw [hl, List.take_length]
end Go.Proofs.YtbnhngfegnhaiaaGreatDoor
namespace Go.Proofs.YtbnhngfegnhaiaaGreatDoor
open Go.RowKit
/-- What a caller hands in. -/
structure Given (w : World) (c : Cab) (ah : Option Addr) (ch : Nat) (al : Option Addr) (cl : Nat) : Prop where
  hi : IsInts w ah c.homes
  li : IsLoans w al c.loans
  hh : c.homes.length ≤ 16
  hl : c.loans.length ≤ 30
  cl : c.loans.length ≤ cl
theorem Given.mono {w w' : World} {c : Cab} {ah : Option Addr} {ch : Nat} {al : Option Addr} {cl : Nat} (h : Given w c ah ch al cl) (hb : Below w.heap.size w w') : Given w' c ah ch al cl :=
  ⟨h.hi.mono hb, h.li.mono hb, h.hh, h.hl, h.cl⟩
theorem cf46 (args : Array Value) (w : World) : (callFunc 27 args).run Tryz.prog w = .ok (.enter 27 args) w := by simp [callFunc, Tryz.func27, Tryz.f27, go_sem]
set_option maxRecDepth 100000 in
set_option maxHeartbeats 1000000 in
theorem check_any {c : Cab} {w : World} {ah : Option Addr} {ch : Nat} {al : Option Addr} {cl : Nat} (hg : Given w c ah ch al cl) :
    Calls Tryz.prog 9 #[c.v ah ch al cl] w fun e w' => e = .returned (.tuple #[.int .i64 (check c).1, .int .i64 (check c).2]) ∧ Below w.heap.size w w' := by
  have hmf : ∀ (fn : Fn) (first cap : Array Value) (w : World), (Instr.makeFunc fn first cap).run Tryz.prog w = .ok (.func fn first cap) w := fun _ _ _ _ => rfl
  go_enter_defers Tryz.func9, Tryz.ntmps9
  have hb1 : Below w.heap.size w ((w.alloc (.cells (c.cells ah ch al cl) 40)).alloc (.cells #[.int .i64 0] 31)) := ((Below.refl _ w).alloc (Nat.le_refl _) _).alloc (by simp) _
  have hz1 : ((w.alloc (.cells (c.cells ah ch al cl) 40)).alloc (.cells #[.int .i64 0] 31)).heap.size = w.heap.size + 2 := by simp
  have he1 : ((w.alloc (.cells (c.cells ah ch al cl) 40)).alloc (.cells #[.int .i64 0] 31)).heap[w.heap.size + 1]? = some (.cells #[.int .i64 0] 31 (0, 0)) := by
    have := World.alloc_heap_new (w.alloc (.cells (c.cells ah ch al cl) 40)) (.cells #[.int .i64 0] 31)
    rwa [World.size_alloc] at this
  have hg1 := hg.mono hb1
  cases hv : c.valid with
  | false =>
    go_wp2_with fail
    refine (look_no hg1.hi hg1.li hg1.hh hg1.hl hv).mono ?_
    rintro e w2 ⟨rfl, hb2⟩
    have he2 := (hb2.block (w.heap.size + 1) (by omega)).trans he1
    have hc2 : w2.cell? ⟨w.heap.size + 1, 0, none⟩ = some (.int .i64 0) := by rw [cell_of_heap he2]; rfl
    have hb3 : Below w.heap.size w ((w2.alloc (.cells #[.int .i64 1] 106)).setCell ⟨w.heap.size + 1, 0, none⟩ (.int .i64 1)) := by
      have h2 := hb1.trans (hb2.mono (by omega))
      exact (h2.alloc h2.size _).setCell (by simp) _
    have hcell : ((w2.alloc (.cells #[.int .i64 1] 106)).setCell ⟨w.heap.size + 1, 0, none⟩ (.int .i64 1)).cell? ⟨w.heap.size + 1, 0, none⟩ = some (.int .i64 1) :=
      World.cell?_setCell_same _ _ _ (cell_stays ((Below.refl _ w2).alloc (Nat.le_refl _) _) hc2)
    refine leaves_no (recov46_no 1 hc2 (frozen_of_heap he2)) rfl cf46 (res_tc rfl _ rfl hcell) ⟨?_, hb3⟩
    unfold check
    rw [hv]
    rfl
  | true =>
    obtain ⟨v1, v2, v3, v4, v5, v6⟩ := valid_parts hv
    go_wp2_with fail
    refine (look_yes hg1.hi hg1.li hg1.hh hg1.hl hv).mono ?_
    rintro e w2 ⟨bc, rfl, hbc, hc, hb2⟩
    have he2 := (hb2.block (w.heap.size + 1) (by omega)).trans he1
    have hB2 := hb1.trans (hb2.mono (by omega))
    have l2 := hc.l
    have hbc2 := lt_of_cell l2
    have hz2 : w.heap.size + 2 ≤ w2.heap.size := by have := hb2.size; omega
    clear hb1 hz1 he1 hg1 hb2
    go_wp2_with fail
    go_loopw [15] (fun i wr => ∃ k : Nat, k ≤ c.loans.length ∧ i = .int .i64 k ∧ Below w2.heap.size w2 wr ∧ check c = checkFrom c (c.loans.length - k) k) (fun i _ => c.loans.length - (intOf i).toNat)
    case atStart => exact ⟨0, by omega, rfl, Below.refl _ _, by unfold check; rw [hv]; rfl⟩
    case round =>
      obtain ⟨k, hk, rfl, hbr, hck⟩ := hrel
      have her := (hbr.block (w.heap.size + 1) (by omega)).trans he2
      have cer : wr.cell? ⟨w.heap.size + 1, 0, none⟩ = some (.int .i64 0) := by rw [cell_of_heap her]; rfl
      have fer : wr.frozen? ⟨w.heap.size + 1, 0, none⟩ = false := frozen_of_heap her
      have hBr := hB2.trans (hbr.mono hB2.size)
      by_cases hlt : k < c.loans.length
      · have hcr := hc.mono hbr
        have gr := hcr.g
        have hp := play_valid anything_rule hcr hv hg.cl (k + 1) (by omega) c.wrong ⟨v6.1, by omega⟩
        rw [show ((k + 1 : Nat) : Int) = (k : Int) + 1 from by omega] at hp
        have h100 : (k : Int) ≤ 100 := by omega
        have h101 : (k : Int) < (c.loans.length : Int) := by omega
        go_wp2_with fail
        refine hp.mono ?_
        rintro e w3 ⟨b, M, rfl, hM, hl, hb3, _⟩
        have hlen := hM.raw.len Tryz.underlying87 3
        rw [List.length_map] at hlen
        have hB3 := hBr.trans (hb3.mono hBr.size)
        have he3 := (hb3.block (w.heap.size + 1) (Array.getElem?_eq_some_iff.1 her).1).trans her
        have ce3 : w3.cell? ⟨w.heap.size + 1, 0, none⟩ = some (.int .i64 0) := by rw [cell_of_heap he3]; rfl
        have fe3 : w3.frozen? ⟨w.heap.size + 1, 0, none⟩ = false := frozen_of_heap he3
        have hstep : check c = if (truthsBy c anyRule (c.loans.take (k + 1)) c.wrong).isEmpty then ((k : Int), 0) else checkFrom c (c.loans.length - (k + 1)) (k + 1) := by
          rw [hck, show c.loans.length - k = (c.loans.length - (k + 1)) + 1 by omega, checkFrom]
        clear hp cer fer her hck
        cases hE : (truthsBy c anyRule (c.loans.take (k + 1)) c.wrong).isEmpty with
        | true =>
          have hM0 := (map_empty hM hl).2 (List.isEmpty_iff.1 hE)
          subst hM0
          have HS := Lib.hid hstep
          have HE := Lib.hid hE
          clear hstep hE
          have hlen' : (Builtin.len_ #[87] 3 #[.map (some b)]).run Tryz.prog w3 = .ok (.int .i64 0) w3 := hlen
          clear hlen
          go_wp2_with fail
          refine leaves_ok (recov46_ok _ _) cf46 (res_tc rfl _ rfl (World.cell?_setCell_same _ _ _ ce3)) ⟨?_, hB3.setCell (by simp) _⟩
          rw [HS.out, HE.out]
          rfl
        | false =>
          have hM0 : (M.length : Int) ≠ 0 := by
            intro h
            have h0 : M = [] := List.length_eq_zero_iff.1 (by omega)
            have := (map_empty hM hl).1 h0
            rw [this] at hE
            cases hE
          have hMb : ((M.length : Int) == 0) = false := by simpa using hM0
          have HS := Lib.hid (hstep.trans (by rw [hE]; rfl) : check c = checkFrom c (c.loans.length - (k + 1)) (k + 1))
          clear hstep hE hM0
          go_wp2_with fail
          go_roundw
          case rel => exact ⟨k + 1, by omega, by go_num, hbr.trans (hb3.mono hbr.size), HS.out⟩
          case measure => simp [intOf]; omega
      · have hkk : k = c.loans.length := by omega
        have HS : Hid (check c = (0, 4)) := by unfold Hid; rw [hck, hkk, Nat.sub_self]; rfl
        clear hck
        subst hkk
        go_wp2_with fail
        refine leaves_ok (recov46_ok _ _) cf46 (res_tc rfl _ rfl (World.cell?_setCell_same _ _ _ cer)) ⟨?_, hBr.setCell (by simp) _⟩
        rw [HS.out]
        rfl
end Go.Proofs.YtbnhngfegnhaiaaGreatDoor
namespace Go.Proofs.YtbnhngfegnhaiaaGreatDoor
open Go.RowKit
/-- What a caller asks of an open cabinet. -/
def Asks (c : Cab) (ah : Option Addr) (ch : Nat) (al : Option Addr) (cl : Nat) (w : World) (qf : Nat) (cap : Array Value) (ok : Bool) : Prop :=
  (∀ args w, (callFunc qf args).run Tryz.prog w = .ok (.enter qf args) w) ∧
  ∀ w' bc, Below w.heap.size w w' → CabP w' bc c ah ch al cl → Calls Tryz.prog qf (#[.pointer (some ⟨bc, 0, none⟩)] ++ cap) w' fun e w'' => e = .returned (.bool ok) ∧ Below w'.heap.size w' w''
theorem asks_always (c : Cab) (ah : Option Addr) (ch : Nat) (al : Option Addr) (cl : Nat) (w : World) : Asks c ah ch al cl w 39 #[] true := by
  refine ⟨fun args w => by simp [callFunc, Tryz.func39, Tryz.f39, go_sem], fun w' bc _ _ => ?_⟩
  simp only [Array.append_empty]
  go_enter Tryz.func39, Tryz.ntmps39
  go_wp2
  go_ret
  exact ⟨rfl, Below.refl _ _⟩
theorem asks_card {c : Cab} (hh : c.homes.length ≤ 16) (ah : Option Addr) (ch : Nat) (al : Option Addr) (cl : Nat) {w : World} {n : Int} {b : Nat} (hb : w.cell? ⟨b, 0, none⟩ = some (.int .i64 n)) :
    Asks c ah ch al cl w 33 #[.pointer (some ⟨b, 0, none⟩)] (c.card n) := by
  refine ⟨fun args w => by simp [callFunc, Tryz.func33, Tryz.f33, go_sem], fun w' bc hw hc => ?_⟩
  have h1 := cell_stays hw hb
  simp only [List.append_toArray, List.cons_append, List.nil_append]
  go_enter Tryz.func33, Tryz.ntmps33
  go_wp2_with (go_at_call 34; refine (isCard_any n hc hh).mono ?_; rintro e w'' ⟨rfl, rfl⟩)
  go_ret
  exact ⟨rfl, Below.refl _ _⟩
theorem asks_slot {c : Cab} (hs : 0 ≤ c.slots ∧ c.slots ≤ 100) (ah : Option Addr) (ch : Nat) (al : Option Addr) (cl : Nat) {w : World} {n : Int} {b : Nat} (hb : w.cell? ⟨b, 0, none⟩ = some (.int .i64 n)) :
    Asks c ah ch al cl w 43 #[.pointer (some ⟨b, 0, none⟩)] (c.slotOf n) := by
  refine ⟨fun args w => by simp [callFunc, Tryz.func43, Tryz.f43, go_sem], fun w' bc hw hc => ?_⟩
  have h1 := cell_stays hw hb
  simp only [List.append_toArray, List.cons_append, List.nil_append]
  go_enter Tryz.func43, Tryz.ntmps43
  go_wp2_with (go_at_call 44; refine (isSlot_any n hc hs).mono ?_; rintro e w'' ⟨rfl, rfl⟩)
  go_ret
  exact ⟨rfl, Below.refl _ _⟩
/-- What is left when all that can be reached was looked at. -/
structure Reached (c : Cab) (r : Rule) (n0 : Nat) (b : Nat) (M : List (List Int × Int)) (w : World) : Prop where
  map : StMap c.homes.length w b M
  look : ∀ t, lookM M t = reachF c r c.wrong c.loans t
  lo : n0 ≤ b
theorem openE_zero {c : Cab} {ok : Bool} (h0 : openE c ok = 0) : c.valid = true ∧ ok = true ∧ truths c ≠ [] := by
  unfold openE at h0
  have hv : c.valid = true := by
    cases hv : c.valid with
    | true => rfl
    | false => simp [hv] at h0
  have hok : ok = true := by
    cases hok : ok with
    | true => rfl
    | false => simp [hv, hok] at h0
  subst hok
  exact ⟨hv, rfl, by intro ht; simp [hv, ht] at h0⟩
set_option maxRecDepth 100000 in
set_option maxHeartbeats 1000000 in
theorem open_ok {c : Cab} {w : World} {ah : Option Addr} {ch : Nat} {al : Option Addr} {cl : Nat} (hg : Given w c ah ch al cl) {qf : Nat} {cap : Array Value} {ok : Bool} (hq : c.valid = true → Asks c ah ch al cl w qf cap ok) (h0 : openE c ok = 0)
    (hcf : ∀ args w, (callFunc qf args).run Tryz.prog w = .ok (.enter qf args) w) :
    Calls Tryz.prog 32 #[c.v ah ch al cl, .func (.func qf) #[] cap] w fun e w' => ∃ bc b M, e = .returned (.tuple #[.pointer (some ⟨bc, 0, none⟩), .map (some b)]) ∧ CabP w' bc c ah ch al cl ∧ Reached c anyRule w.heap.size b M w' ∧ Below w.heap.size w w' := by
  obtain ⟨hv, rfl, ht⟩ := openE_zero h0
  obtain ⟨_, hq⟩ := hq hv
  have hb1 : Below w.heap.size w (w.alloc (.cells (c.cells ah ch al cl) 40)) := (Below.refl _ w).alloc (Nat.le_refl _) _
  have hg1 := hg.mono hb1
  go_enter Tryz.func32, Tryz.ntmps32
  go_wp2_with fail
  refine (look_yes hg1.hi hg1.li hg1.hh hg1.hl hv).mono ?_
  rintro e w2 ⟨bc, rfl, hbc, hc, hb2⟩
  have hB2 := hb1.trans (hb2.mono hb1.size)
  have hqc := hq w2 bc hB2 hc
  go_wp2_with fail
  refine hqc.mono ?_
  rintro e w3 ⟨rfl, hb3⟩
  have hB3 := hB2.trans (hb3.mono hB2.size)
  have hc3 := hc.mono hb3
  go_wp2_with (go_at_call 48; refine (need_yes _ _).mono ?_; rintro e w' ⟨rfl, rfl⟩)
  refine (all_any anything_rule hc3 hv hg.cl).mono ?_
  rintro e w4 ⟨b, M, rfl, hM, hl, hb4, hlo⟩
  have hB4 := hB3.trans (hb4.mono hB3.size)
  have hlen := hM.raw.len Tryz.underlying87 3
  rw [List.length_map] at hlen
  have hMp : M ≠ [] := fun h => ht ((map_empty hM hl).1 h)
  have hMl : (0 : Int) < (M.length : Int) := by have := List.length_pos_iff.2 hMp; omega
  have hMn : 0 < M.length := by omega
  go_wp2_with fail
  refine (need_yes _ _).mono ?_
  rintro e w' ⟨rfl, rfl⟩
  go_wp2_with fail
  go_ret2
  exact ⟨bc, b, M, rfl, hc3.mono hb4, ⟨hM, hl, by have := hB3.size; omega⟩, hB4⟩
set_option maxRecDepth 100000 in
set_option maxHeartbeats 1000000 in
theorem open_no {c : Cab} {w : World} {ah : Option Addr} {ch : Nat} {al : Option Addr} {cl : Nat} (hg : Given w c ah ch al cl) {qf : Nat} {cap : Array Value} {ok : Bool} (hq : c.valid = true → Asks c ah ch al cl w qf cap ok) (h0 : openE c ok ≠ 0)
    (hcf : ∀ args w, (callFunc qf args).run Tryz.prog w = .ok (.enter qf args) w) :
    Calls Tryz.prog 32 #[c.v ah ch al cl, .func (.func qf) #[] cap] w fun e w' => e = .panicked [{ v := .iface 106 (.agg #[.int .i64 (openE c ok)]), recovered := false }] ∧ Below w.heap.size w w' := by
  have hb1 : Below w.heap.size w (w.alloc (.cells (c.cells ah ch al cl) 40)) := (Below.refl _ w).alloc (Nat.le_refl _) _
  have hg1 := hg.mono hb1
  cases hv : c.valid with
  | false =>
    have hE : openE c ok = 1 := by unfold openE; simp [hv]
    rw [hE]
    clear h0 hE
    go_enter Tryz.func32, Tryz.ntmps32
    go_wp2_with fail
    refine (look_no hg1.hi hg1.li hg1.hh hg1.hl hv).mono ?_
    rintro e w2 ⟨rfl, hb2⟩
    exact ⟨rfl, rfl, hb1.trans (hb2.mono hb1.size)⟩
  | true =>
    obtain ⟨_, hq⟩ := hq hv
    cases hok : ok with
    | false =>
      subst hok
      have hE : openE c false = 2 := by unfold openE; simp [hv]
      rw [hE]
      clear h0 hE
      go_enter Tryz.func32, Tryz.ntmps32
      go_wp2_with fail
      refine (look_yes hg1.hi hg1.li hg1.hh hg1.hl hv).mono ?_
      rintro e w2 ⟨bc, rfl, hbc, hc, hb2⟩
      have hB2 := hb1.trans (hb2.mono hb1.size)
      have hqc := hq w2 bc hB2 hc
      go_wp2_with fail
      refine hqc.mono ?_
      rintro e w3 ⟨rfl, hb3⟩
      go_wp2_with (go_at_call 48; refine (need_no _ _).mono ?_; rintro e w' ⟨rfl, rfl⟩)
      exact ⟨rfl, rfl, hB2.trans (hb3.mono hB2.size)⟩
    | true =>
      subst hok
      have ht : truths c = [] := by
        cases ht : truths c with
        | nil => rfl
        | cons x l => exact absurd (by unfold openE; simp [hv, ht]) h0
      have hE : openE c true = 4 := by unfold openE; simp [hv, ht]
      rw [hE]
      clear h0 hE
      go_enter Tryz.func32, Tryz.ntmps32
      go_wp2_with fail
      refine (look_yes hg1.hi hg1.li hg1.hh hg1.hl hv).mono ?_
      rintro e w2 ⟨bc, rfl, hbc, hc, hb2⟩
      have hB2 := hb1.trans (hb2.mono hb1.size)
      have hqc := hq w2 bc hB2 hc
      go_wp2_with fail
      refine hqc.mono ?_
      rintro e w3 ⟨rfl, hb3⟩
      have hB3 := hB2.trans (hb3.mono hB2.size)
      have hc3 := hc.mono hb3
      go_wp2_with (go_at_call 48; refine (need_yes _ _).mono ?_; rintro e w' ⟨rfl, rfl⟩)
      refine (all_any anything_rule hc3 hv hg.cl).mono ?_
      rintro e w4 ⟨b, M, rfl, hM, hl, hb4, hlo⟩
      have hB4 := hB3.trans (hb4.mono hB3.size)
      have hM0 := (map_empty hM hl).2 ht
      subst hM0
      have hlen : (Builtin.len_ #[87] 3 #[.map (some b)]).run Tryz.prog w4 = .ok (.int .i64 0) w4 := hM.raw.len Tryz.underlying87 3
      clear ht
      go_wp2_with (go_at_call 48; refine (need_no _ _).mono ?_; rintro e w' ⟨rfl, rfl⟩)
      exact ⟨rfl, rfl, hB4⟩
end Go.Proofs.YtbnhngfegnhaiaaGreatDoor
namespace Go.Proofs.YtbnhngfegnhaiaaGreatDoor
open Go.RowKit
/-- What is reached is what is true. -/
theorem Reached.keys {c : Cab} {r : Rule} {n0 b : Nat} {M : List (List Int × Int)} {w : World} (h : Reached c r n0 b M w) (t : List Int) : (∃ n, (t, n) ∈ M) ↔ ∃ bs, (t, bs) ∈ truthsBy c r c.loans c.wrong := by
  rw [← reach_true]
  constructor
  · rintro ⟨n, hn⟩; exact ⟨n, by rw [← h.look, look_some h.map.keys]; exact hn⟩
  · rintro ⟨n, hn⟩; exact ⟨n, by rw [← h.look, look_some h.map.keys] at hn; exact hn⟩
/-- Where card k lies, by so many states; whether it is out in one. -/
def placesOf (k : Nat) (D : List (List Int × Int)) : List Nat := (D.filter fun p => !decide (gi p.1 k = -1)).map fun p => (gi p.1 k).toNat
def outOf (k : Nat) (D : List (List Int × Int)) : Bool := D.any fun p => decide (gi p.1 k = -1)
theorem whereE_of {c : Cab} {k : Nat} (h0 : openE c (c.card k) = 0) {n0 b : Nat} {M D : List (List Int × Int)} {w : World} (hR : Reached c anyRule n0 b M w) (hmem : ∀ p, p ∈ M ↔ p ∈ D) :
    whereE c k = ((bitsOf (placesOf k D) : Int), outOf k D, 0) := by
  have hk : ∀ t, (∃ n, (t, n) ∈ D) ↔ ∃ bs, (t, bs) ∈ truths c := fun t => by
    have := hR.keys t
    simp only [hmem] at this
    exact this
  unfold whereE
  rw [if_pos h0]
  have e1 : bitsOf ((((truths c).map fun x => gi x.1 (k : Int).toNat).filter fun s => !decide (s = -1)).map Int.toNat) = bitsOf (placesOf k D) := by
    apply bitsOf_ext
    intro j
    simp only [placesOf, List.mem_map, List.mem_filter, Int.toNat_natCast]
    constructor
    · rintro ⟨s, ⟨⟨x, hx, rfl⟩, hs⟩, rfl⟩
      obtain ⟨n, hn⟩ := (hk x.1).2 ⟨x.2, hx⟩
      exact ⟨(x.1, n), ⟨hn, hs⟩, rfl⟩
    · rintro ⟨p, ⟨hp, hs⟩, rfl⟩
      obtain ⟨bs, hb⟩ := (hk p.1).1 ⟨p.2, hp⟩
      exact ⟨_, ⟨⟨_, hb, rfl⟩, hs⟩, rfl⟩
  have e2 : ((truths c).map fun x => gi x.1 (k : Int).toNat).any (fun s => decide (s = -1)) = outOf k D := by
    rw [Bool.eq_iff_iff]
    simp only [outOf, List.any_eq_true, List.mem_map, Int.toNat_natCast, decide_eq_true_eq]
    constructor
    · rintro ⟨s, ⟨x, hx, rfl⟩, hs⟩
      obtain ⟨n, hn⟩ := (hk x.1).2 ⟨x.2, hx⟩
      exact ⟨(x.1, n), hn, hs⟩
    · rintro ⟨p, hp, hs⟩
      obtain ⟨bs, hb⟩ := (hk p.1).1 ⟨p.2, hp⟩
      exact ⟨_, ⟨_, hb, rfl⟩, hs⟩
  simp only [e1, e2]
theorem wrap_two {j : Nat} (h : j ≤ 12) : wrap64 (2 ^ j) = ((2 ^ j : Nat) : Int) := by
  have : j = 0 ∨ j = 1 ∨ j = 2 ∨ j = 3 ∨ j = 4 ∨ j = 5 ∨ j = 6 ∨ j = 7 ∨ j = 8 ∨ j = 9 ∨ j = 10 ∨ j = 11 ∨ j = 12 := by omega
  rcases this with rfl | rfl | rfl | rfl | rfl | rfl | rfl | rfl | rfl | rfl | rfl | rfl | rfl <;> decide +kernel
theorem two_lt {j : Nat} (h : j ≤ 12) : 2 ^ j < 2 ^ 62 := Nat.pow_lt_pow_right (by decide) (by omega)
theorem mem_step {M D T1 T2 : List (List Int × Int)} {x : List Int × Int} (h : ∀ p, p ∈ M ↔ p ∈ D ∨ p ∈ T1 ++ x :: T2) : ∀ p, p ∈ M ↔ p ∈ D ++ [x] ∨ p ∈ T1 ++ T2 := fun p => by
  rw [h]
  simp only [List.mem_append, List.mem_cons, List.not_mem_nil, or_false]
  constructor
  · rintro (h | h | h | h)
    · exact .inl (.inl h)
    · exact .inr (.inl h)
    · exact .inl (.inr h)
    · exact .inr (.inr h)
  · rintro ((h | h) | h | h)
    · exact .inl h
    · exact .inr (.inr (.inl h))
    · exact .inr (.inl h)
    · exact .inr (.inr (.inr h))
theorem places_in {k : Nat} {s : List Int} (h : gi s k ≠ -1) (m : Int) (D : List (List Int × Int)) : placesOf k (D ++ [(s, m)]) = placesOf k D ++ [(gi s k).toNat] ∧ outOf k (D ++ [(s, m)]) = outOf k D := by
  simp [placesOf, outOf, h]
theorem places_out {k : Nat} {s : List Int} (h : gi s k = -1) (m : Int) (D : List (List Int × Int)) : placesOf k (D ++ [(s, m)]) = placesOf k D ∧ outOf k (D ++ [(s, m)]) = true := by
  simp [placesOf, outOf, h]
theorem places_small {k : Nat} {n : Nat} {D : List (List Int × Int)} (h : ∀ p ∈ D, GoodSt n p.1) : bitsOf (placesOf k D) < 2 ^ 62 := by
  have : bitsOf (placesOf k D) < 2 ^ 6 := bitsOf_lt (fun j hj => by
    obtain ⟨p, hp, rfl⟩ := List.mem_map.1 hj
    have := (h p ((List.mem_filter.1 hp).1)).gi k
    omega)
  omega
theorem stL_at (s : List Int) (k : Nat) : ∀ h, ([.int .i64 (gi s 0), .int .i64 (gi s 1), .int .i64 (gi s 2), .int .i64 (gi s 3), .int .i64 (gi s 4)] : List Value)[k]'h = .int .i64 (gi s k) := fun h => by
  have := stL_get s k (by simpa using h)
  rw [List.getElem?_eq_getElem h] at this
  exact Option.some.inj this
theorem cf50 (args : Array Value) (w : World) : (callFunc 31 args).run Tryz.prog w = .ok (.enter 31 args) w := by simp [callFunc, Tryz.func31, Tryz.f31, go_sem]
set_option maxRecDepth 100000 in
set_option maxHeartbeats 1000000 in
theorem where_any {c : Cab} {w : World} {ah : Option Addr} {ch : Nat} {al : Option Addr} {cl : Nat} (hg : Given w c ah ch al cl) (n : Int) :
    Calls Tryz.prog 10 #[c.v ah ch al cl, .int .i64 n] w fun e w' => e = .returned (.tuple #[.int .i64 (whereE c n).1, .bool (whereE c n).2.1, .int .i64 (whereE c n).2.2]) ∧ Below w.heap.size w w' := by
  have hmf : ∀ (fn : Fn) (first cap : Array Value) (w : World), (Instr.makeFunc fn first cap).run Tryz.prog w = .ok (.func fn first cap) w := fun _ _ _ _ => rfl
  go_enter_defers Tryz.func10, Tryz.ntmps10
  go_wp2_with fail
  have hb1 : Below w.heap.size w (((w.alloc (.cells (c.cells ah ch al cl) 40)).alloc (.cells #[.int .i64 n] 3)).alloc (.cells #[.int .i64 0] 31)) := (((Below.refl _ w).alloc (Nat.le_refl _) _).alloc (by simp) _).alloc (by simp; omega) _
  obtain ⟨_, q1, q2⟩ := heap3 w (.cells (c.cells ah ch al cl) 40) (.cells #[.int .i64 n] 3) (.cells #[.int .i64 0] 31)
  have hg1 := hg.mono hb1
  have hz1 : (((w.alloc (.cells (c.cells ah ch al cl) 40)).alloc (.cells #[.int .i64 n] 3)).alloc (.cells #[.int .i64 0] 31)).heap.size = w.heap.size + 3 := by simp
  revert hb1 q1 q2 hg1 hz1
  generalize (((w.alloc (.cells (c.cells ah ch al cl) 40)).alloc (.cells #[.int .i64 n] 3)).alloc (.cells #[.int .i64 0] 31)) = w1
  intro hb1 q1 q2 hg1 hz1
  have hasks := asks_card hg.hh ah ch al cl (w := w1) (n := n) (b := w.heap.size + 1) (by rw [cell_of_heap q1]; rfl)
  by_cases h0 : openE c (c.card n) = 0
  · obtain ⟨hv, hcard, ht⟩ := openE_zero h0
    obtain ⟨v1, v2, v3, v4, v5, v6⟩ := valid_parts hv
    obtain ⟨k, hk1, hk2⟩ := card_in (c := c) (l := ⟨0, n, 0, 0⟩) hcard
    simp only at hk1
    subst hk1
    refine (open_ok hg1 (fun _ => hasks) h0 hasks.1).mono ?_
    rintro e w2 ⟨bc, b, M, rfl, hc, hR, hb2⟩
    have e3 := (hb2.block (w.heap.size + 1) (by omega)).trans q1
    have e4 := (hb2.block (w.heap.size + 1 + 1) (by omega)).trans q2
    have hz2 : w.heap.size + 3 ≤ w2.heap.size := by have := hb2.size; omega
    have hB2 : Below w.heap.size w w2 := hb1.trans (hb2.mono (by omega))
    obtain ⟨w3, hrng, hR3, hg3, hs3⟩ := hR.map.raw.range Tryz.underlying87
    have hB3 : Below w2.heap.size w2 w3 := (Below.refl _ w2).grown hg3 (Nat.le_refl _) (by simp)
    clear hb1 q1 q2 hg1 hz1 hb2 hs3 hasks
    have HW : Hid (∀ D, (∀ p, p ∈ M ↔ p ∈ D) → whereE c k = ((bitsOf (placesOf k D) : Int), outOf k D, 0)) := fun D hD => whereE_of h0 hR hD
    go_wp2_with fail
    go_loopw [4, 5] (fun a o wr => ∃ (D Td : List (List Int × Int)), a = .int .i64 (bitsOf (placesOf k D)) ∧ o = .bool (outOf k D) ∧ Below w2.heap.size w2 wr ∧ Rng Tryz.prog 95 wr b w2.heap.size (M.map encP) (Td.map encP) ∧ (∀ p, p ∈ M ↔ p ∈ D ∨ p ∈ Td)) (fun _ _ wr => rngLeft wr b w2.heap.size)
    case atStart => exact ⟨[], M, rfl, rfl, hB3, hR3, by simp⟩
    case round =>
      obtain ⟨D, Td, rfl, rfl, hbr, hRg, hmem⟩ := hrel
      have hHM := Lib.hid hmem
      clear hmem hrng
      rcases hRg.next 0 with ⟨htd, hnx⟩ | ⟨kx, vx, l1, l2, w10, htd, hkm, hnx, hR10, hg10, hs10, hent⟩
      · have htd' : Td = [] := by simpa using htd
        subst htd'
        clear htd
        have e5 := (hbr.block (w.heap.size + 1 + 1) (by omega)).trans e4
        have ce5 : wr.cell? ⟨w.heap.size + 1 + 1, 0, none⟩ = some (.int .i64 0) := by rw [cell_of_heap e5]; rfl
        have fe5 : wr.frozen? ⟨w.heap.size + 1 + 1, 0, none⟩ = false := frozen_of_heap e5
        have hBr := hB2.trans (hbr.mono (by omega))
        go_wp2_with fail
        refine leaves_ok (recov50_ok _ _) cf50 (res_ttc rfl _ rfl (World.cell?_setCell_same _ _ _ ce5)) ⟨?_, hBr.setCell (by simp; omega) _⟩
        rw [HW.out D (fun p => by rw [hHM.out]; simp)]
        rfl
      · obtain ⟨T1, ⟨s, m⟩, T2, rfl, he, hl12⟩ := map_split htd
        have hsn : stV s = kx ∧ Value.int .i64 m = vx := by simpa [encP] using he
        obtain ⟨rfl, rfl⟩ := hsn
        have hsM : (s, m) ∈ M := (hHM.out (s, m)).2 (.inr (by simp))
        have hsg : GoodSt c.homes.length s := hR.map.good _ hsM
        rw [← hl12] at hR10
        have hs10' := Lib.hid hs10
        clear he hl12 htd hkm hs10
        have e5 := (hbr.block (w.heap.size + 1) (by omega)).trans e3
        have e6 := (hg10.block (w.heap.size + 1) (by have := hbr.size; omega) (by simp; omega)).trans e5
        have ck : w10.cell? ⟨w.heap.size + 1, 0, none⟩ = some (.int .i64 k) := by rw [cell_of_heap e6]; rfl
        have gk := lt_of_cell ck
        have hgl := stL_at s k
        have hgs := hsg.gi k
        have hk5 : k < 5 := by omega
        have hb10 : Below w2.heap.size w2 w10 := hbr.grown hg10 hbr.size (by rintro q ⟨⟩; omega)
        have hbA : Below w2.heap.size w2 (w10.alloc (.cells (stA s) 95)) := hb10.alloc hb10.size _
        have hRA : Rng Tryz.prog 95 (w10.alloc (.cells (stA s) 95)) b w2.heap.size (M.map encP) ((T1 ++ T2).map encP) := hR10.kept (Below.heap_alloc _ _ _ hR10.raw.lt) (Below.heap_alloc _ _ _ hR10.lt)
        by_cases hout : gi s k = -1
        · have hb' : (gi s k == -1) = true := by simp [hout]
          have HO := Lib.hid hout
          clear hout
          go_wp2_with fail
          go_roundw
          case rel => exact ⟨D ++ [(s, m)], T1 ++ T2, by rw [(places_out HO.out m D).1], by rw [(places_out HO.out m D).2], hbA, hRA, mem_step hHM.out⟩
          case measure =>
            rw [hRA.left, hRg.left]
            simp
        · have hb' : (gi s k == -1) = false := by simpa using hout
          obtain ⟨jn, hjn, hj5⟩ : ∃ jn : Nat, gi s k = jn ∧ jn ≤ 5 := ⟨(gi s k).toNat, by omega, by omega⟩
          have HO := Lib.hid hout
          have HJ := Lib.hid hjn
          obtain ⟨z, hz⟩ : ∃ z : Nat, 2 ^ jn = z := ⟨_, rfl⟩
          have hwr := wrap_two (j := jn) (by omega)
          have hzl := two_lt (j := jn) (by omega)
          rw [hz] at hwr hzl
          have HZ := Lib.hid hz
          have hbj : ((jn : Int) == -1) = false := by rw [← hjn]; exact hb'
          have hbb : bitsOf (placesOf k D) < 2 ^ 62 := places_small (fun p hp => hR.map.good p ((hHM.out p).2 (.inl hp)))
          clear hout hb' hz
          go_wp2_with fail
          have hq := World.alloc_heap_new (w10.alloc (.cells (stA s) 95)) (.cells #[.int .i64 (bitsOf (placesOf k D)), .int .i64 z] 3)
          rw [World.size_alloc] at hq
          refine (union_any (bitsOf (placesOf k D)) z hbb hzl (by rw [cell_of_heap hq]; rfl) (by rw [cell_of_heap hq]; rfl)).mono ?_
          rintro e w12 ⟨rfl, rfl⟩
          go_wp2_with fail
          go_roundw
          case rel =>
            refine ⟨D ++ [(s, m)], T1 ++ T2, ?_, by rw [(places_in HO.out m D).2], hbA.alloc (by rw [World.size_alloc]; have := hbA.size; rw [World.size_alloc] at this; omega) _, hRA.kept (Below.heap_alloc _ _ _ ?_) (Below.heap_alloc _ _ _ ?_), mem_step hHM.out⟩
            · rw [(places_in HO.out m D).1, bitsOf_snoc, HJ.out, Int.toNat_natCast, HZ.out]
            · exact hRA.raw.lt
            · exact hRA.lt
          case measure =>
            rw [(hRA.kept (Below.heap_alloc _ _ _ hRA.raw.lt) (Below.heap_alloc _ _ _ hRA.lt)).left, hRg.left]
            simp
  · refine (open_no hg1 (fun _ => hasks) h0 hasks.1).mono ?_
    rintro e w2 ⟨rfl, hb2⟩
    have he2 := (hb2.block (w.heap.size + 1 + 1) (by omega)).trans q2
    have hc2 : w2.cell? ⟨w.heap.size + 1 + 1, 0, none⟩ = some (.int .i64 0) := by rw [cell_of_heap he2]; rfl
    have hb3 : Below w.heap.size w ((w2.alloc (.cells #[.int .i64 (openE c (c.card n))] 106)).setCell ⟨w.heap.size + 1 + 1, 0, none⟩ (.int .i64 (openE c (c.card n)))) := by
      have h2 := hb1.trans (hb2.mono (by omega))
      exact (h2.alloc h2.size _).setCell (by simp; omega) _
    have hcell := World.cell?_setCell_same (w2.alloc (.cells #[.int .i64 (openE c (c.card n))] 106)) ⟨w.heap.size + 1 + 1, 0, none⟩ (.int .i64 (openE c (c.card n))) (cell_stays ((Below.refl _ w2).alloc (Nat.le_refl _) _) hc2)
    refine leaves_no (recov50_no _ hc2 (frozen_of_heap he2)) rfl cf50 (res_ttc rfl _ rfl hcell) ⟨?_, hb3⟩
    unfold whereE
    rw [if_neg h0]
    rfl
end Go.Proofs.YtbnhngfegnhaiaaGreatDoor
namespace Go.Proofs.YtbnhngfegnhaiaaGreatDoor
open Go.RowKit
theorem liesFrom_in : ∀ (l : List Int) (slot : Int) (k : Nat), liesFrom l slot k = -1 ∨ ((k : Int) ≤ liesFrom l slot k ∧ liesFrom l slot k < (k : Int) + l.length)
  | [], _, _ => .inl rfl
  | x :: r, slot, k => by
    unfold liesFrom
    split
    · right; simp; omega
    · rcases liesFrom_in r slot (k + 1) with h | h
      · exact .inl h
      · right; simp only [List.length_cons]; omega
theorem lies_in (l : List Int) (slot : Int) : lies l slot = -1 ∨ (0 ≤ lies l slot ∧ lies l slot < l.length) := by
  rcases liesFrom_in l slot 0 with h | h
  · exact .inl h
  · right; unfold lies; omega
/-- Which cards lie in a slot, by so many states; whether none does in one. -/
def cardsOf (k : Int) (D : List (List Int × Int)) : List Nat := (D.filter fun p => !decide (lies p.1 k = -1)).map fun p => (lies p.1 k).toNat
def emptyOf (k : Int) (D : List (List Int × Int)) : Bool := D.any fun p => decide (lies p.1 k = -1)
theorem slotE_of {c : Cab} {k : Int} (h0 : openE c (c.slotOf k) = 0) {n0 b : Nat} {M D : List (List Int × Int)} {w : World} (hR : Reached c anyRule n0 b M w) (hmem : ∀ p, p ∈ M ↔ p ∈ D) :
    slotE c k = ((bitsOf (cardsOf k D) : Int), emptyOf k D, 0) := by
  have hk : ∀ t, (∃ n, (t, n) ∈ D) ↔ ∃ bs, (t, bs) ∈ truths c := fun t => by
    have := hR.keys t
    simp only [hmem] at this
    exact this
  unfold slotE
  rw [if_pos h0]
  have e1 : bitsOf ((((truths c).map fun x => lies x.1 k).filter fun s => !decide (s = -1)).map Int.toNat) = bitsOf (cardsOf k D) := by
    apply bitsOf_ext
    intro j
    simp only [cardsOf, List.mem_map, List.mem_filter]
    constructor
    · rintro ⟨s, ⟨⟨x, hx, rfl⟩, hs⟩, rfl⟩
      obtain ⟨n, hn⟩ := (hk x.1).2 ⟨x.2, hx⟩
      exact ⟨(x.1, n), ⟨hn, hs⟩, rfl⟩
    · rintro ⟨p, ⟨hp, hs⟩, rfl⟩
      obtain ⟨bs, hb⟩ := (hk p.1).1 ⟨p.2, hp⟩
      exact ⟨_, ⟨⟨_, hb, rfl⟩, hs⟩, rfl⟩
  have e2 : ((truths c).map fun x => lies x.1 k).any (fun s => decide (s = -1)) = emptyOf k D := by
    rw [Bool.eq_iff_iff]
    simp only [emptyOf, List.any_eq_true, List.mem_map, decide_eq_true_eq]
    constructor
    · rintro ⟨s, ⟨x, hx, rfl⟩, hs⟩
      obtain ⟨n, hn⟩ := (hk x.1).2 ⟨x.2, hx⟩
      exact ⟨(x.1, n), hn, hs⟩
    · rintro ⟨p, hp, hs⟩
      obtain ⟨bs, hb⟩ := (hk p.1).1 ⟨p.2, hp⟩
      exact ⟨_, ⟨_, hb, rfl⟩, hs⟩
  simp only [e1, e2]
theorem cards_in {k : Int} {s : List Int} (h : lies s k ≠ -1) (m : Int) (D : List (List Int × Int)) : cardsOf k (D ++ [(s, m)]) = cardsOf k D ++ [(lies s k).toNat] ∧ emptyOf k (D ++ [(s, m)]) = emptyOf k D := by
  simp [cardsOf, emptyOf, h]
theorem cards_out {k : Int} {s : List Int} (h : lies s k = -1) (m : Int) (D : List (List Int × Int)) : cardsOf k (D ++ [(s, m)]) = cardsOf k D ∧ emptyOf k (D ++ [(s, m)]) = true := by
  simp [cardsOf, emptyOf, h]
theorem cards_small {k : Int} {n : Nat} (hn : n ≤ 5) {D : List (List Int × Int)} (h : ∀ p ∈ D, GoodSt n p.1) : bitsOf (cardsOf k D) < 2 ^ 62 := by
  have : bitsOf (cardsOf k D) < 2 ^ 6 := bitsOf_lt (fun j hj => by
    obtain ⟨p, hp, rfl⟩ := List.mem_map.1 hj
    have := (h p (List.mem_filter.1 hp).1).1
    rcases lies_in p.1 k with h | h <;> omega)
  omega
theorem cf58 (args : Array Value) (w : World) : (callFunc 42 args).run Tryz.prog w = .ok (.enter 42 args) w := by simp [callFunc, Tryz.func42, Tryz.f42, go_sem]
set_option maxRecDepth 100000 in
set_option maxHeartbeats 1000000 in
theorem slot_any {c : Cab} {w : World} {ah : Option Addr} {ch : Nat} {al : Option Addr} {cl : Nat} (hg : Given w c ah ch al cl) (n : Int) :
    Calls Tryz.prog 14 #[c.v ah ch al cl, .int .i64 n] w fun e w' => e = .returned (.tuple #[.int .i64 (slotE c n).1, .bool (slotE c n).2.1, .int .i64 (slotE c n).2.2]) ∧ Below w.heap.size w w' := by
  have hmf : ∀ (fn : Fn) (first cap : Array Value) (w : World), (Instr.makeFunc fn first cap).run Tryz.prog w = .ok (.func fn first cap) w := fun _ _ _ _ => rfl
  go_enter_defers Tryz.func14, Tryz.ntmps14
  go_wp2_with fail
  have hb1 : Below w.heap.size w (((w.alloc (.cells (c.cells ah ch al cl) 40)).alloc (.cells #[.int .i64 n] 3)).alloc (.cells #[.int .i64 0] 31)) := (((Below.refl _ w).alloc (Nat.le_refl _) _).alloc (by simp) _).alloc (by simp; omega) _
  obtain ⟨_, q1, q2⟩ := heap3 w (.cells (c.cells ah ch al cl) 40) (.cells #[.int .i64 n] 3) (.cells #[.int .i64 0] 31)
  have hg1 := hg.mono hb1
  have hz1 : (((w.alloc (.cells (c.cells ah ch al cl) 40)).alloc (.cells #[.int .i64 n] 3)).alloc (.cells #[.int .i64 0] 31)).heap.size = w.heap.size + 3 := by simp
  revert hb1 q1 q2 hg1 hz1
  generalize (((w.alloc (.cells (c.cells ah ch al cl) 40)).alloc (.cells #[.int .i64 n] 3)).alloc (.cells #[.int .i64 0] 31)) = w1
  intro hb1 q1 q2 hg1 hz1
  have hasks : c.valid = true → Asks c ah ch al cl w1 43 #[.pointer (some ⟨w.heap.size + 1, 0, none⟩)] (c.slotOf n) := fun hv => asks_slot (by have := (valid_parts hv).2.2.1; omega) ah ch al cl (w := w1) (n := n) (b := w.heap.size + 1) (by rw [cell_of_heap q1]; rfl)
  have hcf : ∀ args w, (callFunc 43 args).run Tryz.prog w = .ok (.enter 43 args) w := fun args w => by simp [callFunc, Tryz.func43, Tryz.f43, go_sem]
  by_cases h0 : openE c (c.slotOf n) = 0
  · obtain ⟨hv, hslot, ht⟩ := openE_zero h0
    obtain ⟨v1, v2, v3, v4, v5, v6⟩ := valid_parts hv
    refine (open_ok hg1 hasks h0 hcf).mono ?_
    rintro e w2 ⟨bc, b, M, rfl, hc, hR, hb2⟩
    have e3 := (hb2.block (w.heap.size + 1) (by omega)).trans q1
    have e4 := (hb2.block (w.heap.size + 1 + 1) (by omega)).trans q2
    have hz2 : w.heap.size + 3 ≤ w2.heap.size := by have := hb2.size; omega
    have hB2 : Below w.heap.size w w2 := hb1.trans (hb2.mono (by omega))
    obtain ⟨w3, hrng, hR3, hg3, hs3⟩ := hR.map.raw.range Tryz.underlying87
    have hB3 : Below w2.heap.size w2 w3 := (Below.refl _ w2).grown hg3 (Nat.le_refl _) (by simp)
    clear hb1 q1 q2 hg1 hz1 hb2 hs3 hasks hcf
    have HW : Hid (∀ D, (∀ p, p ∈ M ↔ p ∈ D) → slotE c n = ((bitsOf (cardsOf n D) : Int), emptyOf n D, 0)) := fun D hD => slotE_of h0 hR hD
    go_wp2_with fail
    go_loopw [4, 5] (fun a o wr => ∃ (D Td : List (List Int × Int)), a = .int .i64 (bitsOf (cardsOf n D)) ∧ o = .bool (emptyOf n D) ∧ Below w2.heap.size w2 wr ∧ Rng Tryz.prog 95 wr b w2.heap.size (M.map encP) (Td.map encP) ∧ (∀ p, p ∈ M ↔ p ∈ D ∨ p ∈ Td)) (fun _ _ wr => rngLeft wr b w2.heap.size)
    case atStart => exact ⟨[], M, rfl, rfl, hB3, hR3, by simp⟩
    case round =>
      obtain ⟨D, Td, rfl, rfl, hbr, hRg, hmem⟩ := hrel
      have hHM := Lib.hid hmem
      clear hmem hrng
      rcases hRg.next 0 with ⟨htd, hnx⟩ | ⟨kx, vx, l1, l2, w10, htd, hkm, hnx, hR10, hg10, hs10, hent⟩
      · have htd' : Td = [] := by simpa using htd
        subst htd'
        clear htd
        have e5 := (hbr.block (w.heap.size + 1 + 1) (by omega)).trans e4
        have ce5 : wr.cell? ⟨w.heap.size + 1 + 1, 0, none⟩ = some (.int .i64 0) := by rw [cell_of_heap e5]; rfl
        have fe5 : wr.frozen? ⟨w.heap.size + 1 + 1, 0, none⟩ = false := frozen_of_heap e5
        have hBr := hB2.trans (hbr.mono (by omega))
        go_wp2_with fail
        refine leaves_ok (recov58_ok _ _) cf58 (res_ttc rfl _ rfl (World.cell?_setCell_same _ _ _ ce5)) ⟨?_, hBr.setCell (by simp; omega) _⟩
        rw [HW.out D (fun p => by rw [hHM.out]; simp)]
        rfl
      · obtain ⟨T1, ⟨s, m⟩, T2, rfl, he, hl12⟩ := map_split htd
        have hsn : stV s = kx ∧ Value.int .i64 m = vx := by simpa [encP] using he
        obtain ⟨rfl, rfl⟩ := hsn
        have hsM : (s, m) ∈ M := (hHM.out (s, m)).2 (.inr (by simp))
        have hsg : GoodSt c.homes.length s := hR.map.good _ hsM
        rw [← hl12] at hR10
        have hs10' := Lib.hid hs10
        clear he hl12 htd hkm hs10
        have hb10 : Below w2.heap.size w2 w10 := hbr.grown hg10 hbr.size (by rintro q ⟨⟩; omega)
        have hbA : Below w2.heap.size w2 (w10.alloc (.cells (stA s) 95)) := hb10.alloc hb10.size _
        have hRA : Rng Tryz.prog 95 (w10.alloc (.cells (stA s) 95)) b w2.heap.size (M.map encP) ((T1 ++ T2).map encP) := hR10.kept (Below.heap_alloc _ _ _ hR10.raw.lt) (Below.heap_alloc _ _ _ hR10.lt)
        have e6 := (hbA.block (w.heap.size + 1) (by omega)).trans e3
        have ck : (w10.alloc (.cells (stA s) 95)).cell? ⟨w.heap.size + 1, 0, none⟩ = some (.int .i64 n) := by rw [cell_of_heap e6]; rfl
        go_wp2_with fail
        refine (lies_any s n (hc.mono hbA) v1 hsg.1).mono ?_
        rintro e w11 ⟨rfl, hb11⟩
        have hbB := hbA.trans (hb11.mono hbA.size)
        have hRB : Rng Tryz.prog 95 w11 b w2.heap.size (M.map encP) ((T1 ++ T2).map encP) := hRA.kept (hb11.block _ hRA.raw.lt) (hb11.block _ hRA.lt)
        clear ck e6
        by_cases hout : lies s n = -1
        · have hb' : (lies s n == -1) = true := by simp [hout]
          have HO := Lib.hid hout
          clear hout
          go_wp2_with fail
          go_roundw
          case rel => exact ⟨D ++ [(s, m)], T1 ++ T2, by rw [(cards_out HO.out m D).1], by rw [(cards_out HO.out m D).2], hbB, hRB, mem_step hHM.out⟩
          case measure =>
            rw [hRB.left, hRg.left]
            simp
        · have hb' : (lies s n == -1) = false := by simpa using hout
          have hsl := hsg.1
          obtain ⟨jn, hjn, hj5⟩ : ∃ jn : Nat, lies s n = jn ∧ jn ≤ 5 := ⟨(lies s n).toNat, by rcases lies_in s n with h | h <;> omega, by rcases lies_in s n with h | h <;> omega⟩
          have HO := Lib.hid hout
          have HJ := Lib.hid hjn
          obtain ⟨z, hz⟩ : ∃ z : Nat, 2 ^ jn = z := ⟨_, rfl⟩
          have hwr := wrap_two (j := jn) (by omega)
          have hzl := two_lt (j := jn) (by omega)
          rw [hz] at hwr hzl
          have HZ := Lib.hid hz
          have hbj : ((jn : Int) == -1) = false := by rw [← hjn]; exact hb'
          have hbb : bitsOf (cardsOf n D) < 2 ^ 62 := cards_small v1 (fun p hp => hR.map.good p ((hHM.out p).2 (.inl hp)))
          clear hout hb' hz hsl
          go_wp2_with fail
          have hq := World.alloc_heap_new w11 (.cells #[.int .i64 (bitsOf (cardsOf n D)), .int .i64 z] 3)
          refine (union_any (bitsOf (cardsOf n D)) z hbb hzl (by rw [cell_of_heap hq]; rfl) (by rw [cell_of_heap hq]; rfl)).mono ?_
          rintro e w12 ⟨rfl, rfl⟩
          go_wp2_with fail
          go_roundw
          case rel =>
            refine ⟨D ++ [(s, m)], T1 ++ T2, ?_, by rw [(cards_in HO.out m D).2], hbB.alloc hbB.size _, hRB.kept (Below.heap_alloc _ _ _ hRB.raw.lt) (Below.heap_alloc _ _ _ hRB.lt), mem_step hHM.out⟩
            rw [(cards_in HO.out m D).1, bitsOf_snoc, HJ.out, Int.toNat_natCast, HZ.out]
          case measure =>
            rw [(hRB.kept (Below.heap_alloc _ _ _ hRB.raw.lt) (Below.heap_alloc _ _ _ hRB.lt)).left, hRg.left]
            simp
  · refine (open_no hg1 hasks h0 hcf).mono ?_
    rintro e w2 ⟨rfl, hb2⟩
    have he2 := (hb2.block (w.heap.size + 1 + 1) (by omega)).trans q2
    have hc2 : w2.cell? ⟨w.heap.size + 1 + 1, 0, none⟩ = some (.int .i64 0) := by rw [cell_of_heap he2]; rfl
    have hb3 : Below w.heap.size w ((w2.alloc (.cells #[.int .i64 (openE c (c.slotOf n))] 106)).setCell ⟨w.heap.size + 1 + 1, 0, none⟩ (.int .i64 (openE c (c.slotOf n)))) := by
      have h2 := hb1.trans (hb2.mono (by omega))
      exact (h2.alloc h2.size _).setCell (by simp; omega) _
    have hcell := World.cell?_setCell_same (w2.alloc (.cells #[.int .i64 (openE c (c.slotOf n))] 106)) ⟨w.heap.size + 1 + 1, 0, none⟩ (.int .i64 (openE c (c.slotOf n))) (cell_stays ((Below.refl _ w2).alloc (Nat.le_refl _) _) hc2)
    refine leaves_no (recov58_no _ hc2 (frozen_of_heap he2)) rfl cf58 (res_ttc rfl _ rfl hcell) ⟨?_, hb3⟩
    unfold slotE
    rw [if_neg h0]
    rfl
end Go.Proofs.YtbnhngfegnhaiaaGreatDoor
namespace Go.Proofs.YtbnhngfegnhaiaaGreatDoor
open Go.RowKit
set_option maxHeartbeats 1000000 in
theorem endsAdd_any (x : Int) {b : Nat} {lo hi : Int} {s : Bool} {w : World} (h : EndsAt w b lo hi s) :
    Calls Tryz.prog 40 #[.pointer (some ⟨b, 0, none⟩), .int .i64 x] w fun e w' => e = .returned (.tuple #[]) ∧ EndsAt w' b (if s then min lo x else x) (if s then max hi x else x) true ∧ Same (fun k => k = b) w w' := by
  obtain ⟨h0, h1, h2, hf⟩ := h.cells
  have f0 := hf 0
  have f1 := hf 1
  have f2 := hf 2
  clear hf
  have H := Lib.hid h
  clear h
  have hS : ∀ (k : Nat) (v : Value) (u : World), Same (fun k => k = b) w u → Same (fun k => k = b) w (u.setCell ⟨b, k, none⟩ v) := fun k v u hu => hu.setCell (.inl rfl) v
  cases s
  · go_enter Tryz.func40, Tryz.ntmps40
    go_wp2
    go_region
    go_end0
    refine ⟨rfl, ?_, (hS _ _ _ (hS _ _ _ (hS _ _ _ (hS _ _ _ (hS _ _ _ (Same.refl _ w)))))).drew⟩
    have e1 := heap_setCell_at (k := 0) H.out (.int .i64 x)
    have e2 := heap_setCell_at (k := 1) e1 (.int .i64 x)
    have e3 := heap_setCell_at (k := 2) e2 (.bool true)
    have e4 := heap_setCell_at (k := 0) e3 (.int .i64 x)
    have e5 := heap_setCell_at (k := 1) e4 (.int .i64 x)
    exact e5
  · go_enter Tryz.func40, Tryz.ntmps40
    go_wp2
    go_region
    go_end0
    refine ⟨rfl, ?_, (hS _ _ _ (hS _ _ _ (Same.refl _ w))).drew⟩
    have e1 := heap_setCell_at (k := 0) H.out (.int .i64 (if x < lo then x else lo))
    have e2 := heap_setCell_at (k := 1) e1 (.int .i64 (if hi < x then x else hi))
    have m1 : min lo x = if x < lo then x else lo := by split <;> omega
    have m2 : max hi x = if hi < x then x else hi := by split <;> omega
    simp only [if_true, m1, m2]
    exact e2
end Go.Proofs.YtbnhngfegnhaiaaGreatDoor
namespace Go.Proofs.YtbnhngfegnhaiaaGreatDoor
open Go.RowKit
theorem minL_snoc (l : List Nat) (x : Nat) : minL (l ++ [x]) = if l = [] then x else min (minL l) x := by
  cases l with
  | nil => rfl
  | cons y l => simp [minL, List.foldl_append]
theorem maxL_snoc (l : List Nat) (x : Nat) : maxL (l ++ [x]) = max (maxL l) x := by simp [maxL, List.foldl_append]
theorem minL_aux : ∀ (l : List Nat) (x : Nat), l.foldl min x ≤ x ∧ (∀ y ∈ l, l.foldl min x ≤ y) ∧ (l.foldl min x = x ∨ l.foldl min x ∈ l)
  | [], x => ⟨Nat.le_refl _, by simp, .inl rfl⟩
  | y :: l, x => by
    obtain ⟨h1, h2, h3⟩ := minL_aux l (min x y)
    rw [List.foldl_cons]
    refine ⟨by omega, fun z hz => ?_, ?_⟩
    · rcases List.mem_cons.1 hz with rfl | hz
      · omega
      · exact h2 z hz
    · rcases h3 with h3 | h3
      · rw [h3]
        rcases Nat.le_total x y with h | h
        · left; omega
        · right; rw [Nat.min_eq_right h]; simp
      · right; simp [h3]
theorem minL_spec {l : List Nat} (h : l ≠ []) : minL l ∈ l ∧ ∀ y ∈ l, minL l ≤ y := by
  cases l with
  | nil => exact absurd rfl h
  | cons x l =>
    obtain ⟨h1, h2, h3⟩ := minL_aux l x
    refine ⟨?_, fun y hy => ?_⟩
    · show l.foldl min x ∈ x :: l
      rcases h3 with h3 | h3
      · rw [h3]; simp
      · simp [h3]
    · show l.foldl min x ≤ y
      rcases List.mem_cons.1 hy with rfl | hy
      · exact h1
      · exact h2 y hy
theorem maxL_aux : ∀ (l : List Nat) (x : Nat), x ≤ l.foldl max x ∧ (∀ y ∈ l, y ≤ l.foldl max x) ∧ (l.foldl max x = x ∨ l.foldl max x ∈ l)
  | [], x => ⟨Nat.le_refl _, by simp, .inl rfl⟩
  | y :: l, x => by
    obtain ⟨h1, h2, h3⟩ := maxL_aux l (max x y)
    rw [List.foldl_cons]
    refine ⟨by omega, fun z hz => ?_, ?_⟩
    · rcases List.mem_cons.1 hz with rfl | hz
      · omega
      · exact h2 z hz
    · rcases h3 with h3 | h3
      · rw [h3]
        rcases Nat.le_total x y with h | h
        · right; rw [Nat.max_eq_right h]; simp
        · left; omega
      · right; simp [h3]
theorem maxL_le {l : List Nat} {n : Nat} : maxL l ≤ n ↔ ∀ y ∈ l, y ≤ n := by
  obtain ⟨h1, h2, h3⟩ := maxL_aux l 0
  unfold maxL
  constructor
  · intro h y hy; have := h2 y hy; omega
  · intro h
    rcases h3 with h3 | h3
    · omega
    · exact h _ h3
theorem minL_ext {l l' : List Nat} (h : ∀ x, x ∈ l ↔ x ∈ l') : minL l = minL l' := by
  by_cases h0 : l = []
  · subst h0
    have : l' = [] := List.eq_nil_iff_forall_not_mem.2 (fun x hx => by have := (h x).2 hx; simp at this)
    rw [this]
  · have h0' : l' ≠ [] := fun e => by
      subst e
      exact h0 (List.eq_nil_iff_forall_not_mem.2 (fun x hx => by have := (h x).1 hx; simp at this))
    obtain ⟨a1, a2⟩ := minL_spec h0
    obtain ⟨b1, b2⟩ := minL_spec h0'
    have := a2 _ ((h _).2 b1)
    have := b2 _ ((h _).1 a1)
    omega
theorem maxL_ext {l l' : List Nat} (h : ∀ x, x ∈ l ↔ x ∈ l') : maxL l = maxL l' := by
  have h1 : maxL l ≤ maxL l' := maxL_le.2 (fun y hy => maxL_le.1 (Nat.le_refl _) y ((h y).1 hy))
  have h2 : maxL l' ≤ maxL l := maxL_le.2 (fun y hy => maxL_le.1 (Nat.le_refl _) y ((h y).2 hy))
  omega
/-- Block b holds the least and the greatest of these. -/
def EndsOf (w : World) (b : Nat) (l : List Nat) : Prop := EndsAt w b (minL l : Nat) (maxL l : Nat) (!l.isEmpty)
theorem endsOf_any {w : World} {b : Nat} {l : List Nat} (x : Nat) (h : EndsOf w b l) :
    Calls Tryz.prog 40 #[.pointer (some ⟨b, 0, none⟩), .int .i64 x] w fun e w' => e = .returned (.tuple #[]) ∧ EndsOf w' b (l ++ [x]) ∧ Same (fun k => k = b) w w' := by
  refine (endsAdd_any (x : Int) h).mono ?_
  rintro e w' ⟨rfl, h1, h2⟩
  refine ⟨rfl, ?_, h2⟩
  unfold EndsOf
  rw [minL_snoc, maxL_snoc]
  cases l with
  | nil => simpa [minL, maxL] using h1
  | cons y l =>
    have e1 : ((min (minL (y :: l)) x : Nat) : Int) = min ((minL (y :: l) : Nat) : Int) (x : Int) := by omega
    have e2 : ((max (maxL (y :: l)) x : Nat) : Int) = max ((maxL (y :: l) : Nat) : Int) (x : Int) := by omega
    rw [if_neg (by simp), e1, e2]
    simpa using h1
def awayTo (c : Cab) (s : List Int) (k : Nat) : Nat := ((s.zip c.homes).take k).countP fun x => !decide (x.1 = -1) && !decide (x.1 = x.2)
theorem awayTo_all {c : Cab} {s : List Int} (h : s.length = c.homes.length) : awayTo c s c.homes.length = away c s := by
  unfold awayTo away
  rw [List.take_of_length_le (by simp; omega)]
theorem awayTo_succ {c : Cab} {s : List Int} (h : s.length = c.homes.length) {k : Nat} (hk : k < c.homes.length) : awayTo c s (k + 1) = awayTo c s k + (if gi s k ≠ -1 ∧ gi s k ≠ gi c.homes k then 1 else 0) := by
  unfold awayTo
  have hz : k < (s.zip c.homes).length := by simp; omega
  rw [← List.take_append_getElem hz, List.countP_append, List.getElem_zip, gi_eq (by omega), gi_eq hk]
  congr 1
  by_cases h1 : s[k] = -1 <;> by_cases h2 : s[k] = c.homes[k] <;> simp [h1, h2]
theorem awayTo_le (c : Cab) (s : List Int) (k : Nat) (h : s.length ≤ 5) : awayTo c s k ≤ 5 := by
  unfold awayTo
  refine Nat.le_trans List.countP_le_length ?_
  simp; omega
theorem misplacedE_of {c : Cab} (h0 : openE c true = 0) {n0 b : Nat} {M D : List (List Int × Int)} {w : World} (hR : Reached c anyRule n0 b M w) (hmem : ∀ p, p ∈ M ↔ p ∈ D) :
    misplacedE c = (((minL (D.map fun p => away c p.1) : Int), (maxL (D.map fun p => away c p.1) : Int)), 0) := by
  have hk : ∀ t, (∃ n, (t, n) ∈ D) ↔ ∃ bs, (t, bs) ∈ truths c := fun t => by
    have := hR.keys t
    simp only [hmem] at this
    exact this
  have hx : ∀ x, x ∈ ((truths c).map fun x => away c x.1) ↔ x ∈ D.map fun p => away c p.1 := by
    intro x
    simp only [List.mem_map]
    constructor
    · rintro ⟨y, hy, rfl⟩
      obtain ⟨n, hn⟩ := (hk y.1).2 ⟨y.2, hy⟩
      exact ⟨_, hn, rfl⟩
    · rintro ⟨p, hp, rfl⟩
      obtain ⟨bs, hb⟩ := (hk p.1).1 ⟨p.2, hp⟩
      exact ⟨_, hb, rfl⟩
  unfold misplacedE
  rw [if_pos h0]
  simp only [minL_ext hx, maxL_ext hx]
theorem res_cc {fn : Func} {p u : Tmp} (h : fn.results = #[.cell p 47, .cell u 31]) (tmps : Array Value) {w : World} {bp b : Nat} {x y z : Int} (hp : tmps.getD p undef = .pointer (some ⟨bp, 0, none⟩)) (hu : tmps.getD u undef = .pointer (some ⟨b, 0, none⟩))
    (h0 : w.cell? ⟨bp, 0, none⟩ = some (.int .i64 y)) (h1 : w.cell? ⟨bp, 1, none⟩ = some (.int .i64 z)) (hc : w.cell? ⟨b, 0, none⟩ = some (.int .i64 x)) :
    (results fn tmps).run Tryz.prog w = .ok (.tuple #[.agg #[.int .i64 y, .int .i64 z], .int .i64 x]) w := by
  have hu' : tmps[u]?.getD undef = .pointer (some ⟨b, 0, none⟩) := by simpa using hu
  have hp' : tmps[p]?.getD undef = .pointer (some ⟨bp, 0, none⟩) := by simpa using hp
  simp [results, h, hu', hp', hc, h0, h1, go_sem]
theorem cf72 (args : Array Value) (w : World) : (callFunc 38 args).run Tryz.prog w = .ok (.enter 38 args) w := by simp [callFunc, Tryz.func38, Tryz.f38, go_sem]
set_option maxRecDepth 100000 in
set_option maxHeartbeats 2000000 in
theorem misplaced_any {c : Cab} {w : World} {ah : Option Addr} {ch : Nat} {al : Option Addr} {cl : Nat} (hg : Given w c ah ch al cl) :
    Calls Tryz.prog 12 #[c.v ah ch al cl] w fun e w' => e = .returned (.tuple #[.agg #[.int .i64 (misplacedE c).1.1, .int .i64 (misplacedE c).1.2], .int .i64 (misplacedE c).2]) ∧ Below w.heap.size w w' := by
  have hmf : ∀ (fn : Fn) (first cap : Array Value) (w : World), (Instr.makeFunc fn first cap).run Tryz.prog w = .ok (.func fn first cap) w := fun _ _ _ _ => rfl
  go_enter_defers Tryz.func12, Tryz.ntmps12
  go_wp2_with fail
  have hb1 : Below w.heap.size w (((w.alloc (.cells (c.cells ah ch al cl) 40)).alloc (.cells #[.int .i64 0, .int .i64 0] 47)).alloc (.cells #[.int .i64 0] 31)) := (((Below.refl _ w).alloc (Nat.le_refl _) _).alloc (by simp) _).alloc (by simp; omega) _
  obtain ⟨_, q1, q2⟩ := heap3 w (.cells (c.cells ah ch al cl) 40) (.cells #[.int .i64 0, .int .i64 0] 47) (.cells #[.int .i64 0] 31)
  have hg1 := hg.mono hb1
  have hz1 : (((w.alloc (.cells (c.cells ah ch al cl) 40)).alloc (.cells #[.int .i64 0, .int .i64 0] 47)).alloc (.cells #[.int .i64 0] 31)).heap.size = w.heap.size + 3 := by simp
  revert hb1 q1 q2 hg1 hz1
  generalize (((w.alloc (.cells (c.cells ah ch al cl) 40)).alloc (.cells #[.int .i64 0, .int .i64 0] 47)).alloc (.cells #[.int .i64 0] 31)) = w1
  intro hb1 q1 q2 hg1 hz1
  have hasks := asks_always c ah ch al cl w1
  by_cases h0 : openE c true = 0
  · obtain ⟨hv, _, ht⟩ := openE_zero h0
    obtain ⟨v1, v2, v3, v4, v5, v6⟩ := valid_parts hv
    refine (open_ok hg1 (fun _ => hasks) h0 hasks.1).mono ?_
    rintro e w2 ⟨bc, b, M, rfl, hc, hR, hb2⟩
    have e3 := (hb2.block (w.heap.size + 1) (by omega)).trans q1
    have e4 := (hb2.block (w.heap.size + 1 + 1) (by omega)).trans q2
    have hz2 : w.heap.size + 3 ≤ w2.heap.size := by have := hb2.size; omega
    have hB2 : Below w.heap.size w w2 := hb1.trans (hb2.mono (by omega))
    have HW : Hid (∀ D : List (List Int × Int), (∀ p, p ∈ M ↔ p ∈ D) → misplacedE c = (((minL (D.map fun p => away c p.1) : Int), (maxL (D.map fun p => away c p.1) : Int)), 0)) := fun D hD => misplacedE_of h0 hR hD
    clear hb1 q1 q2 hg1 hz1 hb2 hasks
    have hbE : Below w2.heap.size w2 (w2.alloc (.cells #[.int .i64 0, .int .i64 0, .bool false] 98)) := (Below.refl _ w2).alloc (Nat.le_refl _) _
    have hE0 : EndsOf (w2.alloc (.cells #[.int .i64 0, .int .i64 0, .bool false] 98)) w2.heap.size [] := World.alloc_heap_new w2 _
    obtain ⟨w4, hrng, hR4, hg4, hs4⟩ := (hR.map.raw.kept (hbE.block b hR.map.lt)).range Tryz.underlying87
    rw [World.size_alloc] at hrng hR4 hs4
    have hE4 : EndsOf w4 w2.heap.size [] := (hg4.block _ (by simp) (by simp)).trans hE0
    have hb4 : Below w2.heap.size w2 w4 := hbE.grown hg4 hbE.size (by simp)
    clear hE0 hbE hg4 hs4
    go_wp2_with fail
    go_loopw [8] (fun _ wr => ∃ (D Td : List (List Int × Int)), Below w2.heap.size w2 wr ∧ EndsOf wr w2.heap.size (D.map fun p => away c p.1) ∧ Rng Tryz.prog 95 wr b (w2.heap.size + 1) (M.map encP) (Td.map encP) ∧ (∀ p, p ∈ M ↔ p ∈ D ∨ p ∈ Td)) (fun _ wr => rngLeft wr b (w2.heap.size + 1))
    case atStart => exact ⟨[], M, hb4, hE4, hR4, by simp⟩
    case round =>
      obtain ⟨D, Td, hbr, hEr, hRg, hmem⟩ := hrel
      have hHM := Lib.hid hmem
      clear hmem hrng
      rcases hRg.next 0 with ⟨htd, hnx⟩ | ⟨kx, vx, l1, l2, w10, htd, hkm, hnx, hR10, hg10, hs10, hent⟩
      · have htd' : Td = [] := by simpa using htd
        subst htd'
        clear htd
        have e5 := (hbr.block (w.heap.size + 1 + 1) (by omega)).trans e4
        have ce5 : wr.cell? ⟨w.heap.size + 1 + 1, 0, none⟩ = some (.int .i64 0) := by rw [cell_of_heap e5]; rfl
        have fe5 : wr.frozen? ⟨w.heap.size + 1 + 1, 0, none⟩ = false := frozen_of_heap e5
        have e6 := (hbr.block (w.heap.size + 1) (by omega)).trans e3
        have ce6 : wr.cell? ⟨w.heap.size + 1, 0, none⟩ = some (.int .i64 0) := by rw [cell_of_heap e6]; rfl
        have ce7 : wr.cell? ⟨w.heap.size + 1, 1, none⟩ = some (.int .i64 0) := by rw [cell_of_heap e6]; rfl
        have fe6 : wr.frozen? ⟨w.heap.size + 1, 0, none⟩ = false := frozen_of_heap e6
        have fe7 : wr.frozen? ⟨w.heap.size + 1, 1, none⟩ = false := frozen_of_heap e6
        obtain ⟨n0, n1, n2, _⟩ := EndsAt.cells hEr
        have hBr := hB2.trans (hbr.mono (by omega))
        have hne : w.heap.size + 1 ≠ w2.heap.size := by omega
        have hne2 : w.heap.size + 1 + 1 ≠ w2.heap.size := by omega
        go_wp2_with fail
        have t1 := World.cell?_setCell_same wr ⟨w.heap.size + 1, 0, none⟩ (.int .i64 (minL (D.map fun p => away c p.1))) ce6
        have t2 := (World.cell?_setCell_other wr ⟨w.heap.size + 1, 0, none⟩ ⟨w.heap.size + 1, 1, none⟩ (.int .i64 (minL (D.map fun p => away c p.1))) (by simp)).trans ce7
        have t3 := (World.cell?_setCell_other wr ⟨w.heap.size + 1, 0, none⟩ ⟨w.heap.size + 1 + 1, 0, none⟩ (.int .i64 (minL (D.map fun p => away c p.1))) (by simp)).trans ce5
        have s1 := (World.cell?_setCell_other _ ⟨w.heap.size + 1, 1, none⟩ ⟨w.heap.size + 1, 0, none⟩ (.int .i64 (maxL (D.map fun p => away c p.1))) (by simp)).trans t1
        have s2 := World.cell?_setCell_same _ ⟨w.heap.size + 1, 1, none⟩ (.int .i64 (maxL (D.map fun p => away c p.1))) t2
        have s3 := (World.cell?_setCell_other _ ⟨w.heap.size + 1, 1, none⟩ ⟨w.heap.size + 1 + 1, 0, none⟩ (.int .i64 (maxL (D.map fun p => away c p.1))) (by simp)).trans t3
        have r1 := (World.cell?_setCell_other _ ⟨w.heap.size + 1 + 1, 0, none⟩ ⟨w.heap.size + 1, 0, none⟩ (.int .i64 0) (by simp)).trans s1
        have r2 := (World.cell?_setCell_other _ ⟨w.heap.size + 1 + 1, 0, none⟩ ⟨w.heap.size + 1, 1, none⟩ (.int .i64 0) (by simp)).trans s2
        have r3 := World.cell?_setCell_same _ ⟨w.heap.size + 1 + 1, 0, none⟩ (.int .i64 0) s3
        refine leaves_ok (recov72_ok _ _) cf72 (res_cc rfl _ rfl rfl r1 r2 r3) ⟨?_, ((hBr.setCell (by simp) _).setCell (by simp) _).setCell (by simp; omega) _⟩
        rw [HW.out D (fun p => by rw [hHM.out]; simp)]
      · obtain ⟨T1, ⟨s, m⟩, T2, rfl, he, hl12⟩ := map_split htd
        have hsn : stV s = kx ∧ Value.int .i64 m = vx := by simpa [encP] using he
        obtain ⟨rfl, rfl⟩ := hsn
        have hsM : (s, m) ∈ M := (hHM.out (s, m)).2 (.inr (by simp))
        have hsg : GoodSt c.homes.length s := hR.map.good _ hsM
        have hsl := hsg.1
        rw [← hl12] at hR10
        have hs10' := Lib.hid hs10
        clear he hl12 htd hkm hs10
        have hb10 : Below w2.heap.size w2 w10 := hbr.grown hg10 hbr.size (by rintro q ⟨⟩; omega)
        have hlE := (Array.getElem?_eq_some_iff.1 hEr).1
        have hE10 : EndsOf w10 w2.heap.size (D.map fun p => away c p.1) := (hg10.block _ hlE (by simp)).trans hEr
        have hbA : Below w2.heap.size w2 (w10.alloc (.cells (stA s) 95)) := hb10.alloc hb10.size _
        have hRA : Rng Tryz.prog 95 (w10.alloc (.cells (stA s) 95)) b (w2.heap.size + 1) (M.map encP) ((T1 ++ T2).map encP) := hR10.kept (Below.heap_alloc _ _ _ hR10.raw.lt) (Below.heap_alloc _ _ _ hR10.lt)
        have hEA : EndsOf (w10.alloc (.cells (stA s) 95)) w2.heap.size (D.map fun p => away c p.1) := (Below.heap_alloc _ _ _ (by have := hg10.size; omega)).trans hE10
        have hnew := World.alloc_heap_new w10 (.cells (stA s) 95)
        have cH := (hc.mono hbA).h
        have gH := lt_of_cell cH
        go_wp2_with fail
        go_loop [8, 29] (fun x i => ∃ k : Nat, k ≤ c.homes.length ∧ i = .int .i64 k ∧ x = .int .i64 (awayTo c s k)) (fun _ i => c.homes.length - (intOf i).toNat)
        case atStart => exact ⟨0, by omega, rfl, rfl⟩
        case round =>
          obtain ⟨k, hk, rfl, rfl⟩ := hrel
          by_cases hlt : k < c.homes.length
          · obtain ⟨bh, oh, rfl, kh⟩ := (hc.mono hbA).hi k hlt
            have ck : (w10.alloc (.cells (stA s) 95)).cell? ⟨w10.heap.size, k, none⟩ = some (.int .i64 (gi s k)) := by rw [cell_of_heap hnew]; exact stA_get s k (by omega)
            have h101 : (k : Int) < (c.homes.length : Int) := by omega
            have h100 : (k : Int) ≤ 100 := by omega
            have hk5 : k < 5 := by omega
            have hle := awayTo_le c s k (by omega)
            have hA5 : (awayTo c s k : Int) ≤ 5 := by omega
            by_cases h1 : gi s k = -1
            · have hb1 : (gi s k != -1) = false := by simp [h1]
              have HX : Hid (awayTo c s (k + 1) = awayTo c s k) := by unfold Hid; rw [awayTo_succ hsl hlt, if_neg (fun h => h.1 h1)]; rfl
              clear h1
              go_wp2_with fail
              refine ⟨⟨k + 1, by omega, by go_num, by rw [HX.out]⟩, by simp [intOf]; omega⟩
            · have hb1 : (gi s k != -1) = true := by simp [h1]
              by_cases h2 : gi s k = gi c.homes k
              · have hb2 : (gi s k != gi c.homes k) = false := by simp [h2]
                have HX : Hid (awayTo c s (k + 1) = awayTo c s k) := by unfold Hid; rw [awayTo_succ hsl hlt, if_neg (fun h => h.2 h2)]; rfl
                clear h1 h2
                go_wp2_with fail
                refine ⟨⟨k + 1, by omega, by go_num, by rw [HX.out]⟩, by simp [intOf]; omega⟩
              · have hb2 : (gi s k != gi c.homes k) = true := by simp [h2]
                have HX : Hid (awayTo c s (k + 1) = awayTo c s k + 1) := by unfold Hid; rw [awayTo_succ hsl hlt, if_pos ⟨h1, h2⟩]
                clear h1 h2
                go_wp2_with fail
                refine ⟨⟨k + 1, by omega, by go_num, by rw [HX.out]; go_num⟩, by simp [intOf]; omega⟩
          · have hkk : k = c.homes.length := by omega
            have HA : Hid (awayTo c s k = away c s) := by unfold Hid; rw [hkk]; exact awayTo_all hsl
            subst hkk
            go_wp2_with fail
            rw [HA.out]
            refine (endsOf_any (away c s) hEA).mono ?_
            rintro e w12 ⟨rfl, hE12, hS12⟩
            have hb12 : Below w2.heap.size w2 w12 := hbA.trans (hS12.below hbA.size (by intro q hq h; omega))
            have hR12 : Rng Tryz.prog 95 w12 b (w2.heap.size + 1) (M.map encP) ((T1 ++ T2).map encP) := hRA.kept (hS12.block _ hRA.raw.lt (by have := hR.map.lt; omega)) (hS12.block _ hRA.lt (by omega))
            go_wp2_with fail
            go_roundw
            case rel => exact ⟨D ++ [(s, m)], T1 ++ T2, hb12, by rw [List.map_append]; exact hE12, hR12, mem_step hHM.out⟩
            case measure =>
              rw [hR12.left, hRg.left]
              simp
  · refine (open_no hg1 (fun _ => hasks) h0 hasks.1).mono ?_
    rintro e w2 ⟨rfl, hb2⟩
    have he2 := (hb2.block (w.heap.size + 1 + 1) (by omega)).trans q2
    have he1 := (hb2.block (w.heap.size + 1) (by omega)).trans q1
    have hc2 : w2.cell? ⟨w.heap.size + 1 + 1, 0, none⟩ = some (.int .i64 0) := by rw [cell_of_heap he2]; rfl
    have hd0 : w2.cell? ⟨w.heap.size + 1, 0, none⟩ = some (.int .i64 0) := by rw [cell_of_heap he1]; rfl
    have hd1 : w2.cell? ⟨w.heap.size + 1, 1, none⟩ = some (.int .i64 0) := by rw [cell_of_heap he1]; rfl
    have hbA : Below w2.heap.size w2 (w2.alloc (.cells #[.int .i64 (openE c true)] 106)) := (Below.refl _ w2).alloc (Nat.le_refl _) _
    have hb3 : Below w.heap.size w ((w2.alloc (.cells #[.int .i64 (openE c true)] 106)).setCell ⟨w.heap.size + 1 + 1, 0, none⟩ (.int .i64 (openE c true))) := by
      have h2 := hb1.trans (hb2.mono (by omega))
      exact (h2.alloc h2.size _).setCell (by simp; omega) _
    have hcell := World.cell?_setCell_same (w2.alloc (.cells #[.int .i64 (openE c true)] 106)) ⟨w.heap.size + 1 + 1, 0, none⟩ (.int .i64 (openE c true)) (cell_stays hbA hc2)
    have k0 := (World.cell?_setCell_other (w2.alloc (.cells #[.int .i64 (openE c true)] 106)) ⟨w.heap.size + 1 + 1, 0, none⟩ ⟨w.heap.size + 1, 0, none⟩ (.int .i64 (openE c true)) (by simp)).trans (cell_stays hbA hd0)
    have k1 := (World.cell?_setCell_other (w2.alloc (.cells #[.int .i64 (openE c true)] 106)) ⟨w.heap.size + 1 + 1, 0, none⟩ ⟨w.heap.size + 1, 1, none⟩ (.int .i64 (openE c true)) (by simp)).trans (cell_stays hbA hd1)
    refine leaves_no (recov72_no _ hc2 (frozen_of_heap he2)) rfl cf72 (res_cc rfl _ rfl rfl k0 k1 hcell) ⟨?_, hb3⟩
    unfold misplacedE
    rw [if_neg h0]
end Go.Proofs.YtbnhngfegnhaiaaGreatDoor
