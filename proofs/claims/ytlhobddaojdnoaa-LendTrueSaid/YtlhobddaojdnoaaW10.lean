/- Where the loops over the loans and over the states stand. -/
import Derived.Test.YtlhobddaojdnoaaW9
namespace Go.Proofs.Ytlhobddaojdnoaa
open Go.RowKit

/-- Where the loop over the loans stands: j loans have been walked. -/
structure PlayAt (c : Cab) (r : Rule) (W : Int) (T : TypeId) (x kv : Value) (w0 : World) (ds : List Deferred) (j b : Nat) (M : List (List Int × Int)) (w : World) : Prop where
  below : Below w0.heap.size w0 w
  box : w.heap[w0.heap.size]? = some (.cells #[.int .i64 W] 3 (0, 0))
  rule : w.heap[w0.heap.size + 1]? = some (.cells #[.iface T x] 108 (0, 0))
  kinds : IsKinds w kv
  map : StMap c.homes.length w b M
  reach : ∀ t, lookM M t = reachF c r W (c.loans.take j) t
  lo : w0.heap.size + 2 ≤ b
  marks : MarksAt w0.heap.size ds w

abbrev encP (p : List Int × Int) : Value × Value := (stV p.1, .int .i64 p.2)
/-- Where the loop over the states stands. -/
structure InAt (c : Cab) (r : Rule) (W : Int) (ds : List Deferred) (j : Nat) (l : Ln) (w : World) (n0 b : Nat) (M D Td Mn : List (List Int × Int)) (w' : World) : Prop where
  below : Below w.heap.size w w'
  num : w'.heap[w.heap.size]? = some (.cells #[.int .i64 j] 3 (0, 0))
  loan : w'.heap[w.heap.size + 1]? = some (.cells l.arr 48 (0, 0))
  box : w'.heap[w.heap.size + 1 + 1 + 1]? = some (.cells #[.map (some (w.heap.size + 1 + 1))] 69 (0, 0))
  rng : Rng Try.prog 78 w' b (w.heap.size + 1 + 1 + 1 + 1) (M.map encP) (Td.map encP)
  new : StMap c.homes.length w' (w.heap.size + 1 + 1) Mn
  mem : ∀ p, p ∈ M ↔ p ∈ D ∨ p ∈ Td
  look : ∀ t, lookM Mn t = minF (D.flatMap (contrib c r W j l)) t
  marks : MarksAt n0 ds w'
  size : w.heap.size + 5 ≤ w'.heap.size
theorem StMap.empty {n : Nat} {w : World} {b : Nat} (h : w.heap[b]? = some (.map #[] 0)) : StMap n w b [] := ⟨⟨#[], 0, h, MapKept.stamped_empty 0, rfl, by simp⟩, by simp, by simp⟩
theorem gl_mem {l : List Ln} {k : Nat} (h : k < l.length) : gl l k ∈ l := by
  have : gl l k = l[k] := by simp [gl, h]
  rw [this]; exact List.getElem_mem h
theorem take_snoc {l : List Ln} {k : Nat} (h : k < l.length) : l.take (k + 1) = l.take k ++ [gl l k] := by
  have : gl l k = l[k] := by simp [gl, h]
  rw [this, List.take_append_getElem h]

/-- What a loan's kind leads to. -/
theorem kinds_pick {c : Cab} {l : Ln} (hl : c.loanOk l = true) {w : World} {kv : Value} (hk : IsKinds w kv) {w0 : World} {bc : Nat} {ah : Option Addr} {ch : Nat} {al : Option Addr} {cl : Nat} (hc : CabP w0 bc c ah ch al cl) (hn : c.homes.length ≤ 5)
    (hslots : 0 ≤ c.slots ∧ c.slots ≤ 100) :
    ∃ bk kk mf : Nat, kv = .slice (some ⟨bk, 0, none⟩) 3 3 ∧ l.kind = kk ∧ kk < 3 ∧ w.cell? ⟨bk, kk * 2 + 1, none⟩ = some (.func (.func mf) #[] #[]) ∧ (∀ args w, (callFunc mf args).run Try.prog w = .ok (.enter mf args) w) ∧
      ∀ w1 s, Below w0.heap.size w0 w1 → s.length = c.homes.length → Calls Try.prog mf #[.pointer (some ⟨bc, 0, none⟩), stV s, l.v] w1 (MovesP c s l w0.heap.size w1) := by
  obtain ⟨bk, rfl, h0, h1, h2, h3, h4, h5⟩ := hk
  unfold Cab.loanOk Cab.lent at hl
  split at hl
  · rename_i hk
    exact ⟨bk, 0, 93, rfl, hk, by omega, h1, fun args w => by simp [callFunc, Try.func93, Try.f93, go_sem], fun w1 s hb hs => moves0_any _ hs hn hk (by simp at hl; exact hl.1)⟩
  · split at hl
    · rename_i hk
      exact ⟨bk, 1, 94, rfl, hk, by omega, h3, fun args w => by simp [callFunc, Try.func94, Try.f94, go_sem], fun w1 s hb hs => moves1_any hc hb hs hn hslots hk (by simp at hl; exact hl.1)⟩
    · split at hl
      · rename_i hk
        exact ⟨bk, 2, 96, rfl, hk, by omega, h5, fun args w => by simp [callFunc, Try.func96, Try.f96, go_sem], fun w1 s hb hs => moves2_any hc hb hs hn hk⟩
      · cases hl

theorem GoodSt.set {n : Nat} {s : List Int} (h : GoodSt n s) (k : Nat) {v : Int} (hv : -1 ≤ v ∧ v ≤ 5) : GoodSt n (s.set k v) :=
  ⟨by rw [List.length_set]; exact h.1, fun x hx => by
    rcases List.mem_or_eq_of_mem_set hx with hx | rfl
    · exact h.2 x hx
    · exact hv⟩
theorem step_good {c : Cab} {n : Nat} {s : List Int} (hs : GoodSt n s) (hslots : c.slots ≤ 6) {l : Ln} {x : List Int × Bool} (hx : x ∈ step c s l) : GoodSt n x.1 := by
  unfold step at hx
  split at hx
  · split at hx
    · simp at hx
    · rw [List.mem_singleton] at hx; subst hx; exact hs.set _ (by omega)
  · split at hx
    · split at hx
      · obtain ⟨y, hy, he⟩ := List.mem_filterMap.1 hx
        have := List.mem_range.1 hy
        split at he
        · cases he; exact hs.set _ (by omega)
        · cases he
      · simp at hx
    · split at hx
      · rw [List.mem_singleton] at hx; subst hx; exact hs
      · simp at hx

/-- What a way that a loan may go adds. -/
def contribOf (r : Rule) (W : Int) (j : Nat) (l : Ln) (n : Int) (x : List Int × Bool) : Option (List Int × Int) :=
  if n + (if x.2 then 1 else 0) ≤ W ∧ r j l x.2 = true then some (x.1, n + (if x.2 then 1 else 0)) else none
theorem contrib_eq (c : Cab) (r : Rule) (W : Int) (j : Nat) (l : Ln) (s : List Int) (n : Int) : contrib c r W j l (s, n) = (step c s l).filterMap (contribOf r W j l n) := rfl
theorem filterMap_take {α β : Type} (f : α → Option β) {l : List α} {k : Nat} {x : α} (h : l[k]? = some x) : (l.take (k + 1)).filterMap f = (l.take k).filterMap f ++ (f x).toList := by
  obtain ⟨hk, rfl⟩ := List.getElem?_eq_some_iff.1 h
  rw [← List.take_append_getElem hk, List.filterMap_append]
  cases hf : f l[k] <;> simp [hf]
theorem map_split {α β : Type} {f : α → β} : ∀ {T : List α} {l1 l2 : List β} {y : β}, T.map f = l1 ++ y :: l2 → ∃ T1 p T2, T = T1 ++ p :: T2 ∧ f p = y ∧ (T1 ++ T2).map f = l1 ++ l2
  | [], l1, l2, y, h => by simp at h
  | t :: T, [], l2, y, h => by
    simp only [List.map_cons, List.nil_append, List.cons.injEq] at h
    exact ⟨[], t, T, rfl, h.1, by simpa using h.2⟩
  | t :: T, z :: l1, l2, y, h => by
    simp only [List.map_cons, List.cons_append, List.cons.injEq] at h
    obtain ⟨T1, p, T2, h1, h2, h3⟩ := map_split h.2
    exact ⟨t :: T1, p, T2, by rw [h1]; rfl, h2, by simp only [List.cons_append, List.map_cons, h3, h.1]⟩
/-- All states walked: the next loan's states. -/
theorem reach_next {c : Cab} {r : Rule} {W : Int} {j : Nat} {M D Mn : List (List Int × Int)} (hj : j < c.loans.length) (hkeys : (M.map (·.1)).Nodup) (hM : ∀ t, lookM M t = reachF c r W (c.loans.take j) t)
    (hmem : ∀ p, p ∈ M ↔ p ∈ D ∨ p ∈ ([] : List (List Int × Int))) (hlook : ∀ t, lookM Mn t = minF (D.flatMap (contrib c r W j (gl c.loans j))) t) : ∀ t, lookM Mn t = reachF c r W (c.loans.take (j + 1)) t := by
  intro t
  have hlen : (c.loans.take j).length = j := by simp; omega
  have := reach_step c r W (c.loans.take j) (gl c.loans j) D (fun t n => by
    rw [← hM t, look_some hkeys, hmem]; simp)
  rw [hlen] at this
  rw [take_snoc hj, this, hlook]
end Go.Proofs.Ytlhobddaojdnoaa
