/- What can follow a loan, whatever its kind; the rules; the first state. -/
import Derived.Test.YtlhobddaojdnoaaW8
import Derived.Laws.CopyRow
import Derived.Laws.IdiomCopy
import Derived.Laws.CopyOwn
namespace Go.Proofs.Ytlhobddaojdnoaa
open Go.RowKit

structure RuleOk (r : Rule) (T : TypeId) (x : Value) : Prop where
  ex : ∃ f, (∀ w, (method (Try.prog.types.size + Made.depth) T x "pairworks/lend.allows").run Try.prog w = .ok (f, x) w) ∧ (∀ args w, (callFunc f args).run Try.prog w = .ok (.enter f args) w) ∧
    ∀ (i : Nat) (l : Ln) (b : Bool) (w : World), Calls Try.prog f #[x, .int .i64 i, l.v, .bool b] w fun e w' => e = .returned (.bool (r i l b)) ∧ Below w.heap.size w w'
theorem anything_rule : RuleOk anyRule 72 (.agg #[]) := ⟨116, fun w => by kernel_rfl, fun args w => by simp [callFunc, Try.func116, Try.f116, go_sem], fun i l b w => anything_any i l b w⟩
theorem must_rule (k : Int) (wr : Bool) : RuleOk (mustRule k wr) 94 (.agg #[.int .i64 k, .bool wr]) := ⟨117, fun w => by kernel_rfl, fun args w => by simp [callFunc, Try.func117, Try.f117, go_sem], fun i l b w => must_any k i wr b l w⟩
theorem honest_rule (p : Int) : RuleOk (honestRule p) 96 (.agg #[.int .i64 p]) := ⟨118, fun w => by kernel_rfl, fun args w => by simp [callFunc, Try.func118, Try.f118, go_sem], fun i l b w => honest_any p i b l w⟩

theorem IterOk.monoO {P : Program} {g : Nat} {lb : Array Value} {encs : List (Array Value)} {O O' M : Nat → Prop} {W : World} (h : IterOk P g lb encs O M W) (ho : ∀ k, O k → O' k) : IterOk P g lb encs O' M W :=
  fun l J Jx hJ hJx hY h0 => h l J Jx (fun i A B hj hs => hJ i A B hj (hs.mono fun k _ => ho k)) (fun i A B hj hs => hJx i A B hj (hs.mono fun k _ => ho k)) hY h0

/-- What a call hands back that is to be ranged over: these elements, from whatever world. -/
def MovesP (c : Cab) (s : List Int) (l : Ln) (n0 : Nat) (w : World) (e : Ending) (w' : World) : Prop :=
  ∃ gf lb, e = .returned (.func (.func gf) #[] lb) ∧ (∀ args w, (callFunc gf args).run Try.prog w = .ok (.enter gf args) w) ∧ Below w.heap.size w w' ∧
    ∀ (M : Nat → Prop) W, (∀ k, M k → n0 ≤ k) → (∀ k, M k → ¬ (w.heap.size ≤ k ∧ k < w'.heap.size)) → Below w'.heap.size w' W → IterOk Try.prog gf lb ((step c s l).map encSt) (fun k => w.heap.size ≤ k ∧ k < w'.heap.size) M W

theorem card_in {c : Cab} {l : Ln} (h : c.card l.card = true) : ∃ k : Nat, l.card = k ∧ k < c.homes.length := by
  simp only [Cab.card, inR, Bool.and_eq_true, decide_eq_true_eq] at h
  exact ⟨l.card.toNat, by omega, by omega⟩
theorem heap_alloc2_0 (w : World) (a b : Obj) : ((w.alloc a).alloc b).heap[w.heap.size]? = some a := (Below.heap_alloc _ _ _ (by simp)).trans (World.alloc_heap_new w a)

theorem moves0_any {c : Cab} {bc : Nat} (n0 : Nat) {w : World} {s : List Int} (hs : s.length = c.homes.length) (hn : c.homes.length ≤ 5) {l : Ln} (hk : l.kind = 0) (hl : c.card l.card = true) :
    Calls Try.prog 93 #[.pointer (some ⟨bc, 0, none⟩), stV s, l.v] w (MovesP c s l n0 w) := by
  refine (taken_any _ s l w).mono ?_
  rintro e w' ⟨rfl, rfl⟩
  obtain ⟨lk, lc, lp, ls⟩ := l
  obtain ⟨k, hk1, hk2⟩ := card_in hl
  simp only at hk hk1
  subst hk hk1
  refine ⟨98, _, rfl, fun args w => by simp [callFunc, Try.func98, Try.f98, go_sem], ((Below.refl _ w).alloc (Nat.le_refl _) _).alloc (by simp) _, fun M W _ _ hb => ?_⟩
  have q1 := World.alloc_heap_new (w.alloc (.cells (stA s) 78)) (.cells (Ln.arr ⟨0, k, lp, ls⟩) 48)
  rw [World.size_alloc] at q1
  have h1 := (hb.block w.heap.size (by simp; omega)).trans (heap_alloc2_0 w _ _)
  have h2 := (hb.block (w.heap.size + 1) (by simp)).trans q1
  exact (taken_iter c s k lp ls h1 h2 (by omega) (by omega) M).monoO (fun i hi => by subst hi; simp; omega)

theorem heap3 (w : World) (a b d : Obj) : (((w.alloc a).alloc b).alloc d).heap[w.heap.size]? = some a ∧ (((w.alloc a).alloc b).alloc d).heap[w.heap.size + 1]? = some b ∧ (((w.alloc a).alloc b).alloc d).heap[w.heap.size + 1 + 1]? = some d := by
  refine ⟨(Below.heap_alloc _ _ _ (by simp; omega)).trans (heap_alloc2_0 w a b), (Below.heap_alloc _ _ _ (by simp)).trans ?_, ?_⟩
  · have := World.alloc_heap_new (w.alloc a) b; rwa [World.size_alloc] at this
  · have := World.alloc_heap_new ((w.alloc a).alloc b) d; rwa [World.size_alloc, World.size_alloc] at this

theorem moves1_any {c : Cab} {w0 : World} {bc : Nat} {ah : Option Addr} {ch : Nat} {al : Option Addr} {cl : Nat} (hc : CabP w0 bc c ah ch al cl) {w : World} (hb0 : Below w0.heap.size w0 w) {s : List Int} (hs : s.length = c.homes.length) (hn : c.homes.length ≤ 5)
    (hslots : 0 ≤ c.slots ∧ c.slots ≤ 100) {l : Ln} (hk : l.kind = 1) (hl : c.card l.card = true) :
    Calls Try.prog 94 #[.pointer (some ⟨bc, 0, none⟩), stV s, l.v] w (MovesP c s l w0.heap.size w) := by
  refine (back_any _ s l w).mono ?_
  rintro e w' ⟨rfl, rfl⟩
  obtain ⟨lk, lc, lp, ls⟩ := l
  obtain ⟨k, hk1, hk2⟩ := card_in hl
  simp only at hk hk1
  subst hk hk1
  have hbb : Below w.heap.size w (((w.alloc (.cells #[.pointer (some ⟨bc, 0, none⟩)] 64)).alloc (.cells (stA s) 78)).alloc (.cells (Ln.arr ⟨1, k, lp, ls⟩) 48)) := (((Below.refl _ w).alloc (Nat.le_refl _) _).alloc (by simp) _).alloc (by simp; omega) _
  refine ⟨99, _, rfl, fun args w => by simp [callFunc, Try.func99, Try.f99, go_sem], hbb, fun M W hM1 hM2 hb => ?_⟩
  obtain ⟨q0, q1, q2⟩ := heap3 w (.cells #[.pointer (some ⟨bc, 0, none⟩)] 64) (.cells (stA s) 78) (.cells (Ln.arr ⟨1, k, lp, ls⟩) 48)
  have h0 := (hb.block w.heap.size (by simp; omega)).trans q0
  have h1 := (hb.block (w.heap.size + 1) (by simp)).trans q1
  have h2 := (hb.block (w.heap.size + 1 + 1) (by simp)).trans q2
  have hle := hb0.size
  have hW : Below w0.heap.size w0 W := (hb0.trans (hbb.mono hle)).trans (hb.mono (by simp; omega))
  refine (back_iter c s k lp ls _ M (fun W' hs' => hc.mono (hW.trans (hs'.below hW.size (fun k hk hm => by have := hM1 k hm; omega)))) h0 h1 h2 ?_ ?_ ?_ hn hs (by omega) hslots)
  · exact fun h => hM2 _ h (by simp; omega)
  · exact fun h => hM2 _ h (by simp)
  · exact fun h => hM2 _ h (by simp; omega)

theorem moves2_any {c : Cab} {w0 : World} {bc : Nat} {ah : Option Addr} {ch : Nat} {al : Option Addr} {cl : Nat} (hc : CabP w0 bc c ah ch al cl) {w : World} (hb0 : Below w0.heap.size w0 w) {s : List Int} (hs : s.length = c.homes.length) (hn : c.homes.length ≤ 5)
    {l : Ln} (hk : l.kind = 2) :
    Calls Try.prog 96 #[.pointer (some ⟨bc, 0, none⟩), stV s, l.v] w (MovesP c s l w0.heap.size w) := by
  refine (looked_any _ s l w).mono ?_
  rintro e w' ⟨rfl, rfl⟩
  obtain ⟨lk, lc, lp, ls⟩ := l
  simp only at hk
  subst hk
  have hbb : Below w.heap.size w (((w.alloc (.cells #[.pointer (some ⟨bc, 0, none⟩)] 64)).alloc (.cells (stA s) 78)).alloc (.cells (Ln.arr ⟨2, lc, lp, ls⟩) 48)) := (((Below.refl _ w).alloc (Nat.le_refl _) _).alloc (by simp) _).alloc (by simp; omega) _
  refine ⟨100, _, rfl, fun args w => by simp [callFunc, Try.func100, Try.f100, go_sem], hbb, fun M W hM1 hM2 hb => ?_⟩
  obtain ⟨q0, q1, q2⟩ := heap3 w (.cells #[.pointer (some ⟨bc, 0, none⟩)] 64) (.cells (stA s) 78) (.cells (Ln.arr ⟨2, lc, lp, ls⟩) 48)
  have h0 := (hb.block w.heap.size (by simp; omega)).trans q0
  have h1 := (hb.block (w.heap.size + 1) (by simp)).trans q1
  have h2 := (hb.block (w.heap.size + 1 + 1) (by simp)).trans q2
  have hle := hb0.size
  have hW : Below w0.heap.size w0 W := (hb0.trans (hbb.mono hle)).trans (hb.mono (by simp; omega))
  exact looked_iter c s lc lp ls (hc.mono hW) h0 h1 h2 hn hs _ M

theorem row_of (s : List Int) (h : s.length ≤ 5) : (((s.map fun x => Value.int .i64 x) ++ (stA []).toList.drop s.length).toArray : Array Value) = stA s := by
  match s, h with
  | [], _ => simp
  | [_], _ => simp [gi]
  | [_, _], _ => simp [gi]
  | [_, _, _], _ => simp [gi]
  | [_, _, _, _], _ => simp [gi]
  | [a, b, c, d, e], _ => simp [gi]
  | _ :: _ :: _ :: _ :: _ :: _ :: _, h => simp at h
/-- The homes are copied into a fresh state. -/
theorem copy_homes {w : World} {b : Nat} {ah : Option Addr} {ch : Nat} {s : List Int} (hi : IsInts w ah s) (hn : s.length ≤ 5) (hb : w.heap[b]? = some (.cells (stA []) 78 (0, 0))) :
    ∃ w', (Builtin.copy_ #[22, 22] 3 #[.slice (some ⟨b, 0, none⟩) 5 5, .slice ah s.length ch]).run Try.prog w = .ok (goInt s.length) w' ∧ w'.heap[b]? = some (.cells (stA s) 78 (0, 0)) ∧ Same (fun k => k = b) w w' ∧ w'.heap.size = w.heap.size := by
  have hu : Try.prog.underlying 22 = some (.slice 3) := Try.underlying22
  have hz : (Try.prog.info? 3).map (·.size) = some 1 := by kernel_rfl
  by_cases h0 : s = []
  · subst h0
    exact ⟨w, run_copy_none w 22 22 3 3 _ ah 5 5 0 ch hu hz (by simp), hb, Same.refl _ _, rfl⟩
  · have hl : 0 < s.length := List.length_pos_iff.2 h0
    obtain ⟨b', off, rfl, hcell⟩ := hi.at hl
    have hr := run_copy_row Try.prog w 22 22 3 3 b 0 5 5 ⟨b', off, none⟩ s.length ch (stA []) 78 (s.map fun x => .int .i64 x) hu hz hb (by rw [List.length_map]; exact (Nat.min_eq_left hn).symm)
      (fun j v hj => by
        rw [List.getElem?_map] at hj
        obtain ⟨hj1, hj2⟩ : j < s.length ∧ .int .i64 (gi s j) = v := by
          cases hg : s[j]? with
          | none => rw [hg] at hj; cases hj
          | some y =>
            rw [hg] at hj
            refine ⟨(List.getElem?_eq_some_iff.1 hg).1, ?_⟩
            cases hj
            simp [gi, hg]
        subst hj2
        have hadd : (⟨b', off, none⟩ : Addr).add j = ⟨b', off + j, none⟩ := by unfold Addr.add; split <;> simp_all
        rw [hadd]
        exact hcell j hj1)
      (by simp; omega) (by simp [Value.oneCell'])
    rw [List.length_map] at hr
    refine ⟨_, hr, ?_, ⟨rfl, rfl, rfl, by simp, fun k _ hk => setRow_other w b k _ hk⟩, by simp⟩
    rw [setRow_heap w b _ _ 78 (0, 0) hb, List.take_zero, List.nil_append, Nat.zero_add, row_of s hn]
end Go.Proofs.Ytlhobddaojdnoaa
