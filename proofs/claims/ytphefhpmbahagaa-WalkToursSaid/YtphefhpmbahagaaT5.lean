/- A walk's single steps: when one begins, when one is after. -/
import Derived.Test.YtphefhpmbahagaaT4
namespace Go.Proofs.Ytphefhpmbahagaa
open Go.RowKit
set_option linter.unusedVariables false
set_option linter.unusedSimpArgs false

abbrev mv (p : Int × Int) : Value := .agg #[.int .i64 p.1, .int .i64 p.2]
/-- Minutes that do not run over. -/
def Low (p : Int × Int) : Prop := 0 ≤ p.1 ∧ p.1 ≤ 1000000000 ∧ 0 ≤ p.2 ∧ p.2 ≤ 1000000000
theorem ret_mv {a b c d : Int} (h1 : a = c) (h2 : b = d) : Ending.returned (.agg #[.int .i64 a, .int .i64 b]) = .returned (.agg #[.int .i64 c, .int .i64 d]) := by rw [h1, h2]
theorem ok_iff (s : Spn) : s.ok = true ↔ 0 ≤ s.lo ∧ s.lo ≤ s.hi ∧ s.hi ≤ 1440 := by simp [Spn.ok, and_assoc]
theorem areB_at {l : List Spn} {n k : Nat} (h : areB l n = true) (hk : k < n) : l.length = n ∧ (gs l k).ok = true := by
  simp only [areB, Bool.and_eq_true, decide_eq_true_eq, List.all_eq_true] at h
  refine ⟨h.1, h.2 _ ?_⟩
  have hl : k < l.length := by omega
  simp [gs, hl]
theorem res_c82 {fn : Func} {p : Tmp} (h : fn.results = #[.cell p 82]) (tmps : Array Value) {w : World} {a : Nat} {x y : Value} (hp : tmps.getD p undef = .pointer (some ⟨a, 0, none⟩)) (hx : w.cell? ⟨a, 0, none⟩ = some x) (hy : w.cell? ⟨a, 1, none⟩ = some y) :
    (results fn tmps).run Try.prog w = .ok (.agg #[x, y]) w := by
  have hp' : tmps[p]?.getD undef = .pointer (some ⟨a, 0, none⟩) := by simpa using hp
  simp [results, h, hp', hx, hy, go_sem]
/-- What a valid tour's parts are. -/
structure Tr.Fit (t : Tr) : Prop where
  n : t.frm.length ≤ 6
  dawn : 0 ≤ t.dawn ∧ t.dawn ≤ 1440
  ways : t.ways.length = t.frm.length
  stay : t.stay.length = t.frm.length
  light : t.light.length = t.frm.length
  rows : ∀ k, k < t.frm.length → (gw t.ways k).length = t.frm.length
  okf : ∀ k, k < t.frm.length → (gs t.frm k).ok = true
  oks : ∀ k, k < t.frm.length → (gs t.stay k).ok = true
  okl : ∀ k, k < t.frm.length → (gs t.light k).ok = true
  okw : ∀ k j, k < t.frm.length → j < t.frm.length → (gs (gw t.ways k) j).ok = true
theorem fit_of_valid {t : Tr} (h : t.valid = true) : t.Fit := by
  have h : (decide (t.frm.length ≤ 6) && decide (t.ways.length = t.frm.length) && inR t.dawn 0 1440 && (t.ways ++ [t.frm, t.stay, t.light]).all fun l => areB l t.frm.length) = true := h
  simp only [inR, List.all_append, List.all_cons, List.all_nil, Bool.and_true, Bool.and_eq_true, decide_eq_true_eq] at h
  obtain ⟨⟨⟨h1, h2⟩, h3⟩, h4, h5, h6, h7⟩ := h
  have hw : ∀ k, k < t.frm.length → areB (gw t.ways k) t.frm.length = true := fun k hk => by
    rw [List.all_eq_true] at h4
    refine h4 _ ?_
    have hl : k < t.ways.length := by omega
    simp [gw, hl]
  have len : ∀ l, areB l t.frm.length = true → l.length = t.frm.length := fun l h => by
    simp only [areB, Bool.and_eq_true, decide_eq_true_eq] at h; exact h.1
  exact ⟨h1, h3, h2, len _ h6, len _ h7, fun k hk => len _ (hw k hk), fun k hk => (areB_at h5 hk).2, fun k hk => (areB_at h6 hk).2, fun k hk => (areB_at h7 hk).2, fun k j hk hj => (areB_at (hw k hk) hj).2⟩

theorem after83 {x y : Int} {s : Spn} {w : World} (hL : Low (x, y)) (hs : s.ok = true) :
    Calls Try.prog 83 #[.agg #[.int .i64 x, .int .i64 y], s.v] w fun e w' => e = .returned (.agg #[.int .i64 (x + s.lo), .int .i64 (y + s.hi)]) ∧ Below w.heap.size w w' := by
  obtain ⟨h1, h2, h3, h4⟩ := hL
  obtain ⟨s1, s2, s3⟩ := (ok_iff s).1 hs
  obtain ⟨lo, hi⟩ := s
  have e1 : IntKind.i64.wrap (x + lo) = x + lo := IntWalk.i64_in _ (by simp at h1 h2 h3 h4 s1 s2 s3; omega)
  have e2 : IntKind.i64.wrap (y + hi) = y + hi := IntWalk.i64_in _ (by simp at h1 h2 h3 h4 s1 s2 s3; omega)
  have hb : Below w.heap.size w (((w.alloc (.cells #[.int .i64 x, .int .i64 y] 82)).alloc (.cells #[.int .i64 lo, .int .i64 hi] 33)).alloc (.cells #[.int .i64 (x + lo), .int .i64 (y + hi)] 82)) :=
    (((Below.refl _ w).alloc (Nat.le_refl _) _).alloc (by simp) _).alloc (by simp; omega) _
  have HB := Lib.hid hb
  have HN := Lib.hid (World.alloc_heap_new ((w.alloc (.cells #[.int .i64 x, .int .i64 y] 82)).alloc (.cells #[.int .i64 lo, .int .i64 hi] 33)) (.cells #[.int .i64 (x + lo), .int .i64 (y + hi)] 82))
  clear hb h1 h2 h3 h4 s1 s2 s3 hs
  go_enter Try.func83, Try.ntmps83
  go_wp2_with fail
  have hn := HN.out
  simp only [World.size_alloc] at hn
  exact bodyPost_ret (v := .agg #[.int .i64 (x + lo), .int .i64 (y + hi)]) (res_c82 rfl _ rfl ((cell_of_heap hn).trans rfl) ((cell_of_heap hn).trans rfl)) rfl ⟨rfl, HB.out⟩
theorem from100 {x y v : Int} {w : World} :
    Calls Try.prog 100 #[.agg #[.int .i64 x, .int .i64 y], .int .i64 v] w fun e w' => e = .returned (.agg #[.int .i64 (max x v), .int .i64 (max y v)]) ∧ Below w.heap.size w w' := by
  have HB : Hid (∀ p q : Int, Below w.heap.size w ((w.alloc (.cells #[.int .i64 x, .int .i64 y] 82)).alloc (.cells #[.int .i64 p, .int .i64 q] 82))) := fun p q =>
    ((Below.refl _ w).alloc (Nat.le_refl _) _).alloc (by simp) _
  have HN : Hid (∀ p q : Int, ((w.alloc (.cells #[.int .i64 x, .int .i64 y] 82)).alloc (.cells #[.int .i64 p, .int .i64 q] 82)).heap[w.heap.size + 1]? = some (.cells #[.int .i64 p, .int .i64 q] 82 (0, 0))) := fun p q => by
    have h := World.alloc_heap_new (w.alloc (.cells #[.int .i64 x, .int .i64 y] 82)) (.cells #[.int .i64 p, .int .i64 q] 82)
    rw [World.size_alloc] at h
    exact h
  go_enter Try.func100, Try.ntmps100
  go_wp2_with fail
  all_goals refine bodyPost_ret (res_c82 rfl _ rfl ((cell_of_heap (HN.out _ _)).trans rfl) ((cell_of_heap (HN.out _ _)).trans rfl)) rfl ⟨?_, HB.out _ _⟩
  all_goals exact ret_mv (by omega) (by omega)
end Go.Proofs.Ytphefhpmbahagaa
