/- Misplaced. -/
import Derived.Test.YtlhobddaojdnoaaW18
import Derived.Test.YtlhobddaojdnoaaW6b
namespace Go.Proofs.Ytlhobddaojdnoaa
open Go.RowKit

/-! ### least and greatest -/
theorem minL_snoc (l : List Nat) (x : Nat) : minL (l ++ [x]) = if l = [] then x else min (minL l) x := by
  cases l with
  | nil => rfl
  | cons y l => simp [minL, List.foldl_append]
theorem maxL_snoc (l : List Nat) (x : Nat) : maxL (l ++ [x]) = max (maxL l) x := by simp [maxL, List.foldl_append]
theorem minL_aux : ∀ (l : List Nat) (x : Nat), l.foldl min x ≤ x ∧ (∀ y ∈ l, l.foldl min x ≤ y) ∧ (l.foldl min x = x ∨ l.foldl min x ∈ l)
  | [], x => ⟨Nat.le_refl _, by simp, .inl rfl⟩
  | y :: l, x => by
    obtain ⟨h1, h2, h3⟩ := minL_aux l (min x y)
    rw [List.foldl_cons]
    refine ⟨by omega, fun z hz => ?_, ?_⟩
    · rcases List.mem_cons.1 hz with rfl | hz
      · omega
      · exact h2 z hz
    · rcases h3 with h3 | h3
      · rw [h3]
        rcases Nat.le_total x y with h | h
        · left; omega
        · right; rw [Nat.min_eq_right h]; simp
      · right; simp [h3]
theorem minL_spec {l : List Nat} (h : l ≠ []) : minL l ∈ l ∧ ∀ y ∈ l, minL l ≤ y := by
  cases l with
  | nil => exact absurd rfl h
  | cons x l =>
    obtain ⟨h1, h2, h3⟩ := minL_aux l x
    refine ⟨?_, fun y hy => ?_⟩
    · show l.foldl min x ∈ x :: l
      rcases h3 with h3 | h3
      · rw [h3]; simp
      · simp [h3]
    · show l.foldl min x ≤ y
      rcases List.mem_cons.1 hy with rfl | hy
      · exact h1
      · exact h2 y hy
theorem maxL_aux : ∀ (l : List Nat) (x : Nat), x ≤ l.foldl max x ∧ (∀ y ∈ l, y ≤ l.foldl max x) ∧ (l.foldl max x = x ∨ l.foldl max x ∈ l)
  | [], x => ⟨Nat.le_refl _, by simp, .inl rfl⟩
  | y :: l, x => by
    obtain ⟨h1, h2, h3⟩ := maxL_aux l (max x y)
    rw [List.foldl_cons]
    refine ⟨by omega, fun z hz => ?_, ?_⟩
    · rcases List.mem_cons.1 hz with rfl | hz
      · omega
      · exact h2 z hz
    · rcases h3 with h3 | h3
      · rw [h3]
        rcases Nat.le_total x y with h | h
        · right; rw [Nat.max_eq_right h]; simp
        · left; omega
      · right; simp [h3]
theorem maxL_le {l : List Nat} {n : Nat} : maxL l ≤ n ↔ ∀ y ∈ l, y ≤ n := by
  obtain ⟨h1, h2, h3⟩ := maxL_aux l 0
  unfold maxL
  constructor
  · intro h y hy; have := h2 y hy; omega
  · intro h
    rcases h3 with h3 | h3
    · omega
    · exact h _ h3
theorem minL_ext {l l' : List Nat} (h : ∀ x, x ∈ l ↔ x ∈ l') : minL l = minL l' := by
  by_cases h0 : l = []
  · subst h0
    have : l' = [] := List.eq_nil_iff_forall_not_mem.2 (fun x hx => by have := (h x).2 hx; simp at this)
    rw [this]
  · have h0' : l' ≠ [] := fun e => by
      subst e
      exact h0 (List.eq_nil_iff_forall_not_mem.2 (fun x hx => by have := (h x).1 hx; simp at this))
    obtain ⟨a1, a2⟩ := minL_spec h0
    obtain ⟨b1, b2⟩ := minL_spec h0'
    have := a2 _ ((h _).2 b1)
    have := b2 _ ((h _).1 a1)
    omega
theorem maxL_ext {l l' : List Nat} (h : ∀ x, x ∈ l ↔ x ∈ l') : maxL l = maxL l' := by
  have h1 : maxL l ≤ maxL l' := maxL_le.2 (fun y hy => maxL_le.1 (Nat.le_refl _) y ((h y).1 hy))
  have h2 : maxL l' ≤ maxL l := maxL_le.2 (fun y hy => maxL_le.1 (Nat.le_refl _) y ((h y).2 hy))
  omega
/-- Block b holds the least and the greatest of these. -/
def EndsOf (w : World) (b : Nat) (l : List Nat) : Prop := EndsAt w b (minL l : Nat) (maxL l : Nat) (!l.isEmpty)
theorem endsOf_any {w : World} {b : Nat} {l : List Nat} (x : Nat) (h : EndsOf w b l) :
    Calls Try.prog 65 #[.pointer (some ⟨b, 0, none⟩), .int .i64 x] w fun e w' => e = .returned (.tuple #[]) ∧ EndsOf w' b (l ++ [x]) ∧ Same (fun k => k = b) w w' := by
  refine (endsAdd_any (x : Int) h).mono ?_
  rintro e w' ⟨rfl, h1, h2⟩
  refine ⟨rfl, ?_, h2⟩
  unfold EndsOf
  rw [minL_snoc, maxL_snoc]
  cases l with
  | nil => simpa [minL, maxL] using h1
  | cons y l =>
    have e1 : ((min (minL (y :: l)) x : Nat) : Int) = min ((minL (y :: l) : Nat) : Int) (x : Int) := by omega
    have e2 : ((max (maxL (y :: l)) x : Nat) : Int) = max ((maxL (y :: l) : Nat) : Int) (x : Int) := by omega
    rw [if_neg (by simp), e1, e2]
    simpa using h1

/-! ### how many lie in a wrong place -/
def awayTo (c : Cab) (s : List Int) (k : Nat) : Nat := ((s.zip c.homes).take k).countP fun x => !decide (x.1 = -1) && !decide (x.1 = x.2)
theorem awayTo_all {c : Cab} {s : List Int} (h : s.length = c.homes.length) : awayTo c s c.homes.length = away c s := by
  unfold awayTo away
  rw [List.take_of_length_le (by simp; omega)]
theorem awayTo_succ {c : Cab} {s : List Int} (h : s.length = c.homes.length) {k : Nat} (hk : k < c.homes.length) : awayTo c s (k + 1) = awayTo c s k + (if gi s k ≠ -1 ∧ gi s k ≠ gi c.homes k then 1 else 0) := by
  unfold awayTo
  have hz : k < (s.zip c.homes).length := by simp; omega
  rw [← List.take_append_getElem hz, List.countP_append, List.getElem_zip, gi_eq (by omega), gi_eq hk]
  congr 1
  by_cases h1 : s[k] = -1 <;> by_cases h2 : s[k] = c.homes[k] <;> simp [h1, h2]
theorem awayTo_le (c : Cab) (s : List Int) (k : Nat) (h : s.length ≤ 5) : awayTo c s k ≤ 5 := by
  unfold awayTo
  refine Nat.le_trans List.countP_le_length ?_
  simp; omega
theorem misplacedE_of {c : Cab} (h0 : openE c true = 0) {n0 b : Nat} {M D : List (List Int × Int)} {w : World} (hR : Reached c anyRule n0 b M w) (hmem : ∀ p, p ∈ M ↔ p ∈ D) :
    misplacedE c = (((minL (D.map fun p => away c p.1) : Int), (maxL (D.map fun p => away c p.1) : Int)), 0) := by
  have hk : ∀ t, (∃ n, (t, n) ∈ D) ↔ ∃ bs, (t, bs) ∈ truths c := fun t => by
    have := hR.keys t
    simp only [hmem] at this
    exact this
  have hx : ∀ x, x ∈ ((truths c).map fun x => away c x.1) ↔ x ∈ D.map fun p => away c p.1 := by
    intro x
    simp only [List.mem_map]
    constructor
    · rintro ⟨y, hy, rfl⟩
      obtain ⟨n, hn⟩ := (hk y.1).2 ⟨y.2, hy⟩
      exact ⟨_, hn, rfl⟩
    · rintro ⟨p, hp, rfl⟩
      obtain ⟨bs, hb⟩ := (hk p.1).1 ⟨p.2, hp⟩
      exact ⟨_, hb, rfl⟩
  unfold misplacedE
  rw [if_pos h0]
  simp only [minL_ext hx, maxL_ext hx]
theorem res_cc {fn : Func} {p u : Tmp} (h : fn.results = #[.cell p 37, .cell u 28]) (tmps : Array Value) {w : World} {bp b : Nat} {x y z : Int} (hp : tmps.getD p undef = .pointer (some ⟨bp, 0, none⟩)) (hu : tmps.getD u undef = .pointer (some ⟨b, 0, none⟩))
    (h0 : w.cell? ⟨bp, 0, none⟩ = some (.int .i64 y)) (h1 : w.cell? ⟨bp, 1, none⟩ = some (.int .i64 z)) (hc : w.cell? ⟨b, 0, none⟩ = some (.int .i64 x)) :
    (results fn tmps).run Try.prog w = .ok (.tuple #[.agg #[.int .i64 y, .int .i64 z], .int .i64 x]) w := by
  have hu' : tmps[u]?.getD undef = .pointer (some ⟨b, 0, none⟩) := by simpa using hu
  have hp' : tmps[p]?.getD undef = .pointer (some ⟨bp, 0, none⟩) := by simpa using hp
  simp [results, h, hu', hp', hc, h0, h1, go_sem]
theorem cf72 (args : Array Value) (w : World) : (callFunc 72 args).run Try.prog w = .ok (.enter 72 args) w := by simp [callFunc, Try.func72, Try.f72, go_sem]


set_option maxRecDepth 100000 in
set_option maxHeartbeats 2000000 in
theorem misplaced_any {c : Cab} {w : World} {ah : Option Addr} {ch : Nat} {al : Option Addr} {cl : Nat} (hg : Given w c ah ch al cl) :
    Calls Try.prog 27 #[c.v ah ch al cl] w fun e w' => e = .returned (.tuple #[.agg #[.int .i64 (misplacedE c).1.1, .int .i64 (misplacedE c).1.2], .int .i64 (misplacedE c).2]) ∧ Below w.heap.size w w' := by
  have hmf : ∀ (fn : Fn) (first cap : Array Value) (w : World), (Instr.makeFunc fn first cap).run Try.prog w = .ok (.func fn first cap) w := fun _ _ _ _ => rfl
  go_enter_defers Try.func27, Try.ntmps27
  go_wp2_with fail
  have hb1 : Below w.heap.size w (((w.alloc (.cells (c.cells ah ch al cl) 25)).alloc (.cells #[.int .i64 0, .int .i64 0] 37)).alloc (.cells #[.int .i64 0] 28)) := (((Below.refl _ w).alloc (Nat.le_refl _) _).alloc (by simp) _).alloc (by simp; omega) _
  obtain ⟨_, q1, q2⟩ := heap3 w (.cells (c.cells ah ch al cl) 25) (.cells #[.int .i64 0, .int .i64 0] 37) (.cells #[.int .i64 0] 28)
  have hg1 := hg.mono hb1
  have hz1 : (((w.alloc (.cells (c.cells ah ch al cl) 25)).alloc (.cells #[.int .i64 0, .int .i64 0] 37)).alloc (.cells #[.int .i64 0] 28)).heap.size = w.heap.size + 3 := by simp
  revert hb1 q1 q2 hg1 hz1
  generalize (((w.alloc (.cells (c.cells ah ch al cl) 25)).alloc (.cells #[.int .i64 0, .int .i64 0] 37)).alloc (.cells #[.int .i64 0] 28)) = w1
  intro hb1 q1 q2 hg1 hz1
  have hasks := asks_always c ah ch al cl w1
  by_cases h0 : openE c true = 0
  · obtain ⟨hv, _, ht⟩ := openE_zero h0
    obtain ⟨v1, v2, v3, v4, v5, v6⟩ := valid_parts hv
    refine (open_ok hg1 (fun _ => hasks) h0 hasks.1).mono ?_
    rintro e w2 ⟨bc, b, M, rfl, hc, hR, hb2⟩
    have e3 := (hb2.block (w.heap.size + 1) (by omega)).trans q1
    have e4 := (hb2.block (w.heap.size + 1 + 1) (by omega)).trans q2
    have hz2 : w.heap.size + 3 ≤ w2.heap.size := by have := hb2.size; omega
    have hB2 : Below w.heap.size w w2 := hb1.trans (hb2.mono (by omega))
    have HW : Hid (∀ D : List (List Int × Int), (∀ p, p ∈ M ↔ p ∈ D) → misplacedE c = (((minL (D.map fun p => away c p.1) : Int), (maxL (D.map fun p => away c p.1) : Int)), 0)) := fun D hD => misplacedE_of h0 hR hD
    clear hb1 q1 q2 hg1 hz1 hb2 hasks
    have hbE : Below w2.heap.size w2 (w2.alloc (.cells #[.int .i64 0, .int .i64 0, .bool false] 86)) := (Below.refl _ w2).alloc (Nat.le_refl _) _
    have hE0 : EndsOf (w2.alloc (.cells #[.int .i64 0, .int .i64 0, .bool false] 86)) w2.heap.size [] := World.alloc_heap_new w2 _
    obtain ⟨w4, hrng, hR4, hg4, hs4⟩ := (hR.map.raw.kept (hbE.block b hR.map.lt)).range Try.underlying69
    rw [World.size_alloc] at hrng hR4 hs4
    have hE4 : EndsOf w4 w2.heap.size [] := (hg4.block _ (by simp) (by simp)).trans hE0
    have hb4 : Below w2.heap.size w2 w4 := hbE.grown hg4 hbE.size (by simp)
    clear hE0 hbE hg4 hs4
    go_wp2_with fail
    go_loopw [8] (fun _ wr => ∃ (D Td : List (List Int × Int)), Below w2.heap.size w2 wr ∧ EndsOf wr w2.heap.size (D.map fun p => away c p.1) ∧ Rng Try.prog 78 wr b (w2.heap.size + 1) (M.map encP) (Td.map encP) ∧ (∀ p, p ∈ M ↔ p ∈ D ∨ p ∈ Td)) (fun _ wr => rngLeft wr b (w2.heap.size + 1))
    case atStart => exact ⟨[], M, hb4, hE4, hR4, by simp⟩
    case round =>
      obtain ⟨D, Td, hbr, hEr, hRg, hmem⟩ := hrel
      have hHM := Lib.hid hmem
      clear hmem hrng
      rcases hRg.next 0 with ⟨htd, hnx⟩ | ⟨kx, vx, l1, l2, w10, htd, hkm, hnx, hR10, hg10, hs10, hent⟩
      · have htd' : Td = [] := by simpa using htd
        subst htd'
        clear htd
        have e5 := (hbr.block (w.heap.size + 1 + 1) (by omega)).trans e4
        have ce5 : wr.cell? ⟨w.heap.size + 1 + 1, 0, none⟩ = some (.int .i64 0) := by rw [cell_of_heap e5]; rfl
        have fe5 : wr.frozen? ⟨w.heap.size + 1 + 1, 0, none⟩ = false := frozen_of_heap e5
        have e6 := (hbr.block (w.heap.size + 1) (by omega)).trans e3
        have ce6 : wr.cell? ⟨w.heap.size + 1, 0, none⟩ = some (.int .i64 0) := by rw [cell_of_heap e6]; rfl
        have ce7 : wr.cell? ⟨w.heap.size + 1, 1, none⟩ = some (.int .i64 0) := by rw [cell_of_heap e6]; rfl
        have fe6 : wr.frozen? ⟨w.heap.size + 1, 0, none⟩ = false := frozen_of_heap e6
        have fe7 : wr.frozen? ⟨w.heap.size + 1, 1, none⟩ = false := frozen_of_heap e6
        obtain ⟨n0, n1, n2, _⟩ := EndsAt.cells hEr
        have hBr := hB2.trans (hbr.mono (by omega))
        have hne : w.heap.size + 1 ≠ w2.heap.size := by omega
        have hne2 : w.heap.size + 1 + 1 ≠ w2.heap.size := by omega
        go_wp2_with fail
        have t1 := World.cell?_setCell_same wr ⟨w.heap.size + 1, 0, none⟩ (.int .i64 (minL (D.map fun p => away c p.1))) ce6
        have t2 := (World.cell?_setCell_other wr ⟨w.heap.size + 1, 0, none⟩ ⟨w.heap.size + 1, 1, none⟩ (.int .i64 (minL (D.map fun p => away c p.1))) (by simp)).trans ce7
        have t3 := (World.cell?_setCell_other wr ⟨w.heap.size + 1, 0, none⟩ ⟨w.heap.size + 1 + 1, 0, none⟩ (.int .i64 (minL (D.map fun p => away c p.1))) (by simp)).trans ce5
        have s1 := (World.cell?_setCell_other _ ⟨w.heap.size + 1, 1, none⟩ ⟨w.heap.size + 1, 0, none⟩ (.int .i64 (maxL (D.map fun p => away c p.1))) (by simp)).trans t1
        have s2 := World.cell?_setCell_same _ ⟨w.heap.size + 1, 1, none⟩ (.int .i64 (maxL (D.map fun p => away c p.1))) t2
        have s3 := (World.cell?_setCell_other _ ⟨w.heap.size + 1, 1, none⟩ ⟨w.heap.size + 1 + 1, 0, none⟩ (.int .i64 (maxL (D.map fun p => away c p.1))) (by simp)).trans t3
        have r1 := (World.cell?_setCell_other _ ⟨w.heap.size + 1 + 1, 0, none⟩ ⟨w.heap.size + 1, 0, none⟩ (.int .i64 0) (by simp)).trans s1
        have r2 := (World.cell?_setCell_other _ ⟨w.heap.size + 1 + 1, 0, none⟩ ⟨w.heap.size + 1, 1, none⟩ (.int .i64 0) (by simp)).trans s2
        have r3 := World.cell?_setCell_same _ ⟨w.heap.size + 1 + 1, 0, none⟩ (.int .i64 0) s3
        refine leaves_ok (recov72_ok _ _) cf72 (res_cc rfl _ rfl rfl r1 r2 r3) ⟨?_, ((hBr.setCell (by simp) _).setCell (by simp) _).setCell (by simp; omega) _⟩
        rw [HW.out D (fun p => by rw [hHM.out]; simp)]
      · obtain ⟨T1, ⟨s, m⟩, T2, rfl, he, hl12⟩ := map_split htd
        have hsn : stV s = kx ∧ Value.int .i64 m = vx := by simpa [encP] using he
        obtain ⟨rfl, rfl⟩ := hsn
        have hsM : (s, m) ∈ M := (hHM.out (s, m)).2 (.inr (by simp))
        have hsg : GoodSt c.homes.length s := hR.map.good _ hsM
        have hsl := hsg.1
        rw [← hl12] at hR10
        have hs10' := Lib.hid hs10
        clear he hl12 htd hkm hs10
        have hb10 : Below w2.heap.size w2 w10 := hbr.grown hg10 hbr.size (by rintro q ⟨⟩; omega)
        have hlE := (Array.getElem?_eq_some_iff.1 hEr).1
        have hE10 : EndsOf w10 w2.heap.size (D.map fun p => away c p.1) := (hg10.block _ hlE (by simp)).trans hEr
        have hbA : Below w2.heap.size w2 (w10.alloc (.cells (stA s) 78)) := hb10.alloc hb10.size _
        have hRA : Rng Try.prog 78 (w10.alloc (.cells (stA s) 78)) b (w2.heap.size + 1) (M.map encP) ((T1 ++ T2).map encP) := hR10.kept (Below.heap_alloc _ _ _ hR10.raw.lt) (Below.heap_alloc _ _ _ hR10.lt)
        have hEA : EndsOf (w10.alloc (.cells (stA s) 78)) w2.heap.size (D.map fun p => away c p.1) := (Below.heap_alloc _ _ _ (by have := hg10.size; omega)).trans hE10
        have hnew := World.alloc_heap_new w10 (.cells (stA s) 78)
        have cH := (hc.mono hbA).h
        have gH := lt_of_cell cH
        go_wp2_with fail
        go_loop [8, 29] (fun x i => ∃ k : Nat, k ≤ c.homes.length ∧ i = .int .i64 k ∧ x = .int .i64 (awayTo c s k)) (fun _ i => c.homes.length - (intOf i).toNat)
        case atStart => exact ⟨0, by omega, rfl, rfl⟩
        case round =>
          obtain ⟨k, hk, rfl, rfl⟩ := hrel
          by_cases hlt : k < c.homes.length
          · obtain ⟨bh, oh, rfl, kh⟩ := (hc.mono hbA).hi k hlt
            have ck : (w10.alloc (.cells (stA s) 78)).cell? ⟨w10.heap.size, k, none⟩ = some (.int .i64 (gi s k)) := by rw [cell_of_heap hnew]; exact stA_get s k (by omega)
            have h101 : (k : Int) < (c.homes.length : Int) := by omega
            have h100 : (k : Int) ≤ 100 := by omega
            have hk5 : k < 5 := by omega
            have hle := awayTo_le c s k (by omega)
            have hA5 : (awayTo c s k : Int) ≤ 5 := by omega
            by_cases h1 : gi s k = -1
            · have hb1 : (gi s k != -1) = false := by simp [h1]
              have HX : Hid (awayTo c s (k + 1) = awayTo c s k) := by unfold Hid; rw [awayTo_succ hsl hlt, if_neg (fun h => h.1 h1)]; rfl
              clear h1
              go_wp2_with fail
              refine ⟨⟨k + 1, by omega, by go_num, by rw [HX.out]⟩, by simp [intOf]; omega⟩
            · have hb1 : (gi s k != -1) = true := by simp [h1]
              by_cases h2 : gi s k = gi c.homes k
              · have hb2 : (gi s k != gi c.homes k) = false := by simp [h2]
                have HX : Hid (awayTo c s (k + 1) = awayTo c s k) := by unfold Hid; rw [awayTo_succ hsl hlt, if_neg (fun h => h.2 h2)]; rfl
                clear h1 h2
                go_wp2_with fail
                refine ⟨⟨k + 1, by omega, by go_num, by rw [HX.out]⟩, by simp [intOf]; omega⟩
              · have hb2 : (gi s k != gi c.homes k) = true := by simp [h2]
                have HX : Hid (awayTo c s (k + 1) = awayTo c s k + 1) := by unfold Hid; rw [awayTo_succ hsl hlt, if_pos ⟨h1, h2⟩]
                clear h1 h2
                go_wp2_with fail
                refine ⟨⟨k + 1, by omega, by go_num, by rw [HX.out]; go_num⟩, by simp [intOf]; omega⟩
          · have hkk : k = c.homes.length := by omega
            have HA : Hid (awayTo c s k = away c s) := by unfold Hid; rw [hkk]; exact awayTo_all hsl
            subst hkk
            go_wp2_with fail
            rw [HA.out]
            refine (endsOf_any (away c s) hEA).mono ?_
            rintro e w12 ⟨rfl, hE12, hS12⟩
            have hb12 : Below w2.heap.size w2 w12 := hbA.trans (hS12.below hbA.size (by intro q hq h; omega))
            have hR12 : Rng Try.prog 78 w12 b (w2.heap.size + 1) (M.map encP) ((T1 ++ T2).map encP) := hRA.kept (hS12.block _ hRA.raw.lt (by have := hR.map.lt; omega)) (hS12.block _ hRA.lt (by omega))
            go_wp2_with fail
            go_roundw
            case rel => exact ⟨D ++ [(s, m)], T1 ++ T2, hb12, by rw [List.map_append]; exact hE12, hR12, mem_step hHM.out⟩
            case measure =>
              rw [hR12.left, hRg.left]
              simp
  · refine (open_no hg1 (fun _ => hasks) h0 hasks.1).mono ?_
    rintro e w2 ⟨rfl, hb2⟩
    have he2 := (hb2.block (w.heap.size + 1 + 1) (by omega)).trans q2
    have he1 := (hb2.block (w.heap.size + 1) (by omega)).trans q1
    have hc2 : w2.cell? ⟨w.heap.size + 1 + 1, 0, none⟩ = some (.int .i64 0) := by rw [cell_of_heap he2]; rfl
    have hd0 : w2.cell? ⟨w.heap.size + 1, 0, none⟩ = some (.int .i64 0) := by rw [cell_of_heap he1]; rfl
    have hd1 : w2.cell? ⟨w.heap.size + 1, 1, none⟩ = some (.int .i64 0) := by rw [cell_of_heap he1]; rfl
    have hbA : Below w2.heap.size w2 (w2.alloc (.cells #[.int .i64 (openE c true)] 105)) := (Below.refl _ w2).alloc (Nat.le_refl _) _
    have hb3 : Below w.heap.size w ((w2.alloc (.cells #[.int .i64 (openE c true)] 105)).setCell ⟨w.heap.size + 1 + 1, 0, none⟩ (.int .i64 (openE c true))) := by
      have h2 := hb1.trans (hb2.mono (by omega))
      exact (h2.alloc h2.size _).setCell (by simp; omega) _
    have hcell := World.cell?_setCell_same (w2.alloc (.cells #[.int .i64 (openE c true)] 105)) ⟨w.heap.size + 1 + 1, 0, none⟩ (.int .i64 (openE c true)) (cell_stays hbA hc2)
    have k0 := (World.cell?_setCell_other (w2.alloc (.cells #[.int .i64 (openE c true)] 105)) ⟨w.heap.size + 1 + 1, 0, none⟩ ⟨w.heap.size + 1, 0, none⟩ (.int .i64 (openE c true)) (by simp)).trans (cell_stays hbA hd0)
    have k1 := (World.cell?_setCell_other (w2.alloc (.cells #[.int .i64 (openE c true)] 105)) ⟨w.heap.size + 1 + 1, 0, none⟩ ⟨w.heap.size + 1, 1, none⟩ (.int .i64 (openE c true)) (by simp)).trans (cell_stays hbA hd1)
    refine leaves_no (recov72_no _ hc2 (frozen_of_heap he2)) rfl cf72 (res_cc rfl _ rfl rfl k0 k1 hcell) ⟨?_, hb3⟩
    unfold misplacedE
    rw [if_neg h0]
end Go.Proofs.Ytlhobddaojdnoaa
