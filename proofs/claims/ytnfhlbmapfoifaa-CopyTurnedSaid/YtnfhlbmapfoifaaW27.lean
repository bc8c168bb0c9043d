/- All orders: the closure that goes on from some cards. All orders: the closure that goes on from some cards: whatever cards. -/
import Derived.Test.YtnfhlbmapfoifaaW25
import Derived.LoopTactic
namespace Go.Proofs.Ytnfhlbmapfoifaa
open Go.RowKit
set_option linter.unusedVariables false

section
variable {p : Prs} {a : Option Addr} {cap bp g pb lb ob : Nat} {W0 : World}
/-- What the walk is given. -/
structure OrH (p : Prs) (a : Option Addr) (cap bp g pb lb ob : Nat) (W0 : World) : Prop where
  hv : p.valid = true
  pile : ∀ A, Same (fun k => k = lb) W0 A → A.heap[pb]? = some (.cells #[.pointer (some ⟨bp, 0, none⟩)] 79 (0, 0)) ∧ PileP A bp p a cap g ∧ A.heap[ob]? = some (.cells #[selfO pb lb ob] 127 (0, 0))
theorem onO_zero (p : Prs) (pre : List Int) : onO p 0 pre = if isWayB p (chainL pre) then [pre] else [] := rfl
def oF (p : Prs) (d : Nat) (pre : List Int) (i : Nat) : List (List Int) := if (i : Int) ∈ pre then [] else onO p d (pre ++ [(i : Int)])
theorem onO_succ (p : Prs) (d : Nat) (pre : List Int) : onO p (d + 1) pre = (List.range p.cards.length).flatMap (oF p d pre) := rfl
theorem oF_succ (p : Prs) (d : Nat) (pre : List Int) (j : Nat) : (List.range (j + 1)).flatMap (oF p d pre) = (List.range j).flatMap (oF p d pre) ++ oF p d pre j := by
  rw [List.range_succ, List.flatMap_append]; simp
theorem oF_mono (p : Prs) (d : Nat) (pre : List Int) {j n : Nat} (h : j ≤ n) : ((List.range j).flatMap (oF p d pre)).length ≤ ((List.range n).flatMap (oF p d pre)).length := by
  obtain ⟨m, rfl⟩ := Nat.exists_eq_add_of_le h
  induction m with
  | zero => simp
  | succ m ih =>
    rw [show j + (m + 1) = (j + m) + 1 by omega, oF_succ, List.length_append]
    have := ih (by omega)
    omega
theorem chainF_mem : ∀ (l : List Int) (w : List Int) (last : Int) (x : Int), x ∈ chainF w last l → x ∈ w ∨ x = last ∨ x ∈ l
  | [], w, last, x, h => .inl h
  | y :: r, w, last, x, h => by
    rcases chainF_mem r (w.set y.toNat last) y x h with h1 | h1 | h1
    · rcases List.mem_or_eq_of_mem_set h1 with h2 | h2
      · exact .inl h2
      · exact .inr (.inl h2)
    · exact .inr (.inr (by simp [h1]))
    · exact .inr (.inr (by simp [h1]))
theorem chainL_good {n : Nat} {pre : List Int} (hl : pre.length = n) (hr : ∀ x ∈ pre, 0 ≤ x ∧ x < n) : GoodW n (chainL pre) := by
  refine ⟨by rw [chainL_len]; exact hl, fun x hx => ?_⟩
  rcases chainF_mem _ _ _ _ hx with h | h | h
  · have h2 := List.eq_of_mem_replicate h
    have : 0 < pre.length := by
      cases pre with
      | nil => simp at h
      | cons y r => simp
    omega
  · omega
  · have := hr x h; omega
set_option maxRecDepth 100000 in
set_option maxHeartbeats 4000000 in
theorem or_leaf (H : OrH p a cap bp g pb lb ob W0) {pre : List Int} {acc : List (List Int)} {A : World} {C : Nat → Prop} {v : Value} (hl : pre.length = p.cards.length) (hr : ∀ x ∈ pre, 0 ≤ x ∧ x < p.cards.length)
    (hacc : acc.length ≤ 1000000) (hC : OrC W0 lb acc A C) (hown : A.ownsRow W0.heap.size 3 1 v pre.length (pre.map (Value.int .i64))) :
    Calls Try.prog 101 #[v, .pointer (some ⟨pb, 0, none⟩), .pointer (some ⟨lb, 0, none⟩), .pointer (some ⟨ob, 0, none⟩)] A fun e A' => e = .returned (.tuple #[]) ∧ OrPost W0 lb (acc ++ onO p 0 pre) A C pre.length A' := by
  have hn5 := (valid_parts H.hv).1
  obtain ⟨av, cv, rfl, hcv, _⟩ := own_slice hown
  have hpl := H.pile A hC.same
  have k1 : A.cell? ⟨pb, 0, none⟩ = some (.pointer (some ⟨bp, 0, none⟩)) := by rw [cell_of_heap hpl.1]; rfl
  obtain ⟨c0, _⟩ := hpl.2.1.cells
  obtain ⟨vl, _, hcl, _⟩ := hC.ex
  have cl : A.cell? ⟨lb, 0, none⟩ = some vl := by rw [cell_of_heap hcl]; rfl
  have KP : Hid (∀ w', Below A.heap.size A w' → (w'.cell? ⟨pb, 0, none⟩ = some (.pointer (some ⟨bp, 0, none⟩)) ∧ Below A.heap.size A w')) :=
    fun w' h => ⟨cell_stays h k1, h⟩
  have HCH : Hid (∀ w, Below A.heap.size A w → Calls Try.prog 102 #[.slice av pre.length cv] w fun e w' => ∃ v', e = .returned v' ∧ w'.ownsRow w.heap.size 3 1 v' pre.length ((chainL pre).map (Value.int .i64)) ∧ Below w.heap.size w w') :=
    fun w hb => chain_any (by omega) (fun x hx => by have := hr x hx; omega) ((own_ints hown).mono hb)
  have hgood := chainL_good hl hr
  have HIS : Hid (∀ w ax cx, Below A.heap.size A w → IsInts w ax (chainL pre) → Calls Try.prog 82 #[.pointer (some ⟨bp, 0, none⟩), .slice ax pre.length cx] w fun e w' => e = .returned (.bool (isWayB p (chainL pre))) ∧ Below w.heap.size w w') :=
    fun w ax cx hb hi => by
      have := isWay_any (cw := cx) H.hv hgood (hpl.2.1.mono hb) hi
      rw [chainL_len] at this
      exact this
  have hkn : ((pre.length : Int) == (p.cards.length : Int)) = true := by rw [hl]; simp
  have HH := Lib.hid (And.intro H (And.intro hC (And.intro hown hacc)))
  have HLN := Lib.hid hl
  have HCL := Lib.hid cl
  have hl5 : pre.length ≤ 5 := by omega
  clear hpl hgood hC hown H hl hcl cl hr
  go_enter Try.func101, Try.ntmps101
  go_wp2_with fail
  clear k1 c0 hkn
  go_region_held3 (fun w' => w'.cell? ⟨pb, 0, none⟩ = some (.pointer (some ⟨bp, 0, none⟩)) ∧ Below A.heap.size A w')
    (first | exact KP.out _ S4 | exact KP.out _ S3 | exact KP.out _ (Below.refl _ A).drew)
    (first
      | (go_at_call 102; have C102 := HCH.out A.drew (Below.refl _ A).drew; (with_reducible refine C102.mono ?_); clear C102; rintro e w3 ⟨v3, rfl, O3, hb3⟩; have S3 : Below A.heap.size A w3 := bst ((Below.refl _ A).drew) hb3 (Nat.le_refl _); obtain ⟨ax, cx, rfl, _⟩ := own_slice O3; have I3 := Lib.hid (own_ints (l := chainL pre) (by rw [chainL_len]; exact O3)); clear O3 hb3)
      | (go_at_call 82; have C82 := HIS.out w3 ax cx S3 I3.out; (with_reducible refine C82.mono ?_); clear C82; rintro e w4 ⟨rfl, hb4⟩; have S4 : Below A.heap.size A w4 := bst S3 hb4 (Nat.le_refl _); clear hb4))
  cases hw : isWayB p (chainL pre)
  · have HW := Lib.hid hw
    clear hw
    go_wp2_with fail
    refine bodyPost_ret (results_none rfl _ _ _) rfl ?_
    obtain ⟨H, hC, hown, _⟩ := HH.out
    rw [onO_zero, HW.out]
    refine ⟨rfl, C, by simpa using hC.below S4, S4.size, fun b h0 hb hn => ⟨hn, KeptTo.of_eq (S4.block b hb)⟩⟩
  · have HW := Lib.hid hw
    clear hw
    go_wp2_with fail
    refine wpIn_wide.1 (orApp (k := pre.length) (n := acc.length) (vl := vl) (S0 := fun w => Below A.heap.size A w) (S1 := fun rc w => Below A.heap.size A w ∧ w.ownsRow A.heap.size 3 1 (.slice rc.1 pre.length rc.2) pre.length (pre.map (Value.int .i64)))
      (S2 := fun rc xs w => ∃ V, (Below A.heap.size A V ∧ V.ownsRow A.heap.size 3 1 (.slice rc.1 pre.length rc.2) pre.length (pre.map (Value.int .i64))) ∧ w = V.alloc (.cells #[.slice rc.1 pre.length rc.2] 42) ∧ xs = .slice (some ⟨V.heap.size, 0, none⟩) 1 1)
      (S3 := fun rc xs r2 w => (∃ u, w.cell? ⟨lb, 0, none⟩ = some u) ∧ w.frozen? ⟨lb, 0, none⟩ = false ∧ OrPost W0 lb (acc ++ [pre]) A C pre.length (w.setCell ⟨lb, 0, none⟩ (.slice r2.1 (acc.length + 1) r2.2)))
      (S4 := fun rc xs r2 w => OrPost W0 lb (acc ++ [pre]) A C pre.length w) ?h0 ?l0 ?c2 ?c3 ?c4 ?c5 ?hQ)
    case h0 => exact S4.drew
    case l0 =>
      intro rc xs w h
      have hb : Below A.heap.size A w := by
        rcases h with h | h | ⟨V, h, rfl, _⟩
        · exact h
        · exact h.1
        · exact h.1.alloc h.1.size _
      exact cell_stays hb HCL.out
    case c2 =>
      intro w hb
      refine (clone103 (own_below HH.out.2.2.1 hb) (by omega)).mono ?_
      rintro e w' ⟨v', rfl, h1, h2⟩
      obtain ⟨a1, c1, rfl, _⟩ := own_slice h1
      exact ⟨(a1, c1), rfl, hb.trans (h2.mono hb.size), own_base h1 hb.size⟩
    case c3 => exact fun rc w h => ⟨w, h, rfl, rfl⟩
    case c4 =>
      rintro rc xs w ⟨V, h, rfl, rfl⟩
      obtain ⟨v', w', h1, ⟨a2, c2, rfl⟩, h3⟩ := HH.out.2.1.more h.1 h.2 HH.out.2.2.2 pre.length HCL.out
      exact ⟨(a2, c2), w', h1, h3⟩
    case c5 => exact fun rc xs r2 w h => h
    case hQ =>
      intro rc xs r2 w' hP
      have HP := Lib.hid hP
      clear hP
      go_wp2_with fail
      refine bodyPost_ret (results_none rfl _ _ _) rfl ?_
      rw [onO_zero, HW.out]
      exact ⟨rfl, HP.out⟩
end
end Go.Proofs.Ytnfhlbmapfoifaa

namespace Go.Proofs.Ytnfhlbmapfoifaa
open Go.RowKit
set_option linter.unusedVariables false

section
variable {p : Prs} {a : Option Addr} {cap bp g pb lb ob : Nat} {W0 : World}
/-- A card more has been appended. -/
structure AppO (W0 : World) (lb : Nat) (acc : List (List Int)) (wr : World) (C : Nat → Prop) (pre : List Int) (f : Int) (v' : Value) (w' : World) : Prop where
  on : OrC W0 lb acc w' C
  own : w'.ownsRow W0.heap.size 3 1 v' (pre ++ [f]).length ((pre ++ [f]).map (Value.int .i64))
  nc : ∀ g, v'.ownBlock = some g → ¬ C g
  sz : wr.heap.size ≤ w'.heap.size
  kept : ∀ b, b < wr.heap.size → ¬ C b → KeptTo 3 pre.length wr w' b
theorem OrC.grown {lb : Nat} {acc : List (List Int)} {A B : World} {C : Nat → Prop} {o : Option Nat} (h : OrC W0 lb acc A C) (hg : A.grownBy B o) (ho : ∀ k, o = some k → W0.heap.size ≤ k ∧ ¬ C k) : OrC W0 lb acc B C := by
  obtain ⟨h1, h0, ⟨v, vs, h2, h3, h4, h5, h6⟩, h7⟩ := h
  refine ⟨h1.grown hg (fun k hk => .inr (ho k hk).1), h0, ⟨v, vs, (hg.block lb (heap_lt h2) (fun e => by have := (ho lb e.symm).1; omega)).trans h2, own_blocks h3 (fun g hg' => hg.block g (h3.lt g hg').2 (fun e => (ho g e.symm).2 (h5 g hg'))), h4.blocks (fun vc hvc g hg' => hg.block g (rows_lt h4 hvc hg').2 (fun e => (ho g e.symm).2 (h6 vc hvc g hg'))), h5, h6⟩, fun k hk => ⟨(h7 k hk).1, Nat.lt_of_lt_of_le (h7 k hk).2 hg.size⟩⟩
theorem or_app {pre : List Int} {f : Int} {acc : List (List Int)} {wr w : World} {C : Nat → Prop} {av : Option Addr} {cv gx : Nat} (hk : pre.length ≤ 16) (hC : OrC W0 lb acc wr C)
    (hown : wr.ownsRow W0.heap.size 3 1 (.slice av pre.length cv) pre.length (pre.map (Value.int .i64))) (hnc : ∀ g, (Value.slice av pre.length cv).ownBlock = some g → ¬ C g) (hb : Below wr.heap.size wr w) (hg : w.heap[gx]? = some (.cells #[.int .i64 f] 3 (0, 0))) :
    ∃ v' w', (Builtin.append_ #[42, 42] 42 #[.slice av pre.length cv, .slice (some ⟨gx, 0, none⟩) 1 1]).run Try.prog w = .ok v' w' ∧ AppO W0 lb acc wr C pre f v' w' := by
  obtain ⟨i0, hi0, hz0, hz1, hz2⟩ := info_parts infoI
  have hsz2 : W0.heap.size ≤ wr.heap.size := hC.same.size
  obtain ⟨v', w', hr, h2, h3, h4, h5⟩ := append_keep (P := Try.prog) (w := w) W0.heap.size 42 42 3 i0 _ 8 Try.underlying42 hi0 hz0 hz1 hz2 rfl _ _ _ (own_below hown hb) ⟨gx, 0, none⟩ (.int .i64 f) (by rw [cell_of_heap hg]; rfl) rfl (by simp [maxLen]; omega) (by omega) (by have := hb.size; omega)
  have hrow : ∀ k, (Value.slice av pre.length cv).ownBlock = some k → W0.heap.size ≤ k ∧ k < wr.heap.size := fun k hk => hown.lt k hk
  have hC' := hC.below hb
  refine ⟨v', w', hr, ⟨hC'.grown h3 (fun k hk => ⟨(hrow k hk).1, hnc k hk⟩), ?_, ?_, by have := hb.size; have := h3.size; omega, ?_⟩⟩
  · have e : (pre ++ [f]).length = pre.length + 1 := by simp
    have e2 : (pre ++ [f]).map (Value.int .i64) = pre.map (Value.int .i64) ++ [.int .i64 f] := by simp
    rw [e, e2]
    exact h2
  · intro g hg'
    rcases h4 with h4 | h4
    · rw [h4] at hg'; exact hnc g hg'
    · rw [h4] at hg'
      cases hg'
      exact fun hc => by have := (hC'.bd _ hc).2; omega
  · intro b hb' hn
    have hbw : b < w.heap.size := by have := hb.size; omega
    have h1 : KeptTo 3 pre.length wr w b := KeptTo.of_eq (hb.block b hb')
    by_cases e : (Value.slice av pre.length cv).ownBlock = some b
    · exact h1.trans (h5 b e)
    · exact h1.trans (KeptTo.of_eq (h3.block b hbw (fun e' => e e'.symm)))
set_option maxRecDepth 100000 in
set_option maxHeartbeats 4000000 in
theorem or_any (H : OrH p a cap bp g pb lb ob W0) : ∀ (d : Nat) (pre : List Int) (acc : List (List Int)) (A : World) (C : Nat → Prop) (v : Value), pre.length + d = p.cards.length → (∀ x ∈ pre, 0 ≤ x ∧ x < p.cards.length) →
    acc.length + (onO p d pre).length ≤ 1000000 → OrC W0 lb acc A C → A.ownsRow W0.heap.size 3 1 v pre.length (pre.map (Value.int .i64)) → (∀ g, v.ownBlock = some g → ¬ C g) →
    Calls Try.prog 101 #[v, .pointer (some ⟨pb, 0, none⟩), .pointer (some ⟨lb, 0, none⟩), .pointer (some ⟨ob, 0, none⟩)] A fun e A' => e = .returned (.tuple #[]) ∧ OrPost W0 lb (acc ++ onO p d pre) A C pre.length A' := by
  intro d
  induction d with
  | zero => exact fun pre acc A C v hl hr hacc hC hown _ => or_leaf H hl hr (by omega) hC hown
  | succ d ih =>
    intro pre acc A C v hl hr hacc hC hown hnc
    have hn5 := (valid_parts H.hv).1
    obtain ⟨av, cv, rfl, hcv, _⟩ := own_slice hown
    have HIH := Lib.hid ih
    have hk5 : pre.length ≤ 4 := by omega
    have hkn : ((pre.length : Int) == (p.cards.length : Int)) = false := by simp; omega
    have hpl := H.pile A hC.same
    have k1 : A.cell? ⟨pb, 0, none⟩ = some (.pointer (some ⟨bp, 0, none⟩)) := by rw [cell_of_heap hpl.1]; rfl
    obtain ⟨c0, _⟩ := hpl.2.1.cells
    have HLD := Lib.hid hl
    have HH := Lib.hid (And.intro H (And.intro hr (And.intro hC (And.intro hown (And.intro hnc hacc)))))
    have hn0 : (0 : Int) ≤ (p.cards.length : Int) := by omega
    clear hpl hr hC hown hnc H hl ih hacc
    go_enter Try.func101, Try.ntmps101
    go_wp2_with fail
    clear k1 c0 hkn
    go_loopw [30] (fun q wr => ∃ (j : Nat) (C' : Nat → Prop), j ≤ p.cards.length ∧ q = .int .i64 j ∧ Hid (OrC W0 lb (acc ++ (List.range j).flatMap (oF p d pre)) wr C' ∧ A.heap.size ≤ wr.heap.size ∧ ∀ b, W0.heap.size ≤ b → b < A.heap.size → ¬ C b → ¬ C' b ∧ KeptTo 3 pre.length A wr b)) (fun q _ => p.cards.length - (intOf q).toNat)
    case atStart => exact ⟨0, C, by omega, rfl, by simpa using HH.out.2.2.1, Nat.le_refl _, fun b _ _ hn => ⟨hn, KeptTo.of_eq rfl⟩⟩
    case round =>
      obtain ⟨j, C', hjn, rfl, HR⟩ := hrel
      obtain ⟨H, hr, hC0, hown0, hnc0, hacc⟩ := HH.out
      obtain ⟨hC, hsz, hkp⟩ := HR.out
      by_cases hlt : j < p.cards.length
      · have hj1 : (j : Int) < (p.cards.length : Int) := by omega
        have HCS := Lib.hid (oF_succ p d pre j)
        have hown : wr.ownsRow W0.heap.size 3 1 (.slice av pre.length cv) pre.length (pre.map (Value.int .i64)) := own_keptTo hown0 (fun b hb => (hkp b (hown0.lt b hb).1 (hown0.lt b hb).2 (hnc0 b hb)).2)
        have hnc : ∀ g, (Value.slice av pre.length cv).ownBlock = some g → ¬ C' g := fun b hb => (hkp b (hown0.lt b hb).1 (hown0.lt b hb).2 (hnc0 b hb)).1
        have hints := own_ints hown
        have HO := Lib.hid (And.intro hown (And.intro hnc hints))
        clear hown hnc hC hkp hown0 hnc0 hC0 H hr hints hacc
        by_cases hfk : (j : Int) ∈ pre
        · have HF : Hid (oF p d pre j = []) := by rw [Hid]; unfold oF; rw [if_pos hfk]
          have hdec : decide ((j : Int) ∈ pre) = true := by simpa using hfk
          have HD := Lib.hid hdec
          clear hfk hdec
          go_wp2_with fail
          refine (has104_any (v := (j : Int)) (by omega) HO.out.2.2).mono ?_
          rintro e w' ⟨rfl, rfl⟩
          rw [HD.out]
          go_wp2_with fail
          go_roundw
          case rel =>
            obtain ⟨hC, hsz, hkp⟩ := HR.out
            exact ⟨j + 1, C', by omega, by go_num, by rw [HCS.out, HF.out, List.append_nil]; exact hC, hsz, hkp⟩
          case measure => simp [intOf]; omega
        · have HF : Hid (oF p d pre j = onO p d (pre ++ [(j : Int)])) := by rw [Hid]; unfold oF; rw [if_neg hfk]
          have hdec : decide ((j : Int) ∈ pre) = false := by simpa using hfk
          have HD := Lib.hid hdec
          clear hfk hdec
          go_wp2_with fail
          refine (has104_any (v := (j : Int)) (by omega) HO.out.2.2).mono ?_
          rintro e w' ⟨rfl, rfl⟩
          rw [HD.out]
          go_wp2_with fail
          have hob : ∀ w, Same (fun k => k = lb) W0 w → w.cell? ⟨ob, 0, none⟩ = some (selfO pb lb ob) := fun w hw => by rw [cell_of_heap (HH.out.1.pile w hw).2.2]; rfl
          have HOB := Lib.hid hob
          clear hob
          refine wpIn_wide.1 (orMore (k := pre.length) (pb := pb) (lb := lb) (S0 := fun w => Below wr.heap.size wr w) (S1 := fun xs w => ∃ V, Below wr.heap.size wr V ∧ w = V.alloc (.cells #[.int .i64 (j : Int)] 3) ∧ xs = .slice (some ⟨V.heap.size, 0, none⟩) 1 1)
            (S2 := fun _ v w => AppO W0 lb (acc ++ (List.range j).flatMap (oF p d pre)) wr C' pre (j : Int) v w) (S3 := fun _ _ _ w => OrPost W0 lb (acc ++ (List.range (j + 1)).flatMap (oF p d pre)) wr C' pre.length w) ?h0 ?l0 ?c3 ?c4 ?c5 ?hQ)
          case h0 => exact (Below.refl _ wr).drew
          case l0 =>
            intro xs v w h
            rcases h with h | ⟨V, h, rfl, _⟩ | h
            · exact HOB.out _ (HR.out.1.below h).same
            · exact HOB.out _ (HR.out.1.below (h.alloc h.size _)).same
            · exact HOB.out _ h.on.same
          case c3 => exact fun w h => ⟨w, h, rfl, rfl⟩
          case c4 =>
            rintro xs w ⟨V, h, rfl, rfl⟩
            exact or_app (by omega) HR.out.1 HO.out.1 HO.out.2.1 (h.alloc h.size _) (World.alloc_heap_new V _)
          case c5 =>
            rintro xs v w h
            obtain ⟨H, hr, hC0, hown0, hnc0, hacc⟩ := HH.out
            have hle := oF_mono p d pre (show j + 1 ≤ p.cards.length by omega)
            have hcs := HCS.out
            rw [hcs, HF.out, List.length_append] at hle
            rw [onO_succ] at hacc
            refine (HIH.out (pre ++ [(j : Int)]) _ w C' v (by have := HLD.out; simp; omega) (fun x hx => ?_) (by rw [List.length_append]; omega) h.on h.own h.nc).mono ?_
            · rcases List.mem_append.1 hx with hx | hx
              · exact hr x hx
              · rw [List.mem_singleton.1 hx]; omega
            · rintro e w' ⟨rfl, C2, k1, k2, k3⟩
              refine ⟨.tuple #[], rfl, C2, ?_, Nat.le_trans h.sz k2, fun b h0 hb' hn => ?_⟩
              · rw [hcs, HF.out, ← List.append_assoc]; exact k1
              · have := k3 b h0 (Nat.lt_of_lt_of_le hb' h.sz) hn
                exact ⟨this.1, (h.kept b hb' hn).trans (this.2.mono (by simp))⟩
          case hQ =>
            intro xs v u w' hP
            have HP := Lib.hid hP
            clear hP
            go_wp2_with fail
            go_roundw
            case rel =>
              obtain ⟨_, hsz, hkp⟩ := HR.out
              obtain ⟨C2, k1, k2, k3⟩ := HP.out
              refine ⟨j + 1, C2, by omega, by go_num, k1, Nat.le_trans hsz k2, fun b h0 hb hn => ?_⟩
              have h1 := hkp b h0 hb hn
              have h2 := k3 b h0 (by omega) h1.1
              exact ⟨h2.1, h1.2.trans h2.2⟩
            case measure => simp [intOf]; omega
      · obtain rfl : j = p.cards.length := by omega
        clear hC hkp hown0 hnc0 hC0 H hr hacc
        go_wp2_with fail
        go_end0
        exact ⟨rfl, C', by rw [onO_succ]; exact HR.out.1, HR.out.2⟩
end
end Go.Proofs.Ytnfhlbmapfoifaa

