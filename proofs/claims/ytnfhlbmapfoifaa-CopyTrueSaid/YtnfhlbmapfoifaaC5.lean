/- All orders: the closure that goes on from some cards. All orders: the closure that goes on from some cards: whatever cards. All orders. The fewest originals: the drawn region. There always is a way: all are originals. Fewest. Parents: its drawn regions. Parents: what is gathered. -/
import Derived.Test.YtnfhlbmapfoifaaC4
namespace Go.Proofs.Ytnfhlbmapfoifaa
open Go.RowKit
set_option linter.unusedVariables false
section
variable {p : Prs} {a : Option Addr} {cap bp g pb lb ob : Nat} {W0 : World}
/-- What the walk is given. -/
structure OrH (p : Prs) (a : Option Addr) (cap bp g pb lb ob : Nat) (W0 : World) : Prop where
  hv : p.valid = true
  pile : ∀ A, Same (fun k => k = lb) W0 A → A.heap[pb]? = some (.cells #[.pointer (some ⟨bp, 0, none⟩)] 79 (0, 0)) ∧ PileP A bp p a cap g ∧ A.heap[ob]? = some (.cells #[selfO pb lb ob] 127 (0, 0))
theorem onO_zero (p : Prs) (pre : List Int) : onO p 0 pre = if isWayB p (chainL pre) then [pre] else [] := rfl
def oF (p : Prs) (d : Nat) (pre : List Int) (i : Nat) : List (List Int) := if (i : Int) ∈ pre then [] else onO p d (pre ++ [(i : Int)])
theorem onO_succ (p : Prs) (d : Nat) (pre : List Int) : onO p (d + 1) pre = (List.range p.cards.length).flatMap (oF p d pre) := rfl
theorem oF_succ (p : Prs) (d : Nat) (pre : List Int) (j : Nat) : (List.range (j + 1)).flatMap (oF p d pre) = (List.range j).flatMap (oF p d pre) ++ oF p d pre j := by
  rw [List.range_succ, List.flatMap_append]; simp
theorem oF_mono (p : Prs) (d : Nat) (pre : List Int) {j n : Nat} (h : j ≤ n) : ((List.range j).flatMap (oF p d pre)).length ≤ ((List.range n).flatMap (oF p d pre)).length := by
  obtain ⟨m, rfl⟩ := Nat.exists_eq_add_of_le h
  induction m with
  | zero => simp
  | succ m ih =>
    rw [show j + (m + 1) = (j + m) + 1 by omega, oF_succ, List.length_append]
    have := ih (by omega)
    omega
theorem chainF_mem : ∀ (l : List Int) (w : List Int) (last : Int) (x : Int), x ∈ chainF w last l → x ∈ w ∨ x = last ∨ x ∈ l
  | [], w, last, x, h => .inl h
  | y :: r, w, last, x, h => by
    rcases chainF_mem r (w.set y.toNat last) y x h with h1 | h1 | h1
    · rcases List.mem_or_eq_of_mem_set h1 with h2 | h2
      · exact .inl h2
      · exact .inr (.inl h2)
    · exact .inr (.inr (by simp [h1]))
    · exact .inr (.inr (by simp [h1]))
theorem chainL_good {n : Nat} {pre : List Int} (hl : pre.length = n) (hr : ∀ x ∈ pre, 0 ≤ x ∧ x < n) : GoodW n (chainL pre) := by
  refine ⟨by rw [chainL_len]; exact hl, fun x hx => ?_⟩
  rcases chainF_mem _ _ _ _ hx with h | h | h
  · have h2 := List.eq_of_mem_replicate h
    have : 0 < pre.length := by
      cases pre with
      | nil => simp at h
      | cons y r => simp
    omega
  · omega
  · have := hr x h; omega
set_option maxRecDepth 100000 in
set_option maxHeartbeats 4000000 in
theorem or_leaf (H : OrH p a cap bp g pb lb ob W0) {pre : List Int} {acc : List (List Int)} {A : World} {C : Nat → Prop} {v : Value} (hl : pre.length = p.cards.length) (hr : ∀ x ∈ pre, 0 ≤ x ∧ x < p.cards.length)
    (hacc : acc.length ≤ 1000000) (hC : OrC W0 lb acc A C) (hown : A.ownsRow W0.heap.size 3 1 v pre.length (pre.map (Value.int .i64))) :
    Calls Try.prog 101 #[v, .pointer (some ⟨pb, 0, none⟩), .pointer (some ⟨lb, 0, none⟩), .pointer (some ⟨ob, 0, none⟩)] A fun e A' => e = .returned (.tuple #[]) ∧ OrPost W0 lb (acc ++ onO p 0 pre) A C pre.length A' := by
  have hn5 := (valid_parts H.hv).1
  obtain ⟨av, cv, rfl, hcv, _⟩ := own_slice hown
  have hpl := H.pile A hC.same
  have k1 : A.cell? ⟨pb, 0, none⟩ = some (.pointer (some ⟨bp, 0, none⟩)) := by rw [cell_of_heap hpl.1]; rfl
  obtain ⟨c0, _⟩ := hpl.2.1.cells
  obtain ⟨vl, _, hcl, _⟩ := hC.ex
  have cl : A.cell? ⟨lb, 0, none⟩ = some vl := by rw [cell_of_heap hcl]; rfl
  have KP : Hid (∀ w', Below A.heap.size A w' → (w'.cell? ⟨pb, 0, none⟩ = some (.pointer (some ⟨bp, 0, none⟩)) ∧ Below A.heap.size A w')) :=
    fun w' h => ⟨cell_stays h k1, h⟩
  have HCH : Hid (∀ w, Below A.heap.size A w → Calls Try.prog 102 #[.slice av pre.length cv] w fun e w' => ∃ v', e = .returned v' ∧ w'.ownsRow w.heap.size 3 1 v' pre.length ((chainL pre).map (Value.int .i64)) ∧ Below w.heap.size w w') :=
    fun w hb => chain_any (by omega) (fun x hx => by have := hr x hx; omega) ((own_ints hown).mono hb)
  have hgood := chainL_good hl hr
  have HIS : Hid (∀ w ax cx, Below A.heap.size A w → IsInts w ax (chainL pre) → Calls Try.prog 82 #[.pointer (some ⟨bp, 0, none⟩), .slice ax pre.length cx] w fun e w' => e = .returned (.bool (isWayB p (chainL pre))) ∧ Below w.heap.size w w') :=
    fun w ax cx hb hi => by
      have := isWay_any (cw := cx) H.hv hgood (hpl.2.1.mono hb) hi
      rw [chainL_len] at this
      exact this
  have hkn : ((pre.length : Int) == (p.cards.length : Int)) = true := by rw [hl]; simp
  have HH := Lib.hid (And.intro H (And.intro hC (And.intro hown hacc)))
  have HLN := Lib.hid hl
  have HCL := Lib.hid cl
  have hl5 : pre.length ≤ 5 := by omega
  clear hpl hgood hC hown H hl hcl cl hr
  go_enter Try.func101, Try.ntmps101
  go_wp2_with fail
  clear k1 c0 hkn
  go_region_held3 (fun w' => w'.cell? ⟨pb, 0, none⟩ = some (.pointer (some ⟨bp, 0, none⟩)) ∧ Below A.heap.size A w')
    (first | exact KP.out _ S4 | exact KP.out _ S3 | exact KP.out _ (Below.refl _ A).drew)
    (first
      | (go_at_call 102; have C102 := HCH.out A.drew (Below.refl _ A).drew; (with_reducible refine C102.mono ?_); clear C102; rintro e w3 ⟨v3, rfl, O3, hb3⟩; have S3 : Below A.heap.size A w3 := bst ((Below.refl _ A).drew) hb3 (Nat.le_refl _); obtain ⟨ax, cx, rfl, _⟩ := own_slice O3; have I3 := Lib.hid (own_ints (l := chainL pre) (by rw [chainL_len]; exact O3)); clear O3 hb3)
      | (go_at_call 82; have C82 := HIS.out w3 ax cx S3 I3.out; (with_reducible refine C82.mono ?_); clear C82; rintro e w4 ⟨rfl, hb4⟩; have S4 : Below A.heap.size A w4 := bst S3 hb4 (Nat.le_refl _); clear hb4))
  cases hw : isWayB p (chainL pre)
  · have HW := Lib.hid hw
    clear hw
    go_wp2_with fail
    refine bodyPost_ret (results_none rfl _ _ _) rfl ?_
    obtain ⟨H, hC, hown, _⟩ := HH.out
    rw [onO_zero, HW.out]
    refine ⟨rfl, C, by simpa using hC.below S4, S4.size, fun b h0 hb hn => ⟨hn, KeptTo.of_eq (S4.block b hb)⟩⟩
  · have HW := Lib.hid hw
    clear hw
    go_wp2_with fail
    refine wpIn_wide.1 (orApp (k := pre.length) (n := acc.length) (vl := vl) (S0 := fun w => Below A.heap.size A w) (S1 := fun rc w => Below A.heap.size A w ∧ w.ownsRow A.heap.size 3 1 (.slice rc.1 pre.length rc.2) pre.length (pre.map (Value.int .i64)))
      (S2 := fun rc xs w => ∃ V, (Below A.heap.size A V ∧ V.ownsRow A.heap.size 3 1 (.slice rc.1 pre.length rc.2) pre.length (pre.map (Value.int .i64))) ∧ w = V.alloc (.cells #[.slice rc.1 pre.length rc.2] 42) ∧ xs = .slice (some ⟨V.heap.size, 0, none⟩) 1 1)
      (S3 := fun rc xs r2 w => (∃ u, w.cell? ⟨lb, 0, none⟩ = some u) ∧ w.frozen? ⟨lb, 0, none⟩ = false ∧ OrPost W0 lb (acc ++ [pre]) A C pre.length (w.setCell ⟨lb, 0, none⟩ (.slice r2.1 (acc.length + 1) r2.2)))
      (S4 := fun rc xs r2 w => OrPost W0 lb (acc ++ [pre]) A C pre.length w) ?h0 ?l0 ?c2 ?c3 ?c4 ?c5 ?hQ)
    case h0 => exact S4.drew
    case l0 =>
      intro rc xs w h
      have hb : Below A.heap.size A w := by
        rcases h with h | h | ⟨V, h, rfl, _⟩
        · exact h
        · exact h.1
        · exact h.1.alloc h.1.size _
      exact cell_stays hb HCL.out
    case c2 =>
      intro w hb
      refine (clone103 (own_below HH.out.2.2.1 hb) (by omega)).mono ?_
      rintro e w' ⟨v', rfl, h1, h2⟩
      obtain ⟨a1, c1, rfl, _⟩ := own_slice h1
      exact ⟨(a1, c1), rfl, hb.trans (h2.mono hb.size), own_base h1 hb.size⟩
    case c3 => exact fun rc w h => ⟨w, h, rfl, rfl⟩
    case c4 =>
      rintro rc xs w ⟨V, h, rfl, rfl⟩
      obtain ⟨v', w', h1, ⟨a2, c2, rfl⟩, h3⟩ := HH.out.2.1.more h.1 h.2 HH.out.2.2.2 pre.length HCL.out
      exact ⟨(a2, c2), w', h1, h3⟩
    case c5 => exact fun rc xs r2 w h => h
    case hQ =>
      intro rc xs r2 w' hP
      have HP := Lib.hid hP
      clear hP
      go_wp2_with fail
      refine bodyPost_ret (results_none rfl _ _ _) rfl ?_
      rw [onO_zero, HW.out]
      exact ⟨rfl, HP.out⟩
end
end Go.Proofs.Ytnfhlbmapfoifaa
namespace Go.Proofs.Ytnfhlbmapfoifaa
open Go.RowKit
set_option linter.unusedVariables false
section
variable {p : Prs} {a : Option Addr} {cap bp g pb lb ob : Nat} {W0 : World}
/-- A card more has been appended. -/
structure AppO (W0 : World) (lb : Nat) (acc : List (List Int)) (wr : World) (C : Nat → Prop) (pre : List Int) (f : Int) (v' : Value) (w' : World) : Prop where
  on : OrC W0 lb acc w' C
  own : w'.ownsRow W0.heap.size 3 1 v' (pre ++ [f]).length ((pre ++ [f]).map (Value.int .i64))
  nc : ∀ g, v'.ownBlock = some g → ¬ C g
  sz : wr.heap.size ≤ w'.heap.size
  kept : ∀ b, b < wr.heap.size → ¬ C b → KeptTo 3 pre.length wr w' b
theorem OrC.grown {lb : Nat} {acc : List (List Int)} {A B : World} {C : Nat → Prop} {o : Option Nat} (h : OrC W0 lb acc A C) (hg : A.grownBy B o) (ho : ∀ k, o = some k → W0.heap.size ≤ k ∧ ¬ C k) : OrC W0 lb acc B C := by
  obtain ⟨h1, h0, ⟨v, vs, h2, h3, h4, h5, h6⟩, h7⟩ := h
  refine ⟨h1.grown hg (fun k hk => .inr (ho k hk).1), h0, ⟨v, vs, (hg.block lb (heap_lt h2) (fun e => by have := (ho lb e.symm).1; omega)).trans h2, own_blocks h3 (fun g hg' => hg.block g (h3.lt g hg').2 (fun e => (ho g e.symm).2 (h5 g hg'))), h4.blocks (fun vc hvc g hg' => hg.block g (rows_lt h4 hvc hg').2 (fun e => (ho g e.symm).2 (h6 vc hvc g hg'))), h5, h6⟩, fun k hk => ⟨(h7 k hk).1, Nat.lt_of_lt_of_le (h7 k hk).2 hg.size⟩⟩
theorem or_app {pre : List Int} {f : Int} {acc : List (List Int)} {wr w : World} {C : Nat → Prop} {av : Option Addr} {cv gx : Nat} (hk : pre.length ≤ 16) (hC : OrC W0 lb acc wr C)
    (hown : wr.ownsRow W0.heap.size 3 1 (.slice av pre.length cv) pre.length (pre.map (Value.int .i64))) (hnc : ∀ g, (Value.slice av pre.length cv).ownBlock = some g → ¬ C g) (hb : Below wr.heap.size wr w) (hg : w.heap[gx]? = some (.cells #[.int .i64 f] 3 (0, 0))) :
    ∃ v' w', (Builtin.append_ #[42, 42] 42 #[.slice av pre.length cv, .slice (some ⟨gx, 0, none⟩) 1 1]).run Try.prog w = .ok v' w' ∧ AppO W0 lb acc wr C pre f v' w' := by
  obtain ⟨i0, hi0, hz0, hz1, hz2⟩ := info_parts infoI
  have hsz2 : W0.heap.size ≤ wr.heap.size := hC.same.size
  obtain ⟨v', w', hr, h2, h3, h4, h5⟩ := append_keep (P := Try.prog) (w := w) W0.heap.size 42 42 3 i0 _ 8 Try.underlying42 hi0 hz0 hz1 hz2 rfl _ _ _ (own_below hown hb) ⟨gx, 0, none⟩ (.int .i64 f) (by rw [cell_of_heap hg]; rfl) rfl (by simp [maxLen]; omega) (by omega) (by have := hb.size; omega)
  have hrow : ∀ k, (Value.slice av pre.length cv).ownBlock = some k → W0.heap.size ≤ k ∧ k < wr.heap.size := fun k hk => hown.lt k hk
  have hC' := hC.below hb
  refine ⟨v', w', hr, ⟨hC'.grown h3 (fun k hk => ⟨(hrow k hk).1, hnc k hk⟩), ?_, ?_, by have := hb.size; have := h3.size; omega, ?_⟩⟩
  · have e : (pre ++ [f]).length = pre.length + 1 := by simp
    have e2 : (pre ++ [f]).map (Value.int .i64) = pre.map (Value.int .i64) ++ [.int .i64 f] := by simp
    rw [e, e2]
    exact h2
  · intro g hg'
    rcases h4 with h4 | h4
    · rw [h4] at hg'; exact hnc g hg'
    · rw [h4] at hg'
      cases hg'
      exact fun hc => by have := (hC'.bd _ hc).2; omega
  · intro b hb' hn
    have hbw : b < w.heap.size := by have := hb.size; omega
    have h1 : KeptTo 3 pre.length wr w b := KeptTo.of_eq (hb.block b hb')
    by_cases e : (Value.slice av pre.length cv).ownBlock = some b
    · exact h1.trans (h5 b e)
    · exact h1.trans (KeptTo.of_eq (h3.block b hbw (fun e' => e e'.symm)))
set_option maxRecDepth 100000 in
set_option maxHeartbeats 4000000 in
theorem or_any (H : OrH p a cap bp g pb lb ob W0) : ∀ (d : Nat) (pre : List Int) (acc : List (List Int)) (A : World) (C : Nat → Prop) (v : Value), pre.length + d = p.cards.length → (∀ x ∈ pre, 0 ≤ x ∧ x < p.cards.length) →
    acc.length + (onO p d pre).length ≤ 1000000 → OrC W0 lb acc A C → A.ownsRow W0.heap.size 3 1 v pre.length (pre.map (Value.int .i64)) → (∀ g, v.ownBlock = some g → ¬ C g) →
    Calls Try.prog 101 #[v, .pointer (some ⟨pb, 0, none⟩), .pointer (some ⟨lb, 0, none⟩), .pointer (some ⟨ob, 0, none⟩)] A fun e A' => e = .returned (.tuple #[]) ∧ OrPost W0 lb (acc ++ onO p d pre) A C pre.length A' := by
  intro d
  induction d with
  | zero => exact fun pre acc A C v hl hr hacc hC hown _ => or_leaf H hl hr (by omega) hC hown
  | succ d ih =>
    intro pre acc A C v hl hr hacc hC hown hnc
    have hn5 := (valid_parts H.hv).1
    obtain ⟨av, cv, rfl, hcv, _⟩ := own_slice hown
    have HIH := Lib.hid ih
    have hk5 : pre.length ≤ 4 := by omega
    have hkn : ((pre.length : Int) == (p.cards.length : Int)) = false := by simp; omega
    have hpl := H.pile A hC.same
    have k1 : A.cell? ⟨pb, 0, none⟩ = some (.pointer (some ⟨bp, 0, none⟩)) := by rw [cell_of_heap hpl.1]; rfl
    obtain ⟨c0, _⟩ := hpl.2.1.cells
    have HLD := Lib.hid hl
    have HH := Lib.hid (And.intro H (And.intro hr (And.intro hC (And.intro hown (And.intro hnc hacc)))))
    have hn0 : (0 : Int) ≤ (p.cards.length : Int) := by omega
    clear hpl hr hC hown hnc H hl ih hacc
    go_enter Try.func101, Try.ntmps101
    go_wp2_with fail
    clear k1 c0 hkn
    go_loopw [30] (fun q wr => ∃ (j : Nat) (C' : Nat → Prop), j ≤ p.cards.length ∧ q = .int .i64 j ∧ Hid (OrC W0 lb (acc ++ (List.range j).flatMap (oF p d pre)) wr C' ∧ A.heap.size ≤ wr.heap.size ∧ ∀ b, W0.heap.size ≤ b → b < A.heap.size → ¬ C b → ¬ C' b ∧ KeptTo 3 pre.length A wr b)) (fun q _ => p.cards.length - (intOf q).toNat)
    case atStart => exact ⟨0, C, by omega, rfl, by simpa using HH.out.2.2.1, Nat.le_refl _, fun b _ _ hn => ⟨hn, KeptTo.of_eq rfl⟩⟩
    case round =>
      obtain ⟨j, C', hjn, rfl, HR⟩ := hrel
      obtain ⟨H, hr, hC0, hown0, hnc0, hacc⟩ := HH.out
      obtain ⟨hC, hsz, hkp⟩ := HR.out
      by_cases hlt : j < p.cards.length
      · have hj1 : (j : Int) < (p.cards.length : Int) := by omega
        have HCS := Lib.hid (oF_succ p d pre j)
        have hown : wr.ownsRow W0.heap.size 3 1 (.slice av pre.length cv) pre.length (pre.map (Value.int .i64)) := own_keptTo hown0 (fun b hb => (hkp b (hown0.lt b hb).1 (hown0.lt b hb).2 (hnc0 b hb)).2)
        have hnc : ∀ g, (Value.slice av pre.length cv).ownBlock = some g → ¬ C' g := fun b hb => (hkp b (hown0.lt b hb).1 (hown0.lt b hb).2 (hnc0 b hb)).1
        have hints := own_ints hown
        have HO := Lib.hid (And.intro hown (And.intro hnc hints))
        clear hown hnc hC hkp hown0 hnc0 hC0 H hr hints hacc
        by_cases hfk : (j : Int) ∈ pre
        · have HF : Hid (oF p d pre j = []) := by rw [Hid]; unfold oF; rw [if_pos hfk]
          have hdec : decide ((j : Int) ∈ pre) = true := by simpa using hfk
          have HD := Lib.hid hdec
          clear hfk hdec
          go_wp2_with fail
          refine (has104_any (v := (j : Int)) (by omega) HO.out.2.2).mono ?_
          rintro e w' ⟨rfl, rfl⟩
          rw [HD.out]
          go_wp2_with fail
          go_roundw
          case rel =>
            obtain ⟨hC, hsz, hkp⟩ := HR.out
            exact ⟨j + 1, C', by omega, by go_num, by rw [HCS.out, HF.out, List.append_nil]; exact hC, hsz, hkp⟩
          case measure => simp [intOf]; omega
        · have HF : Hid (oF p d pre j = onO p d (pre ++ [(j : Int)])) := by rw [Hid]; unfold oF; rw [if_neg hfk]
          have hdec : decide ((j : Int) ∈ pre) = false := by simpa using hfk
          have HD := Lib.hid hdec
          clear hfk hdec
          go_wp2_with fail
          refine (has104_any (v := (j : Int)) (by omega) HO.out.2.2).mono ?_
          rintro e w' ⟨rfl, rfl⟩
          rw [HD.out]
          go_wp2_with fail
          have hob : ∀ w, Same (fun k => k = lb) W0 w → w.cell? ⟨ob, 0, none⟩ = some (selfO pb lb ob) := fun w hw => by rw [cell_of_heap (HH.out.1.pile w hw).2.2]; rfl
          have HOB := Lib.hid hob
          clear hob
          refine wpIn_wide.1 (orMore (k := pre.length) (pb := pb) (lb := lb) (S0 := fun w => Below wr.heap.size wr w) (S1 := fun xs w => ∃ V, Below wr.heap.size wr V ∧ w = V.alloc (.cells #[.int .i64 (j : Int)] 3) ∧ xs = .slice (some ⟨V.heap.size, 0, none⟩) 1 1)
            (S2 := fun _ v w => AppO W0 lb (acc ++ (List.range j).flatMap (oF p d pre)) wr C' pre (j : Int) v w) (S3 := fun _ _ _ w => OrPost W0 lb (acc ++ (List.range (j + 1)).flatMap (oF p d pre)) wr C' pre.length w) ?h0 ?l0 ?c3 ?c4 ?c5 ?hQ)
          case h0 => exact (Below.refl _ wr).drew
          case l0 =>
            intro xs v w h
            rcases h with h | ⟨V, h, rfl, _⟩ | h
            · exact HOB.out _ (HR.out.1.below h).same
            · exact HOB.out _ (HR.out.1.below (h.alloc h.size _)).same
            · exact HOB.out _ h.on.same
          case c3 => exact fun w h => ⟨w, h, rfl, rfl⟩
          case c4 =>
            rintro xs w ⟨V, h, rfl, rfl⟩
            exact or_app (by omega) HR.out.1 HO.out.1 HO.out.2.1 (h.alloc h.size _) (World.alloc_heap_new V _)
          case c5 =>
            rintro xs v w h
            obtain ⟨H, hr, hC0, hown0, hnc0, hacc⟩ := HH.out
            have hle := oF_mono p d pre (show j + 1 ≤ p.cards.length by omega)
            have hcs := HCS.out
            rw [hcs, HF.out, List.length_append] at hle
            rw [onO_succ] at hacc
            refine (HIH.out (pre ++ [(j : Int)]) _ w C' v (by have := HLD.out; simp; omega) (fun x hx => ?_) (by rw [List.length_append]; omega) h.on h.own h.nc).mono ?_
            · rcases List.mem_append.1 hx with hx | hx
              · exact hr x hx
              · rw [List.mem_singleton.1 hx]; omega
            · rintro e w' ⟨rfl, C2, k1, k2, k3⟩
              refine ⟨.tuple #[], rfl, C2, ?_, Nat.le_trans h.sz k2, fun b h0 hb' hn => ?_⟩
              · rw [hcs, HF.out, ← List.append_assoc]; exact k1
              · have := k3 b h0 (Nat.lt_of_lt_of_le hb' h.sz) hn
                exact ⟨this.1, (h.kept b hb' hn).trans (this.2.mono (by simp))⟩
          case hQ =>
            intro xs v u w' hP
            have HP := Lib.hid hP
            clear hP
            go_wp2_with fail
            go_roundw
            case rel =>
              obtain ⟨_, hsz, hkp⟩ := HR.out
              obtain ⟨C2, k1, k2, k3⟩ := HP.out
              refine ⟨j + 1, C2, by omega, by go_num, k1, Nat.le_trans hsz k2, fun b h0 hb hn => ?_⟩
              have h1 := hkp b h0 hb hn
              have h2 := k3 b h0 (by omega) h1.1
              exact ⟨h2.1, h1.2.trans h2.2⟩
            case measure => simp [intOf]; omega
      · obtain rfl : j = p.cards.length := by omega
        clear hC hkp hown0 hnc0 hC0 H hr hacc
        go_wp2_with fail
        go_end0
        exact ⟨rfl, C', by rw [onO_succ]; exact HR.out.1, HR.out.2⟩
end
end Go.Proofs.Ytnfhlbmapfoifaa
namespace Go.Proofs.Ytnfhlbmapfoifaa
open Go.RowKit
set_option linter.unusedVariables false
theorem onO_len {p : Prs} (hn : p.cards.length ≤ 5) : ∀ (d : Nat) (pre : List Int), (onO p d pre).length ≤ 6 ^ d
  | 0, pre => by
    rw [onO_zero]
    split <;> simp
  | d + 1, pre => by
    rw [onO_succ]
    have h1 := flat_len (oF p d pre) (6 ^ d) (List.range p.cards.length) (fun x _ => by
      unfold oF
      split
      · simp
      · exact onO_len hn d _)
    have h2 : (List.range p.cards.length).length ≤ 6 := by simp; omega
    have h3 := Nat.mul_le_mul_right (6 ^ d) h2
    rw [Nat.pow_succ]
    omega
theorem orders_len {p : Prs} (hv : p.valid = true) : (ordersL p).length ≤ 1000000 := by
  have hn := (valid_parts hv).1
  have h1 := onO_len hn p.cards.length []
  have h2 := Nat.pow_le_pow_right (n := 6) (by decide) hn
  unfold ordersL
  have : (6 ^ 5 : Nat) = 7776 := by decide
  omega
/-- Lists that lie in memory of their own. -/
def RowsAt (w : World) (B : Nat) (v : Value) (l : List (List Int)) : Prop := ∃ vs, w.ownsRow B 42 1 v l.length vs ∧ RowsOf w B vs l
theorem RowsAt.below {w w' : World} {B : Nat} {v : Value} {l : List (List Int)} (h : RowsAt w B v l) (hb : Below w.heap.size w w') : RowsAt w' B v l := by
  obtain ⟨vs, h1, h2⟩ := h
  exact ⟨vs, own_below h1 hb, h2.blocks (fun vc hvc g hg => hb.block _ (rows_lt h2 hvc hg).2)⟩
theorem RowsAt.base {w : World} {B B' : Nat} {v : Value} {l : List (List Int)} (h : RowsAt w B v l) (hB : B' ≤ B) : RowsAt w B' v l := by
  obtain ⟨vs, h1, h2⟩ := h
  exact ⟨vs, own_base h1 hB, h2.1, fun i x hx => by
    obtain ⟨vc, e1, e2⟩ := h2.2 i x hx
    exact ⟨vc, e1, own_base e2 hB⟩⟩
theorem RowsAt.blocks {w w' : World} {B : Nat} {v : Value} {l : List (List Int)} (h : RowsAt w B v l) (hb : ∀ k, B ≤ k → w'.heap[k]? = w.heap[k]?) : RowsAt w' B v l := by
  obtain ⟨vs, h1, h2⟩ := h
  exact ⟨vs, own_blocks h1 (fun g hg => hb g (h1.lt g hg).1), h2.blocks (fun vc hvc g hg => hb g (rows_lt h2 hvc hg).1)⟩
theorem res_c32 {fn : Func} {p : Tmp} (h : fn.results = #[.cell p 32]) (tmps : Array Value) {w : World} {a : Nat} {x : Value} (hp : tmps.getD p undef = .pointer (some ⟨a, 0, none⟩)) (hx : w.cell? ⟨a, 0, none⟩ = some x) :
    (results fn tmps).run Try.prog w = .ok x w := by
  have hp' : tmps[p]?.getD undef = .pointer (some ⟨a, 0, none⟩) := by simpa using hp
  simp [results, h, hp', hx, go_sem]
theorem ordersE_no {p : Prs} (h : p.valid = false) : ordersE p = 1 := by unfold ordersE; rw [h]; rfl
theorem ordersE_none {p : Prs} (h : p.valid = true) (h2 : ordersL p = []) : ordersE p = 4 := by unfold ordersE; rw [h, h2]; rfl
theorem ordersE_ok {p : Prs} (h : p.valid = true) (h2 : ordersL p ≠ []) : ordersE p = 0 := by
  unfold ordersE
  rw [h]
  cases e : ordersL p with
  | nil => exact absurd e h2
  | cons x r => rfl
set_option maxRecDepth 100000 in
set_option maxHeartbeats 4000000 in
theorem orders63 {p : Prs} {a : Option Addr} {cap : Nat} {w : World} (ha : IsPrts w a p.cards) (hn : p.cards.length ≤ 16) :
    Calls Try.prog 63 #[p.v a cap] w fun e w' => ((ordersE p = 0 ∧ ∃ v, e = .returned v ∧ RowsAt w' w.heap.size v (ordersL p)) ∨ (ordersE p ≠ 0 ∧ e = .panicked [{ v := .iface 115 (.agg #[.int .i64 (ordersE p)]), recovered := false }])) ∧ Below w.heap.size w w' := by
  have hmf : ∀ (fn : Fn) (first cap : Array Value) (w : World), (Instr.makeFunc fn first cap).run Try.prog w = .ok (.func fn first cap) w := fun _ _ _ _ => rfl
  obtain ⟨W1, hW1⟩ : ∃ W1 : World, W1 = (w.alloc (.cells (p.cells a cap) 26)).alloc (.cells #[.slice none 0 0] 32) := ⟨_, rfl⟩
  have hb1 : Below w.heap.size w W1 := by rw [hW1]; exact ((Below.refl _ w).alloc (Nat.le_refl _) _).alloc (by simp) _
  have hz1 : W1.heap.size = w.heap.size + 2 := by rw [hW1]; simp
  have q1 : W1.heap[w.heap.size]? = some (.cells (p.cells a cap) 26 (0, 0)) := by
    rw [hW1]
    exact (Below.heap_alloc _ _ _ (by simp)).trans (World.alloc_heap_new w _)
  have q2 : W1.heap[w.heap.size + 1]? = some (.cells #[.slice none 0 0] 32 (0, 0)) := by
    rw [hW1]
    have := World.alloc_heap_new (w.alloc (.cells (p.cells a cap) 26)) (.cells #[.slice none 0 0] 32)
    rw [World.size_alloc] at this
    exact this
  have ha1 := ha.mono hb1
  have H1 := Lib.hid (And.intro hW1 (And.intro hb1 (And.intro hz1 (And.intro ha1 q2))))
  obtain ⟨k0, k1, k2, k3, k4⟩ := prs_cells q1
  have HA := Lib.hid ha
  clear hW1 hb1 hz1 q1 q2 ha ha1
  go_enter Try.func63, Try.ntmps63
  go_upto_region 1 with fail
  have hW1 := H1.out.1
  rw [← hW1]
  clear hW1
  cases hv : p.valid with
  | false =>
    have HE : Hid (ordersE p = 1) := ordersE_no hv
    have HO : Hid (openE p true = 1) := by unfold Hid openE; rw [hv]; rfl
    clear hv
    go_wp2_with fail
    refine (open_no H1.out.2.2.2.1 hn true (by rw [HO.out]; decide)).mono ?_
    rintro e w2 ⟨rfl, hb2⟩
    rw [HO.out]
    have HB2 := Lib.hid hb2
    clear hb2
    go_wp2_with fail
    rw [HE.out]
    exact ⟨rfl, .inr ⟨by decide, rfl⟩, bst H1.out.2.1 HB2.out (Nat.le_refl _)⟩
  | true =>
    have HV := Lib.hid hv
    clear hv
    go_wp2_with fail
    refine (open_yes H1.out.2.2.2.1 hn HV.out).mono ?_
    rintro e w2 ⟨bp, g, rfl, hbp, hP, hb2⟩
    clear k0 k1 k2 k3 k4
    have hz2 : w.heap.size + 2 ≤ w2.heap.size := by have := hb2.size; have := H1.out.2.2.1; omega
    have HP := Lib.hid (And.intro hP (And.intro hb2 hz2))
    clear hP hb2 hz2 hbp
    go_wp2_with fail
    obtain ⟨W2, hW2⟩ : ∃ W2 : World, W2 = ((w2.alloc (.cells #[.pointer (some ⟨bp, 0, none⟩)] 79)).alloc (.cells #[selfO w2.heap.size (w.heap.size + 1) (w2.heap.size + 1)] 127)) := ⟨_, rfl⟩
    have hb3 : Below w2.heap.size w2 W2 := by rw [hW2]; exact ((Below.refl _ w2).alloc (Nat.le_refl _) _).alloc (by simp) _
    have hz3 : W2.heap.size = w2.heap.size + 2 := by rw [hW2]; simp
    have q3 : W2.heap[w2.heap.size]? = some (.cells #[.pointer (some ⟨bp, 0, none⟩)] 79 (0, 0)) := by
      rw [hW2]
      exact (Below.heap_alloc _ _ _ (by simp)).trans (World.alloc_heap_new w2 _)
    have q4 : W2.heap[w2.heap.size + 1]? = some (.cells #[selfO w2.heap.size (w.heap.size + 1) (w2.heap.size + 1)] 127 (0, 0)) := by
      rw [hW2]
      have := World.alloc_heap_new (w2.alloc (.cells #[.pointer (some ⟨bp, 0, none⟩)] 79)) (.cells #[selfO w2.heap.size (w.heap.size + 1) (w2.heap.size + 1)] 127)
      rw [World.size_alloc] at this
      exact this
    rw [← hW2]
    clear hW2
    obtain ⟨_, hB1, hz1, ha1, q2⟩ := H1.out
    obtain ⟨hP, hb2, hz2⟩ := HP.out
    have hB3 : Below w.heap.size w W2 := bst (bst hB1 hb2 (Nat.le_refl _)) hb3 (Nat.le_refl _)
    have q2' : W2.heap[w.heap.size + 1]? = some (.cells #[.slice none 0 0] 32 (0, 0)) := (hb3.block _ (by omega)).trans ((hb2.block _ (by omega)).trans q2)
    have hP3 := hP.mono hb3
    have hH : OrH p a cap bp g w2.heap.size (w.heap.size + 1) (w2.heap.size + 1) W2 := by
      refine ⟨HV.out, fun A hA => ?_⟩
      have hBA : Below w.heap.size w A := hB3.trans (hA.below (by omega) (fun k hk e => by omega))
      have hk : ∀ k, k < W2.heap.size → k ≠ w.heap.size + 1 → A.heap[k]? = W2.heap[k]? := fun k hk hne => hA.block k hk hne
      refine ⟨(hk _ (by omega) (by omega)).trans q3, ⟨(hk _ (heap_lt hP3.pile) ?_).trans hP3.pile, (hk _ (heap_lt hP3.loss) ?_).trans hP3.loss, HA.out.mono hBA⟩, (hk _ (by omega) (by omega)).trans q4⟩
      · rintro rfl
        have := hP3.pile
        rw [q2'] at this
        simp at this
      · rintro rfl
        have := hP3.loss
        rw [q2'] at this
        simp at this
    have hC : OrC W2 (w.heap.size + 1) [] W2 (fun _ => False) := ⟨Same.refl _ _, by omega, ⟨_, [], q2', World.ownsRow_nil _ _ _ _, ⟨rfl, fun i x hx => by simp at hx⟩, (fun g hg => by cases hg), (fun c hc => by cases hc)⟩, fun k hk => hk.elim⟩
    have hlen := orders_len HV.out
    refine (or_any hH p.cards.length [] [] W2 (fun _ => False) (.slice none 0 0) (by simp) (fun x hx => by simp at hx) (by rw [List.length_nil, Nat.zero_add]; exact hlen) hC (World.ownsRow_nil _ _ _ _) (fun g hg => by cases hg)).mono ?_
    rintro e w3 ⟨rfl, C3, hC3, hsz3, _⟩
    rw [List.nil_append] at hC3
    change OrC W2 (w.heap.size + 1) (ordersL p) w3 C3 at hC3
    obtain ⟨hs3, hlt3, ⟨v, vs, h3, h4, h5, _, _⟩, _⟩ := hC3
    obtain ⟨ax, cx, rfl, hcx, _⟩ := own_slice h4
    have c3 : w3.cell? ⟨w.heap.size + 1, 0, none⟩ = some (.slice ax (ordersL p).length cx) := by rw [cell_of_heap h3]; rfl
    have f3 : w3.frozen? ⟨w.heap.size + 1, 0, none⟩ = false := frozen_of_heap h3
    have hB4 : Below w.heap.size w w3 := hB3.trans (hs3.below (by omega) (fun k hk e => by omega))
    have HR : Hid (RowsAt w3 W2.heap.size (.slice ax (ordersL p).length cx) (ordersL p)) := ⟨vs, h4, h5⟩
    have HF := Lib.hid (And.intro h3 (And.intro hB4 (And.intro hz3 (And.intro hz2 hlt3))))
    have HL := Lib.hid hlen
    clear hs3 hlt3 h3 h4 h5 hB4 hH hC hP3 q2' hB3 hP hb2 hz2 hB1 hz1 ha1 q2 q3 q4 hb3 hz3 hsz3 hlen hcx
    have hN0 : (0 : Int) ≤ (ordersL p).length := by omega
    by_cases h0 : ordersL p = []
    · have HE : Hid (ordersE p = 4) := ordersE_none HV.out h0
      have hn0 : ((ordersL p).length : Int) = 0 := by rw [h0]; rfl
      clear h0 hN0
      go_wp2_with fail
      refine (need_no _ _).mono ?_
      rintro e w' ⟨rfl, rfl⟩
      go_wp2_with fail
      rw [HE.out]
      exact ⟨rfl, .inr ⟨by decide, rfl⟩, HF.out.2.1⟩
    · have HE : Hid (ordersE p = 0) := ordersE_ok HV.out h0
      have hn0 : 0 < (ordersL p).length := List.length_pos_iff.2 h0
      clear h0 hN0
      go_wp2_with fail
      refine (need_yes _ _).mono ?_
      rintro e w' ⟨rfl, rfl⟩
      go_wp2_with fail
      obtain ⟨h3, hB4, hz3, hz2, hlt3⟩ := HF.out
      have e1 := heap_setCell_at (k := 0) h3 (.slice ax (ordersL p).length cx)
      refine bodyPost_ret (v := .slice ax (ordersL p).length cx) (res_c32 rfl _ rfl (by rw [cell_of_heap e1]; rfl)) rfl ⟨.inl ⟨HE.out, _, rfl, ?_⟩, hB4.setCell (by show w.heap.size ≤ w.heap.size + 1; omega) _⟩
      exact (HR.out.blocks (fun k hk => Below.heap_setCell _ _ _ _ (by show k ≠ w.heap.size + 1; omega))).base (by omega)
/-- What 'Orders' returns. -/
def OrdersOut (p : Prs) (B : Nat) (v : Value) (w : World) : Prop := (ordersE p = 0 → RowsAt w B v (ordersL p)) ∧ (ordersE p ≠ 0 → v = .slice none 0 0)
set_option maxRecDepth 100000 in
set_option maxHeartbeats 4000000 in
theorem orders17 {p : Prs} {a : Option Addr} {cap : Nat} {w : World} (ha : IsPrts w a p.cards) (hn : p.cards.length ≤ 16) :
    Calls Try.prog 17 #[p.v a cap] w fun e w' => ∃ v, e = .returned (.tuple #[v, .int .i64 (ordersE p)]) ∧ OrdersOut p w.heap.size v w' ∧ Below w.heap.size w w' := by
  have hmf : ∀ (fn : Fn) (first cap : Array Value) (w : World), (Instr.makeFunc fn first cap).run Try.prog w = .ok (.func fn first cap) w := fun _ _ _ _ => rfl
  have cf : ∀ (args : Array Value) (w : World), (callFunc 62 args).run Try.prog w = .ok (.enter 62 args) w := cf62
  have HC62 := Lib.hid cf
  clear cf
  refine calls_of_wp_x Try.func17 rfl ?_
  simp only [Try.ntmps17, List.size_toArray, List.length_cons, List.length_nil, Nat.reduceAdd, Nat.reduceSub, Array.replicate_succ, Array.replicate_zero, List.push_toArray, List.append_toArray, List.nil_append, List.cons_append]
  go_wp2_with fail
  obtain ⟨W1, hW1⟩ : ∃ W1 : World, W1 = (w.alloc (.cells (p.cells a cap) 26)).alloc (.cells #[.int .i64 0] 29) := ⟨_, rfl⟩
  have hb1 : Below w.heap.size w W1 := by rw [hW1]; exact ((Below.refl _ w).alloc (Nat.le_refl _) _).alloc (by simp) _
  have hz1 : W1.heap.size = w.heap.size + 2 := by rw [hW1]; simp
  have q2 : W1.heap[w.heap.size + 1]? = some (.cells #[.int .i64 0] 29 (0, 0)) := by
    rw [hW1]
    have := World.alloc_heap_new (w.alloc (.cells (p.cells a cap) 26)) (.cells #[.int .i64 0] 29)
    rw [World.size_alloc] at this
    exact this
  have ha1 := ha.mono hb1
  rw [← hW1]
  clear hW1 ha
  refine (orders63 ha1 hn).mono ?_
  rintro e w2 ⟨h2, hb2⟩
  have he2 := (hb2.block (w.heap.size + 1) (by omega)).trans q2
  have hc2 : w2.cell? ⟨w.heap.size + 1, 0, none⟩ = some (.int .i64 0) := by rw [cell_of_heap he2]; rfl
  have hf2 : w2.frozen? ⟨w.heap.size + 1, 0, none⟩ = false := frozen_of_heap he2
  have hB2 := hb1.trans (hb2.mono (by omega))
  have hz2 := hb2.size
  rcases h2 with ⟨hE, v, rfl, hR⟩ | ⟨hE, rfl⟩
  · obtain ⟨vs, hr1, hr2⟩ := hR
    obtain ⟨av, cv, rfl, _⟩ := own_slice hr1
    have HR : Hid (RowsAt w2 W1.heap.size (.slice av (ordersL p).length cv) (ordersL p)) := ⟨vs, hr1, hr2⟩
    have HF := Lib.hid (And.intro he2 (And.intro hB2 (And.intro hz1 (And.intro hz2 hE))))
    clear hr1 hr2 he2 hB2 hz1 hz2 hE hb2 q2 hb1 ha1
    go_wp2_with fail
    obtain ⟨he2, hB2, hz1, hz2, hE⟩ := HF.out
    have e1 := heap_setCell_at (k := 0) he2 (.int .i64 0)
    refine ⟨[], _, rfl, leaves_ok (recov62_ok _ _) HC62.out (res_tc rfl _ rfl (x := .int .i64 0) (by rw [cell_of_heap e1]; rfl)) ⟨.slice av (ordersL p).length cv, ?_, ⟨fun _ => ?_, fun h => (h hE).elim⟩, hB2.setCell (by show w.heap.size ≤ w.heap.size + 1; omega) _⟩⟩
    · rw [hE]; rfl
    · exact (HR.out.blocks (fun k hk => Below.heap_setCell _ _ _ _ (by show k ≠ w.heap.size + 1; omega))).base (by omega)
  · have hb3 : Below w.heap.size w ((w2.alloc (.cells #[.int .i64 (ordersE p)] 115)).setCell ⟨w.heap.size + 1, 0, none⟩ (.int .i64 (ordersE p))) :=
      (hB2.alloc hB2.size _).setCell (by simp) _
    have hcell := World.cell?_setCell_same (w2.alloc (.cells #[.int .i64 (ordersE p)] 115)) ⟨w.heap.size + 1, 0, none⟩ (.int .i64 (ordersE p)) (cell_stays ((Below.refl _ w2).alloc (Nat.le_refl _) _) hc2)
    exact ⟨[], _, rfl, leaves_no (recov62_no (ordersE p) hc2 hf2) rfl HC62.out (res_tc rfl _ rfl hcell) ⟨_, rfl, ⟨fun h => (hE h).elim, fun _ => rfl⟩, hb3⟩⟩
end Go.Proofs.Ytnfhlbmapfoifaa
namespace Go.Proofs.Ytnfhlbmapfoifaa
open Go.RowKit
set_option linter.unusedVariables false
structure few3F (W1 : World) (b off n cap : Nat) (vf vx : Value) (at_ : Option Addr) (d : Nat → Bool) (x12 x13 x14 x15 x16 x17 x6 : Value) (w : World) : Prop where
  same : Below W1.heap.size W1 w
  f0 : d 0 = true → x12 = .slice (some ⟨b, off, none⟩) (n + 1) cap
  f1 : d 1 = true → x13 = .pointer (some ⟨b, off, none⟩)
  f2 : d 2 = true → x14 = vf
  f3 : d 3 = true → x15 = .slice (some ⟨b, off, none⟩) (n + 1) cap
  f4 : d 4 = true → x16 = .slice at_ n (cap - 1)
  f5 : d 5 = true → x17 = vx
  f6 : d 6 = true → x6 = vx
section
variable {W1 : World} {b off n cap : Nat} {vf vx : Value} {at_ : Option Addr} {d : Nat → Bool} {x12 x13 x14 x15 x16 x17 x6 : Value} {w w' : World}
theorem few3F.s0 (F : few3F W1 b off n cap vf vx at_ d x12 x13 x14 x15 x16 x17 x6 w) : few3F W1 b off n cap vf vx at_ (upd d 0) (.slice (some ⟨b, off, none⟩) (n + 1) cap) x13 x14 x15 x16 x17 x6 w := ⟨F.same, fun _ => rfl, F.f1, F.f2, F.f3, F.f4, F.f5, F.f6⟩
theorem few3F.s1 (F : few3F W1 b off n cap vf vx at_ d x12 x13 x14 x15 x16 x17 x6 w) : few3F W1 b off n cap vf vx at_ (upd d 1) x12 (.pointer (some ⟨b, off, none⟩)) x14 x15 x16 x17 x6 w := ⟨F.same, F.f0, fun _ => rfl, F.f2, F.f3, F.f4, F.f5, F.f6⟩
theorem few3F.s2 (F : few3F W1 b off n cap vf vx at_ d x12 x13 x14 x15 x16 x17 x6 w) : few3F W1 b off n cap vf vx at_ (upd d 2) x12 x13 (vf) x15 x16 x17 x6 w := ⟨F.same, F.f0, F.f1, fun _ => rfl, F.f3, F.f4, F.f5, F.f6⟩
theorem few3F.s3 (F : few3F W1 b off n cap vf vx at_ d x12 x13 x14 x15 x16 x17 x6 w) : few3F W1 b off n cap vf vx at_ (upd d 3) x12 x13 x14 (.slice (some ⟨b, off, none⟩) (n + 1) cap) x16 x17 x6 w := ⟨F.same, F.f0, F.f1, F.f2, fun _ => rfl, F.f4, F.f5, F.f6⟩
theorem few3F.s4 (F : few3F W1 b off n cap vf vx at_ d x12 x13 x14 x15 x16 x17 x6 w) : few3F W1 b off n cap vf vx at_ (upd d 4) x12 x13 x14 x15 (.slice at_ n (cap - 1)) x17 x6 w := ⟨F.same, F.f0, F.f1, F.f2, F.f3, fun _ => rfl, F.f5, F.f6⟩
theorem few3F.s5 (F : few3F W1 b off n cap vf vx at_ d x12 x13 x14 x15 x16 x17 x6 w) : few3F W1 b off n cap vf vx at_ (upd d 5) x12 x13 x14 x15 x16 (vx) x6 w := ⟨F.same, F.f0, F.f1, F.f2, F.f3, F.f4, fun _ => rfl, F.f6⟩
theorem few3F.s6 (F : few3F W1 b off n cap vf vx at_ d x12 x13 x14 x15 x16 x17 x6 w) : few3F W1 b off n cap vf vx at_ (upd d 6) x12 x13 x14 x15 x16 x17 (vx) w := ⟨F.same, F.f0, F.f1, F.f2, F.f3, F.f4, F.f5, fun _ => rfl⟩
theorem few3F.below (F : few3F W1 b off n cap vf vx at_ d x12 x13 x14 x15 x16 x17 x6 w) (hb : Below w.heap.size w w') : few3F W1 b off n cap vf vx at_ d x12 x13 x14 x15 x16 x17 x6 w' := by
  refine ⟨F.same.trans (hb.mono F.same.size), F.f0, F.f1, F.f2, F.f3, F.f4, F.f5, F.f6⟩
end
noncomputable def few3C : Code := (Try.f28.body.bind (regionAt 3)).getD .skip
set_option maxRecDepth 100000 in
set_option maxHeartbeats 4000000 in
theorem few3 {W1 : World} {b off n cap : Nat} {vf vx : Value} {at_ : Option Addr} {Q : Exit → Act → World → Prop} (hF : Hid (W1.cell? ⟨b, off, none⟩ = some vf)) (hcap : n + 1 ≤ cap) (hat : (if cap = 1 then some (⟨b, off, none⟩ : Addr) else some ⟨b, off + 1, none⟩) = at_) (hC : Hid (∀ w, Below W1.heap.size W1 w → Calls Try.prog 54 #[.func (.func 55) #[] #[], vf, .slice at_ n (cap - 1)] w fun e w' => e = .returned vx ∧ Below w.heap.size w w'))
    {s0 s1 s2 s3 s4 s6 s7 s8 s9 s10 s11 s12 s13 s14 s15 s16 s17 s18 s19 s20 : Value} {dd : List Deferred}
    (hQ : ∀ (x12 x13 x14 x15 x16 x17 x6 : Value) (w' : World), Below W1.heap.size W1 w' → x12 = .slice (some ⟨b, off, none⟩) (n + 1) cap → x13 = .pointer (some ⟨b, off, none⟩) → x14 = vf → x15 = .slice (some ⟨b, off, none⟩) (n + 1) cap → x16 = .slice at_ n (cap - 1) → x17 = vx → x6 = vx → Q .normal { tmps := #[s0, s1, s2, s3, s4, .slice (some ⟨b, off, none⟩) (n + 1) cap, x6, s7, s8, s9, s10, s11, x12, x13, x14, x15, x16, x17, s18, s19, s20], defers := dd } w') :
    Code.wp Try.prog few3C Q { tmps := #[s0, s1, s2, s3, s4, .slice (some ⟨b, off, none⟩) (n + 1) cap, s6, s7, s8, s9, s10, s11, s12, s13, s14, s15, s16, s17, s18, s19, s20], defers := dd } W1 := by
  have HQ := Lib.hid hQ
  clear hQ
  conv => arg 2; whnf
  refine wp_region_inv mixed (by kernel_rfl) (fun d_ a_ w' => ∃ x12 x13 x14 x15 x16 x17 x6, a_ = { tmps := #[s0, s1, s2, s3, s4, .slice (some ⟨b, off, none⟩) (n + 1) cap, x6, s7, s8, s9, s10, s11, x12, x13, x14, x15, x16, x17, s18, s19, s20], defers := dd } ∧ few3F W1 b off n cap vf vx at_ d_ x12 x13 x14 x15 x16 x17 x6 w') ?_ ?_ ?_
  · refine ⟨s12, s13, s14, s15, s16, s17, s6, rfl, (Below.refl _ W1).drew, ?_, ?_, ?_, ?_, ?_, ?_, ?_⟩ <;> (intro h; cases h)
  · refine ⟨?_, ?_, ?_, ?_, ?_, ?_, ?_, trivial⟩
    all_goals
      rintro d_ a_ w1 K hd_ hdep ⟨x12, x13, x14, x15, x16, x17, x6, rfl, F⟩ HK
      simp [Region.binds] at hdep
      have hb1 := F.same
    · have HF := Lib.hid F.s0
      clear F
      clear hb1
      go_simp
      exact HK.out _ _ ⟨_, _, _, _, _, _, _, rfl, HF.out⟩
    · obtain rfl := F.f0 (by simp [hdep])
      have HF := Lib.hid F.s1
      clear F
      clear hb1
      go_simp
      exact HK.out _ _ ⟨_, _, _, _, _, _, _, rfl, HF.out⟩
    · obtain rfl := F.f1 (by simp [hdep])
      have k := cell_stays hb1 hF.out
      have HF := Lib.hid F.s2
      clear F
      clear hb1
      go_simp
      exact HK.out _ _ ⟨_, _, _, _, _, _, _, rfl, HF.out⟩
    · have HF := Lib.hid F.s3
      clear F
      clear hb1
      go_simp
      exact HK.out _ _ ⟨_, _, _, _, _, _, _, rfl, HF.out⟩
    · obtain rfl := F.f3 (by simp [hdep])
      have h1 : (1 : Int) ≤ (n : Int) + 1 := by omega
      have HF := Lib.hid F.s4
      clear F
      clear hb1
      go_simp
      exact HK.out _ _ ⟨_, _, _, _, _, _, _, rfl, HF.out⟩
    · obtain rfl := F.f2 (by simp [hdep])
      obtain rfl := F.f4 (by simp [hdep])
      have F1 := F.same
      have HF := Lib.hid F
      clear F
      go_simp
      refine (hC.out w1 F1).mono ?_
      rintro e w5 ⟨rfl, hb5⟩
      exact HK.out _ _ ⟨_, _, _, _, _, _, _, rfl, (HF.out.below hb5).s5⟩
    · obtain rfl := F.f5 (by simp [hdep])
      have HF := Lib.hid F.s6
      clear F
      clear hb1
      go_simp
      exact HK.out _ _ ⟨_, _, _, _, _, _, _, rfl, HF.out⟩
  · rintro d_ a_ w1 hall ⟨x12, x13, x14, x15, x16, x17, x6, rfl, F⟩
    have hall' : ∀ k, k < 7 → d_ k = true := hall
    exact HQ.out _ _ _ _ _ _ _ w1 F.same (F.f0 (hall' 0 (by decide))) (F.f1 (hall' 1 (by decide))) (F.f2 (hall' 2 (by decide))) (F.f3 (hall' 3 (by decide))) (F.f4 (hall' 4 (by decide))) (F.f5 (hall' 5 (by decide))) (F.f6 (hall' 6 (by decide)))
end Go.Proofs.Ytnfhlbmapfoifaa
namespace Go.Proofs.Ytnfhlbmapfoifaa
set_option linter.unusedVariables false
theorem gi_rep {n k : Nat} (h : k < n) : gi (List.replicate n (-1)) k = -1 := by simp [gi, h]
theorem goW_rep {by_ : Int × Int} {rec : Nat → (Int × Int) × Bool} {n card : Nat} : ∀ (l : List Nat) (own : Int × Int), (∀ j ∈ l, j < n) → goW by_ rec (List.replicate n (-1)) card own l = (own, decide (own.1 ≤ own.2))
  | [], own, _ => rfl
  | j :: r, own, h => by
    have h1 : gi (List.replicate n (-1)) j = -1 := gi_rep (h j (by simp))
    unfold goW
    rw [h1, if_neg (by omega), goW_rep r own (fun x hx => h x (by simp [hx]))]
theorem upW_rep {n : Nat} : ∀ (m : Nat) (k : Int), (k = -1 ∨ (0 ≤ k ∧ k < n)) → upW (List.replicate n (-1)) (m + 1) k = -1
  | 0, k, h => by
    unfold upW upW
    rcases h with h | h
    · rw [if_pos h]
    · rw [if_neg (by omega)]; exact gi_rep (by omega)
  | m + 1, k, h => by
    unfold upW
    refine upW_rep m _ (.inl ?_)
    rcases h with h | h
    · rw [if_pos h]
    · rw [if_neg (by omega)]; exact gi_rep (by omega)
theorem card_ok {p : Prs} (hv : p.valid = true) {c : Nat} (hc : c < p.cards.length) : (gp p.cards c).slo ≤ (gp p.cards c).shi ∧ (gp p.cards c).wlo ≤ (gp p.cards c).whi := by
  unfold Prs.valid at hv
  simp only [Bool.and_eq_true, List.all_eq_true] at hv
  have e : gp p.cards c = p.cards[c] := by simp [gp, hc]
  have h := hv.1.1.2 _ (List.getElem_mem hc)
  rw [← e] at h
  simp [Prt.ok, spanOk] at h
  omega
theorem way_rep {p : Prs} (hv : p.valid = true) : isWayB p (List.replicate p.cards.length (-1)) = true := by
  have hcan : ∀ what, canB p (List.replicate p.cards.length (-1)) what = true := by
    intro what
    unfold canB
    rw [List.all_eq_true]
    intro c hc
    have hc' : c < p.cards.length := by simpa using hc
    have h1 : (whatF p (List.replicate p.cards.length (-1)) what ((List.replicate p.cards.length (-1 : Int)).length + 1) c).2 = true := by
      unfold whatF
      rw [goW_rep (n := p.cards.length) _ _ (fun j hj => by simpa using hj)]
      have := card_ok hv hc'
      cases what <;> simp [Prt.of] <;> omega
    rw [h1, Bool.or_true]
  have hround : roundB (List.replicate p.cards.length (-1)) = false := by
    unfold roundB
    rw [List.any_eq_false]
    intro c hc
    have hc' : c < p.cards.length := by simpa using hc
    obtain ⟨m, hm⟩ : ∃ m, p.cards.length = m + 1 := ⟨p.cards.length - 1, by omega⟩
    have := upW_rep (n := p.cards.length) m (c : Int) (.inr (by omega))
    rw [List.length_replicate]
    rw [← hm] at this
    simp [this]
  have hmarks : marksB p (List.replicate p.cards.length (-1)) = true := by
    unfold marksB
    rw [List.all_eq_true]
    intro c hc
    have hc' : c < p.cards.length := by simpa using hc
    rw [gi_rep hc']
    rfl
  unfold isWayB
  rw [hcan, hcan, hround, hmarks]
  rfl
theorem onW_rep {p : Prs} : ∀ (d : Nat) (pre : List Int), isWayB p (pre ++ List.replicate d (-1)) = true → pre ++ List.replicate d (-1) ∈ onW p d pre
  | 0, pre, h => by
    rw [onW_zero]
    simp at h ⊢
    simp [h]
  | d + 1, pre, h => by
    rw [onW_succ, List.mem_flatMap]
    have e : pre ++ List.replicate (d + 1) (-1) = (pre ++ [-1]) ++ List.replicate d (-1) := by simp [List.replicate_succ]
    rw [e] at h ⊢
    refine ⟨-1, ?_, ?_⟩
    · simp only [froms, List.mem_map, List.mem_range]
      exact ⟨0, by omega, rfl⟩
    · unfold onF
      rw [if_neg (by omega)]
      exact onW_rep d _ h
theorem ways_ne {p : Prs} (hv : p.valid = true) : waysL p ≠ [] := by
  have h := onW_rep (p := p) p.cards.length [] (by simpa using way_rep hv)
  intro e
  unfold waysL at e
  rw [e] at h
  cases h
theorem onW_all {p : Prs} : ∀ (d : Nat) (pre x : List Int), x ∈ onW p d pre → x.length = pre.length + d ∧ isWayB p x = true
  | 0, pre, x, h => by
    rw [onW_zero] at h
    split at h
    · rename_i h1
      simp at h
      subst h
      exact ⟨rfl, h1⟩
    · cases h
  | d + 1, pre, x, h => by
    rw [onW_succ, List.mem_flatMap] at h
    obtain ⟨f, _, h⟩ := h
    unfold onF at h
    split at h
    · cases h
    · have := onW_all d _ x h
      simp at this
      exact ⟨by omega, this.2⟩
theorem ways_all {p : Prs} {x : List Int} (h : x ∈ waysL p) : x.length = p.cards.length ∧ isWayB p x = true := by
  have := onW_all _ _ _ h
  simpa using this
end Go.Proofs.Ytnfhlbmapfoifaa
namespace Go.Proofs.Ytnfhlbmapfoifaa
open Go.RowKit
set_option linter.unusedVariables false
set_option maxRecDepth 100000 in
set_option maxHeartbeats 4000000 in
theorem fewest_yes {p : Prs} {a : Option Addr} {cap : Nat} {w : World} (ha : IsPrts w a p.cards) (hn : p.cards.length ≤ 16) (hv : p.valid = true) :
    Calls Try.prog 28 #[p.v a cap] w fun e w' => ∃ av cv, e = .returned (.tuple #[.slice av (fewestW p).length cv, .int .i64 (origN (fewestW p)), .int .i64 0]) ∧ IsInts w' av (fewestW p) ∧ Below w.heap.size w w' := by
  have hmf : ∀ (fn : Fn) (first cap : Array Value) (w : World), (Instr.makeFunc fn first cap).run Try.prog w = .ok (.func fn first cap) w := fun _ _ _ _ => rfl
  have cf77 : ∀ (args : Array Value) (w : World), (callFunc 77 args).run Try.prog w = .ok (.enter 77 args) w := fun args w => by simp [callFunc, Try.func77, Try.f77, go_sem]
  refine calls_of_wp_x Try.func28 rfl ?_
  simp only [Try.ntmps28, List.size_toArray, List.length_cons, List.length_nil, Nat.reduceAdd, Nat.reduceSub, Array.replicate_succ, Array.replicate_zero, List.push_toArray, List.append_toArray, List.nil_append, List.cons_append]
  have HC77 := Lib.hid cf77
  clear cf77
  go_wp2_with fail
  obtain ⟨W1, hW1⟩ : ∃ W1 : World, W1 = (w.alloc (.cells (p.cells a cap) 26)).alloc (.cells #[.int .i64 0] 29) := ⟨_, rfl⟩
  have hb1 : Below w.heap.size w W1 := by rw [hW1]; exact ((Below.refl _ w).alloc (Nat.le_refl _) _).alloc (by simp) _
  have hz1 : W1.heap.size = w.heap.size + 2 := by rw [hW1]; simp
  have q2 : W1.heap[w.heap.size + 1]? = some (.cells #[.int .i64 0] 29 (0, 0)) := by
    rw [hW1]
    have := World.alloc_heap_new (w.alloc (.cells (p.cells a cap) 26)) (.cells #[.int .i64 0] 29)
    rw [World.size_alloc] at this
    exact this
  have ha1 := ha.mono hb1
  rw [← hW1]
  clear hW1 ha
  refine (open_yes ha1 hn hv).mono ?_
  rintro e w2 ⟨bp, g, rfl, hbp, hP, hb2⟩
  have q2' := (hb2.block (w.heap.size + 1) (by omega)).trans q2
  have hB2 := hb1.trans (hb2.mono (by omega))
  have HZ : Hid (w.heap.size + 2 ≤ w2.heap.size) := by have := hb2.size; rw [Hid]; omega
  have HV := Lib.hid hv
  clear hb1 hz1 q2 ha1 hb2 hbp hv
  have HP := Lib.hid (And.intro hP (And.intro hB2 q2'))
  clear hP hB2 q2'
  go_wp2_with fail
  refine ways_any.mono ?_
  rintro e w3 ⟨rfl, rfl⟩
  have HQ : Hid (∃ w3 : World, w3 = w2.alloc (.cells #[.pointer (some ⟨bp, 0, none⟩)] 79)) := ⟨_, rfl⟩
  have hb3 : Below w2.heap.size w2 (w2.alloc (.cells #[.pointer (some ⟨bp, 0, none⟩)] 79)) := (Below.refl _ _).alloc (Nat.le_refl _) _
  have q3 := World.alloc_heap_new w2 (.cells #[.pointer (some ⟨bp, 0, none⟩)] 79)
  have hP3 := HP.out.1.mono hb3
  have hB3 : Below w.heap.size w _ := HP.out.2.1.trans (hb3.mono HP.out.2.1.size)
  have q2 := (hb3.block (w.heap.size + 1) (by have := HZ.out; omega)).trans HP.out.2.2
  have hz3 : w2.heap.size ≤ (w2.alloc (.cells #[.pointer (some ⟨bp, 0, none⟩)] 79)).heap.size := hb3.size
  have HP3 := Lib.hid (And.intro hP3 (And.intro q3 (And.intro hB3 (And.intro q2 hz3))))
  clear hb3 q3 hP3 hB3 q2 hz3 HP HQ
  revert HP3
  generalize (w2.alloc (.cells #[.pointer (some ⟨bp, 0, none⟩)] 79)) = w3
  intro HP3
  go_wp2_with fail
  refine (collect_any HV.out HP3.out.2.1 HP3.out.1 (ways_len HV.out)).mono ?_
  rintro e w4 ⟨v, vs, rfl, h1, h2, hb4⟩
  obtain ⟨al, cl, rfl, hcl, L, hL1, hL2, hL3⟩ := rows_read h1 h2 rfl
  have HR : Hid (∃ x0 L0, L = x0 :: L0 ∧ (∃ b off, al = some ⟨b, off, none⟩ ∧ w4.cell? ⟨b, off, none⟩ = some x0.2 ∧ RowV w4 x0 ∧ IsRows w4 (some ⟨b, off + 1, none⟩) L0)) := by
    cases L with
    | nil => exact absurd (by rw [← hL1]; rfl) (ways_ne HV.out)
    | cons x0 L0 =>
      obtain ⟨b, off, rfl, k1, k2⟩ := hL3 0 (by simp)
      exact ⟨x0, L0, rfl, b, off, rfl, k1, k2, hL3.tail⟩
  obtain ⟨x0, L0, rfl, b, off, rfl, k1, k2, k3⟩ := HR.out
  clear HR hL3 h1 h2
  have hn5 : p.cards.length ≤ 5 := by
    have := HV.out
    unfold Prs.valid at this
    simp at this
    exact this.1.1.1
  have hall : ∀ x ∈ x0 :: L0, x.1.length = p.cards.length := fun x hx => (ways_all (by rw [← hL1]; exact List.mem_map_of_mem hx)).1
  have hfew : (leastP x0 L0).1 = fewestW p := by rw [leastP_fst]; unfold fewestW; rw [← hL1]; rfl
  have hN : L0.length + 1 = (waysL p).length := by rw [← hL2]; rfl
  have hNl := ways_len HV.out
  obtain ⟨at_, hat⟩ : ∃ at_ : Option Addr, (if cl = 1 then some (⟨b, off, none⟩ : Addr) else some ⟨b, off + 1, none⟩) = at_ := ⟨_, rfl⟩
  have k3' : IsRows w4 at_ L0 := by
    by_cases hc1 : cl = 1
    · intro i hi
      omega
    · rw [if_neg hc1] at hat
      rw [← hat]; exact k3
  have HL : Hid (∀ V, Below w4.heap.size w4 V → Calls Try.prog 54 #[.func (.func 55) #[] #[], x0.2, .slice at_ L0.length (cl - 1)] V fun e w' => e = .returned (leastP x0 L0).2 ∧ Below V.heap.size V w') := fun V hV =>
    (least_any (by omega) (hall x0 (by simp)) (fun x hx => hall x (by simp [hx])) (k2.mono hV) (k3'.mono hV) (by omega)).mono fun e w' h => ⟨h.1, by rw [← h.2]; exact Below.refl _ _⟩
  have hrow : RowV w4 (leastP x0 L0) := leastP_all (Q := RowV w4) L0 x0 k2 (fun x hx => by
    obtain ⟨i, hi, rfl⟩ := List.getElem_of_mem hx
    obtain ⟨_, _, _, _, k⟩ := k3 i hi
    have e : L0.getD i ([], undef) = L0[i] := by simp [hi]
    rw [e] at k
    exact k)
  obtain ⟨av, cv, hvx, hints⟩ := hrow
  rw [hfew] at hvx hints
  have hlen : (fewestW p).length ≤ 16 := by rw [← hfew, leastP_all (Q := fun x => x.1.length = p.cards.length) L0 x0 (hall x0 (by simp)) (fun x hx => hall x (by simp [hx]))]; omega
  have HK1 := Lib.hid k1
  have HB4 := Lib.hid (And.intro hb4 (And.intro hints (And.intro hlen (And.intro hvx hat))))
  have hcl' : L0.length + 1 ≤ cl := by omega
  have HCL := Lib.hid hcl'
  rw [← hN]
  clear k1 k2 k3 k3' hb4 hints hlen hvx hat hall hfew hN hNl hcl hcl' hL1 hL2 hn5
  go_wp2_with fail
  refine few3 HK1 HCL.out HB4.out.2.2.2.2 HL ?_
  intro x12 x13 x14 x15 x16 x17 x6 w5 hb5 e12 e13 e14 e15 e16 e17 e6
  clear e12 e13 e14 e15 e16 e17
  rw [HB4.out.2.2.2.1] at e6
  subst e6
  have hi5 := HB4.out.2.1.mono hb5
  have q5 : w5.heap[w.heap.size + 1]? = some (.cells #[.int .i64 0] 29 (0, 0)) :=
    (hb5.block _ (by have := HB4.out.1.size; have := HP3.out.2.2.2.2; have := HZ.out; omega)).trans ((HB4.out.1.block _ (by have := HP3.out.2.2.2.2; have := HZ.out; omega)).trans HP3.out.2.2.2.1)
  have hB5 : Below w.heap.size w w5 := (HP3.out.2.2.1.trans (HB4.out.1.mono HP3.out.2.2.1.size)).trans (hb5.mono (by have := HB4.out.1.size; have := HP3.out.2.2.1.size; omega))
  have H5 := Lib.hid (And.intro hi5 (And.intro q5 hB5))
  have c5 : w5.cell? ⟨w.heap.size + 1, 0, none⟩ = some (.int .i64 0) := by rw [cell_of_heap q5]; rfl
  have f5 : w5.frozen? ⟨w.heap.size + 1, 0, none⟩ = false := frozen_of_heap q5
  clear hi5 q5 hB5 hb5
  go_wp2_with fail
  refine (originals_any HB4.out.2.2.1 H5.out.1).mono ?_
  rintro e w6 ⟨rfl, rfl⟩
  go_wp2_with fail
  have hcell := World.cell?_setCell_same w5 ⟨w.heap.size + 1, 0, none⟩ (.int .i64 0) c5
  have hb6 : Below w5.heap.size w5 w5 := Below.refl _ _
  refine ⟨[], _, rfl, leaves_ok (recov77_ok _ _) HC77.out (res_ttc rfl _ rfl hcell) ⟨av, cv, rfl, ?_, H5.out.2.2.setCell (by show w.heap.size ≤ w.heap.size + 1; omega) _⟩⟩
  intro i hi
  obtain ⟨b', off', e1, e2⟩ := H5.out.1 i hi
  refine ⟨b', off', e1, ?_⟩
  by_cases h : (⟨w.heap.size + 1, 0, none⟩ : Addr) = ⟨b', off' + i, none⟩
  · rw [← h] at e2 ⊢
    rw [c5] at e2
    rw [hcell]
    exact e2
  · rw [World.cell?_setCell_other _ _ _ _ h]
    exact e2
end Go.Proofs.Ytnfhlbmapfoifaa
namespace Go.Proofs.Ytnfhlbmapfoifaa
open Go.RowKit
set_option linter.unusedVariables false
def regionR (n : Nat) : Code → Option Code
  | .region id ops b => if id = n then some (.region id ops b) else none
  | .seq a b => match regionR n a with
    | some c => some c
    | none => regionR n b
  | .block _ c => regionR n c
  | .scope c => regionR n c
  | .loop c => regionR n c
  | .cond _ a b => match regionR n a with
    | some c => some c
    | none => regionR n b
  | .rangeFunc _ _ a b => match regionR n a with
    | some c => some c
    | none => regionR n b
  | _ => none
structure par2F (p : Prs) (a : Option Addr) (cap : Nat) (bx : Nat) (bc : Nat) (card : Int) (S0 : World → Prop) (S1 : Value → World → Prop) (S2 : Value → Bool → World → Prop) (S3 : Value → Bool → Nat → World → Prop) (S4 : Value → Bool → Nat → Nat → World → Prop) (d : Nat → Bool) (x10 x11 x12 x13 x14 x15 x16 : Value) (b : Bool) (bp : Nat) (pb : Nat) (w : World) : Prop where
  q3 : d 3 = true → d 2 = true
  q4 : d 4 = true → d 1 = true ∧ d 3 = true
  q5 : d 5 = true → d 0 = true ∧ d 4 = true
  q6 : d 6 = true → d 5 = true
  f0 : d 0 = true → x10 = p.v a cap
  f1 : d 1 = true → x11 = p.v a cap
  f2 : d 2 = true → x12 = .int .i64 card
  f4 : d 4 = true → x14 = .bool b
  f5 : d 5 = true → x15 = .pointer (some ⟨bp, 0, none⟩)
  f6 : d 6 = true → x16 = .func (.func 97) #[] #[.pointer (some ⟨pb, 0, none⟩)]
  st0 : d 3 = false → S0 w
  st1 : d 3 = true → d 4 = false → S1 x13 w
  st2 : d 4 = true → d 5 = false → S2 x13 b w
  st3 : d 5 = true → d 6 = false → S3 x13 b bp w
  st4 : d 6 = true → S4 x13 b bp pb w
noncomputable def par2C : Code := (Try.f33.body.bind (regionAt 2)).getD .skip
set_option maxRecDepth 100000 in
set_option maxHeartbeats 4000000 in
theorem par2 {p : Prs} {a : Option Addr} {cap : Nat} {bx : Nat} {bc : Nat} {card : Int} {S0 : World → Prop} {S1 : Value → World → Prop} {S2 : Value → Bool → World → Prop} {S3 : Value → Bool → Nat → World → Prop} {S4 : Value → Bool → Nat → Nat → World → Prop} {Q : Exit → Act → World → Prop} {W1 : World} (h0 : S0 W1.drew)
    (kl0 : Hid (∀ (x13 : Value) (b : Bool) (w : World), (S0 w ∨ S1 x13 w ∨ S2 x13 b w) → w.cell? ⟨bx, 0, none⟩ = some (.slice a p.cards.length cap) ∧ w.cell? ⟨bx, 1, none⟩ = some (.int .i64 p.llo) ∧ w.cell? ⟨bx, 2, none⟩ = some (.int .i64 p.lhi) ∧ w.cell? ⟨bx, 3, none⟩ = some (.int .i64 p.olo) ∧ w.cell? ⟨bx, 4, none⟩ = some (.int .i64 p.ohi)))
    (kl1 : Hid (∀ (x13 : Value) (w : World), (S0 w ∨ S1 x13 w) → w.cell? ⟨bx, 0, none⟩ = some (.slice a p.cards.length cap) ∧ w.cell? ⟨bx, 1, none⟩ = some (.int .i64 p.llo) ∧ w.cell? ⟨bx, 2, none⟩ = some (.int .i64 p.lhi) ∧ w.cell? ⟨bx, 3, none⟩ = some (.int .i64 p.olo) ∧ w.cell? ⟨bx, 4, none⟩ = some (.int .i64 p.ohi)))
    (kl2 : Hid (∀ (w : World), (S0 w) → w.cell? ⟨bc, 0, none⟩ = some (.int .i64 card)))
    (kc3 : Hid (∀ (w : World), S0 w → S1 (.slice (some ⟨w.heap.size, 0, none⟩) 1 1) (w.alloc (.cells #[.int .i64 card] 3))))
    (kc4 : Hid (∀ (x13 : Value) (w : World), S1 x13 w → Calls Try.prog 52 #[p.v a cap, x13] w fun e w' => ∃ b : Bool, e = .returned (.bool b) ∧ S2 x13 b w'))
    (kc5 : Hid (∀ (x13 : Value) (b : Bool) (w : World), S2 x13 b w → Calls Try.prog 51 #[p.v a cap, .bool b] w fun e w' => ∃ bp : Nat, e = .returned (.pointer (some ⟨bp, 0, none⟩)) ∧ S3 x13 b bp w'))
    (kc6 : Hid (∀ (x13 : Value) (b : Bool) (bp : Nat) (w : World), S3 x13 b bp w → Calls Try.prog 53 #[.pointer (some ⟨bp, 0, none⟩)] w fun e w' => ∃ pb : Nat, e = .returned (.func (.func 97) #[] #[.pointer (some ⟨pb, 0, none⟩)]) ∧ S4 x13 b bp pb w'))
    {s0 s1 s4 s5 s6 s7 s8 s9 s10 s11 s12 s13 s14 s15 s16 s17 s18 s19 s20 s21 s22 s23 s24 s25 s26 s27 s28 s29 : Value} {dd : List Deferred}
    (hQ : ∀ (x13 : Value) (b : Bool) (bp : Nat) (pb : Nat) (w' : World), S4 x13 b bp pb w' → Q .normal { tmps := #[s0, s1, .pointer (some ⟨bx, 0, none⟩), .pointer (some ⟨bc, 0, none⟩), s4, s5, s6, s7, s8, s9, p.v a cap, p.v a cap, .int .i64 card, x13, .bool b, .pointer (some ⟨bp, 0, none⟩), .func (.func 97) #[] #[.pointer (some ⟨pb, 0, none⟩)], s17, s18, s19, s20, s21, s22, s23, s24, s25, s26, s27, s28, s29], defers := dd } w') :
    Code.wpIn (wideAt none) 0 Try.prog par2C Q { tmps := #[s0, s1, .pointer (some ⟨bx, 0, none⟩), .pointer (some ⟨bc, 0, none⟩), s4, s5, s6, s7, s8, s9, s10, s11, s12, s13, s14, s15, s16, s17, s18, s19, s20, s21, s22, s23, s24, s25, s26, s27, s28, s29], defers := dd } W1 := by
  have HQ := Lib.hid hQ
  clear hQ
  conv => arg 4; whnf
  refine wpIn_region_invG mixed (by kernel_rfl) (fun d_ a_ w' => ∃ (x10 : Value) (x11 : Value) (x12 : Value) (x13 : Value) (x14 : Value) (x15 : Value) (x16 : Value) (b : Bool) (bp : Nat) (pb : Nat), a_ = { tmps := #[s0, s1, .pointer (some ⟨bx, 0, none⟩), .pointer (some ⟨bc, 0, none⟩), s4, s5, s6, s7, s8, s9, x10, x11, x12, x13, x14, x15, x16, s17, s18, s19, s20, s21, s22, s23, s24, s25, s26, s27, s28, s29], defers := dd } ∧ par2F p a cap bx bc card S0 S1 S2 S3 S4 d_ x10 x11 x12 x13 x14 x15 x16 b bp pb w') ?_ ?_ ?_
  · refine ⟨s10, s11, s12, s13, s14, s15, s16, false, 0, 0, rfl, ?_⟩
    constructor <;> first | rfl | (intro h; cases h; done) | (intro _; exact h0) | exact h0
  · refine ⟨?_, ?_, ?_, ?_, ?_, ?_, ?_, trivial⟩
    all_goals
      rintro d_ a_ w1 K hd_ hdep ⟨x10, x11, x12, x13, x14, x15, x16, b, bp, pb, rfl, F⟩ HK
      simp [Region.binds] at hdep
    · have hst : S0 w1 ∨ S1 x13 w1 ∨ S2 x13 b w1 := by
        cases e1 : d_ 3 with
        | false => exact .inl ((F.st0 e1))
        | true =>
          cases e2 : d_ 4 with
          | false => exact .inr (.inl ((F.st1 e1 e2)))
          | true =>
            have n_ : d_ 5 = false := by
              cases e_ : d_ 5 with
              | false => rfl
              | true => have h2 := (F.q5 e_).1; rw [show d_ 0 = false from hd_] at h2; cases h2
            exact .inr (.inr ((F.st2 e2 n_)))
      have kk := kl0.out x13 b w1 hst
      obtain ⟨kk0, kk1, kk2, kk3, kk4⟩ := kk
      clear hst
      have HF : Hid (par2F p a cap bx bc card S0 S1 S2 S3 S4 (upd d_ 0) (p.v a cap) x11 x12 x13 x14 x15 x16 b bp pb w1) := ⟨F.q3, F.q4, fun h => ⟨rfl, (F.q5 h).2⟩, F.q6, fun _ => rfl, F.f1, F.f2, F.f4, F.f5, F.f6, F.st0, F.st1, F.st2, F.st3, F.st4⟩
      clear F
      go_simp
      exact HK.out _ _ ⟨_, _, _, _, _, _, _, _, _, _, rfl, HF.out⟩
    · have hst : S0 w1 ∨ S1 x13 w1 := by
        cases e1 : d_ 3 with
        | false => exact .inl ((F.st0 e1))
        | true =>
          have n_ : d_ 4 = false := by
            cases e_ : d_ 4 with
            | false => rfl
            | true => have h2 := (F.q4 e_).1; rw [show d_ 1 = false from hd_] at h2; cases h2
          exact .inr ((F.st1 e1 n_))
      have kk := kl1.out x13 w1 hst
      obtain ⟨kk0, kk1, kk2, kk3, kk4⟩ := kk
      clear hst
      have HF : Hid (par2F p a cap bx bc card S0 S1 S2 S3 S4 (upd d_ 1) x10 (p.v a cap) x12 x13 x14 x15 x16 b bp pb w1) := ⟨F.q3, fun h => ⟨rfl, (F.q4 h).2⟩, F.q5, F.q6, F.f0, fun _ => rfl, F.f2, F.f4, F.f5, F.f6, F.st0, F.st1, F.st2, F.st3, F.st4⟩
      clear F
      go_simp
      exact HK.out _ _ ⟨_, _, _, _, _, _, _, _, _, _, rfl, HF.out⟩
    · have hst : S0 w1 := by
        have n_ : d_ 3 = false := by
          cases e_ : d_ 3 with
          | false => rfl
          | true => have h2 := (F.q3 e_); rw [show d_ 2 = false from hd_] at h2; cases h2
        exact (F.st0 n_)
      have kk := kl2.out w1 hst
      clear hst
      have HF : Hid (par2F p a cap bx bc card S0 S1 S2 S3 S4 (upd d_ 2) x10 x11 (.int .i64 card) x13 x14 x15 x16 b bp pb w1) := ⟨fun h => rfl, F.q4, F.q5, F.q6, F.f0, F.f1, fun _ => rfl, F.f4, F.f5, F.f6, F.st0, F.st1, F.st2, F.st3, F.st4⟩
      clear F
      go_simp
      exact HK.out _ _ ⟨_, _, _, _, _, _, _, _, _, _, rfl, HF.out⟩
    · have hS := F.st0  hd_
      obtain rfl := F.f2 (by simp [hdep])
      have hres := kc3.out w1 hS
      have HF : Hid (par2F p a cap bx bc card S0 S1 S2 S3 S4 (upd d_ 3) x10 x11 (.int .i64 card) ((.slice (some ⟨w1.heap.size, 0, none⟩) 1 1)) x14 x15 x16 b bp pb (w1.alloc (.cells #[.int .i64 card] 3))) := ⟨fun _ => (show _ from (by simp [hdep] : d_ 2 = true)), fun h => ⟨(F.q4 h).1, rfl⟩, F.q5, F.q6, F.f0, F.f1, F.f2, F.f4, F.f5, F.f6, fun h => (by simp [upd] at h), fun _ _ => hres, fun h _ => (by have h2 : d_ 3 = true := (F.q4 h).2; rw [show d_ 3 = false from hd_] at h2; cases h2), fun h _ => (by have h2 : d_ 3 = true := (F.q4 (F.q5 h).2).2; rw [show d_ 3 = false from hd_] at h2; cases h2), fun h => (by have h2 : d_ 3 = true := (F.q4 (F.q5 (F.q6 h)).2).2; rw [show d_ 3 = false from hd_] at h2; cases h2)⟩
      clear F hS hres
      go_simp
      exact HK.out _ _ ⟨_, _, _, _, _, _, _, _, _, _, rfl, HF.out⟩
    · have hS := F.st1 (by simp [hdep] : d_ 3 = true) hd_
      obtain rfl := F.f1 (by simp [hdep])
      have hc := kc4.out x13 w1 hS
      have HF := Lib.hid F
      clear F
      go_simp
      refine ⟨trivial, rfl, wideAt_calls (hc.mono ?_)⟩
      rintro e w5 ⟨v_, rfl, hres⟩
      exact HK.out _ _ ⟨_, _, _, _, _, _, _, _, _, _, rfl, ⟨HF.out.q3, fun _ => ⟨(show _ from (by simp [hdep] : d_ 1 = true)), (show _ from (by simp [hdep] : d_ 3 = true))⟩, fun h => ⟨(HF.out.q5 h).1, rfl⟩, HF.out.q6, HF.out.f0, HF.out.f1, HF.out.f2, fun _ => rfl, HF.out.f5, HF.out.f6, fun h => (by have h2 : d_ 3 = false := h; rw [(by simp [hdep] : d_ 3 = true)] at h2; cases h2), fun _ h => (by simp [upd] at h), fun _ _ => hres, fun h _ => (by have h2 : d_ 4 = true := (HF.out.q5 h).2; rw [show d_ 4 = false from hd_] at h2; cases h2), fun h => (by have h2 : d_ 4 = true := (HF.out.q5 (HF.out.q6 h)).2; rw [show d_ 4 = false from hd_] at h2; cases h2)⟩⟩
    · have hS := F.st2 (by simp [hdep] : d_ 4 = true) hd_
      obtain rfl := F.f0 (by simp [hdep])
      obtain rfl := F.f4 (by simp [hdep])
      have hc := kc5.out x13 b w1 hS
      have HF := Lib.hid F
      clear F
      go_simp
      refine ⟨trivial, rfl, wideAt_calls (hc.mono ?_)⟩
      rintro e w5 ⟨v_, rfl, hres⟩
      exact HK.out _ _ ⟨_, _, _, _, _, _, _, _, _, _, rfl, ⟨HF.out.q3, HF.out.q4, fun _ => ⟨(show _ from (by simp [hdep] : d_ 0 = true)), (show _ from (by simp [hdep] : d_ 4 = true))⟩, fun h => rfl, HF.out.f0, HF.out.f1, HF.out.f2, HF.out.f4, fun _ => rfl, HF.out.f6, fun h => (by have h2 : d_ 3 = false := h; rw [(HF.out.q4 (by simp [hdep] : d_ 4 = true)).2] at h2; cases h2), fun _ h => (by have h2 : d_ 4 = false := h; rw [(by simp [hdep] : d_ 4 = true)] at h2; cases h2), fun _ h => (by simp [upd] at h), fun _ _ => hres, fun h => (by have h2 : d_ 5 = true := (HF.out.q6 h); rw [show d_ 5 = false from hd_] at h2; cases h2)⟩⟩
    · have hS := F.st3 (by simp [hdep] : d_ 5 = true) hd_
      obtain rfl := F.f5 (by simp [hdep])
      have hc := kc6.out x13 b bp w1 hS
      have HF := Lib.hid F
      clear F
      go_simp
      refine ⟨trivial, rfl, wideAt_calls (hc.mono ?_)⟩
      rintro e w5 ⟨v_, rfl, hres⟩
      exact HK.out _ _ ⟨_, _, _, _, _, _, _, _, _, _, rfl, ⟨HF.out.q3, HF.out.q4, HF.out.q5, fun _ => (show _ from (by simp [hdep] : d_ 5 = true)), HF.out.f0, HF.out.f1, HF.out.f2, HF.out.f4, HF.out.f5, fun _ => rfl, fun h => (by have h2 : d_ 3 = false := h; rw [(HF.out.q4 (HF.out.q5 (by simp [hdep] : d_ 5 = true)).2).2] at h2; cases h2), fun _ h => (by have h2 : d_ 4 = false := h; rw [(HF.out.q5 (by simp [hdep] : d_ 5 = true)).2] at h2; cases h2), fun _ h => (by have h2 : d_ 5 = false := h; rw [(by simp [hdep] : d_ 5 = true)] at h2; cases h2), fun _ h => (by simp [upd] at h), fun _ => hres⟩⟩
  · rintro d_ a_ w1 hall ⟨x10, x11, x12, x13, x14, x15, x16, b, bp, pb, rfl, F⟩
    have hall' : ∀ k, k < 7 → d_ k = true := hall
    obtain rfl := F.f0 (hall' 0 (by decide))
    obtain rfl := F.f1 (hall' 1 (by decide))
    obtain rfl := F.f2 (hall' 2 (by decide))
    obtain rfl := F.f4 (hall' 4 (by decide))
    obtain rfl := F.f5 (hall' 5 (by decide))
    obtain rfl := F.f6 (hall' 6 (by decide))
    exact HQ.out x13 b bp pb w1 (F.st4 (hall' 6 (by decide)))
structure par2nF (p : Prs) (a : Option Addr) (cap : Nat) (bx : Nat) (bc : Nat) (card : Int) (S0 : World → Prop) (S1 : Value → World → Prop) (S2 : Value → Bool → World → Prop) (S3 : Value → Bool → World → Prop) (d : Nat → Bool) (x10 x11 x12 x13 x14 x15 x16 : Value) (b : Bool) (w : World) : Prop where
  q3 : d 3 = true → d 2 = true
  q4 : d 4 = true → d 1 = true ∧ d 3 = true
  q5 : d 5 = true → d 0 = true ∧ d 4 = true
  q6 : d 6 = true → d 5 = true
  f0 : d 0 = true → x10 = p.v a cap
  f1 : d 1 = true → x11 = p.v a cap
  f2 : d 2 = true → x12 = .int .i64 card
  f4 : d 4 = true → x14 = .bool b
  st0 : d 3 = false → S0 w
  st1 : d 3 = true → d 4 = false → S1 x13 w
  st2 : d 4 = true → d 5 = false → S2 x13 b w
  np : d 5 = false
set_option maxRecDepth 100000 in
set_option maxHeartbeats 4000000 in
theorem par2n {p : Prs} {a : Option Addr} {cap : Nat} {bx : Nat} {bc : Nat} {card : Int} {S0 : World → Prop} {S1 : Value → World → Prop} {S2 : Value → Bool → World → Prop} {S3 : Value → Bool → World → Prop} {Q : Exit → Act → World → Prop} {W1 : World} {er : Int} (h0 : S0 W1.drew)
    (kl0 : Hid (∀ (x13 : Value) (b : Bool) (w : World), (S0 w ∨ S1 x13 w ∨ S2 x13 b w) → w.cell? ⟨bx, 0, none⟩ = some (.slice a p.cards.length cap) ∧ w.cell? ⟨bx, 1, none⟩ = some (.int .i64 p.llo) ∧ w.cell? ⟨bx, 2, none⟩ = some (.int .i64 p.lhi) ∧ w.cell? ⟨bx, 3, none⟩ = some (.int .i64 p.olo) ∧ w.cell? ⟨bx, 4, none⟩ = some (.int .i64 p.ohi)))
    (kl1 : Hid (∀ (x13 : Value) (w : World), (S0 w ∨ S1 x13 w) → w.cell? ⟨bx, 0, none⟩ = some (.slice a p.cards.length cap) ∧ w.cell? ⟨bx, 1, none⟩ = some (.int .i64 p.llo) ∧ w.cell? ⟨bx, 2, none⟩ = some (.int .i64 p.lhi) ∧ w.cell? ⟨bx, 3, none⟩ = some (.int .i64 p.olo) ∧ w.cell? ⟨bx, 4, none⟩ = some (.int .i64 p.ohi)))
    (kl2 : Hid (∀ (w : World), (S0 w) → w.cell? ⟨bc, 0, none⟩ = some (.int .i64 card)))
    (kc3 : Hid (∀ (w : World), S0 w → S1 (.slice (some ⟨w.heap.size, 0, none⟩) 1 1) (w.alloc (.cells #[.int .i64 card] 3))))
    (kc4 : Hid (∀ (x13 : Value) (w : World), S1 x13 w → Calls Try.prog 52 #[p.v a cap, x13] w fun e w' => ∃ b : Bool, e = .returned (.bool b) ∧ S2 x13 b w'))
    (kc5 : Hid (∀ (x13 : Value) (b : Bool) (w : World), S2 x13 b w → Calls Try.prog 51 #[p.v a cap, .bool b] w fun e w' => e = .panicked [{ v := .iface 115 (.agg #[.int .i64 er]), recovered := false }] ∧ S3 x13 b w'))
    {s0 s1 s4 s5 s6 s7 s8 s9 s10 s11 s12 s13 s14 s15 s16 s17 s18 s19 s20 s21 s22 s23 s24 s25 s26 s27 s28 s29 : Value} {dd : List Deferred}
    (hQ : ∀ (x10 : Value) (x11 : Value) (x12 : Value) (x14 : Value) (x15 : Value) (x16 : Value) (x13 : Value) (b : Bool) (w' : World), S3 x13 b w' → Q (.panic [{ v := .iface 115 (.agg #[.int .i64 er]), recovered := false }]) { tmps := #[s0, s1, .pointer (some ⟨bx, 0, none⟩), .pointer (some ⟨bc, 0, none⟩), s4, s5, s6, s7, s8, s9, x10, x11, x12, x13, x14, x15, x16, s17, s18, s19, s20, s21, s22, s23, s24, s25, s26, s27, s28, s29], defers := dd } w') :
    Code.wpIn (wideAt none) 0 Try.prog par2C Q { tmps := #[s0, s1, .pointer (some ⟨bx, 0, none⟩), .pointer (some ⟨bc, 0, none⟩), s4, s5, s6, s7, s8, s9, s10, s11, s12, s13, s14, s15, s16, s17, s18, s19, s20, s21, s22, s23, s24, s25, s26, s27, s28, s29], defers := dd } W1 := by
  have HQ := Lib.hid hQ
  clear hQ
  conv => arg 4; whnf
  refine wpIn_region_invG mixed (by kernel_rfl) (fun d_ a_ w' => ∃ (x10 : Value) (x11 : Value) (x12 : Value) (x13 : Value) (x14 : Value) (x15 : Value) (x16 : Value) (b : Bool), a_ = { tmps := #[s0, s1, .pointer (some ⟨bx, 0, none⟩), .pointer (some ⟨bc, 0, none⟩), s4, s5, s6, s7, s8, s9, x10, x11, x12, x13, x14, x15, x16, s17, s18, s19, s20, s21, s22, s23, s24, s25, s26, s27, s28, s29], defers := dd } ∧ par2nF p a cap bx bc card S0 S1 S2 S3 d_ x10 x11 x12 x13 x14 x15 x16 b w') ?_ ?_ ?_
  · refine ⟨s10, s11, s12, s13, s14, s15, s16, false, rfl, ?_⟩
    constructor <;> first | rfl | (intro h; cases h; done) | (intro _; exact h0) | exact h0
  · refine ⟨?_, ?_, ?_, ?_, ?_, ?_, ?_, trivial⟩
    all_goals
      rintro d_ a_ w1 K hd_ hdep ⟨x10, x11, x12, x13, x14, x15, x16, b, rfl, F⟩ HK
      simp [Region.binds] at hdep
    · have hst : S0 w1 ∨ S1 x13 w1 ∨ S2 x13 b w1 := by
        cases e1 : d_ 3 with
        | false => exact .inl ((F.st0 e1))
        | true =>
          cases e2 : d_ 4 with
          | false => exact .inr (.inl ((F.st1 e1 e2)))
          | true =>
            have n_ : d_ 5 = false := by
              cases e_ : d_ 5 with
              | false => rfl
              | true => have h2 := (F.q5 e_).1; rw [show d_ 0 = false from hd_] at h2; cases h2
            exact .inr (.inr ((F.st2 e2 n_)))
      have kk := kl0.out x13 b w1 hst
      obtain ⟨kk0, kk1, kk2, kk3, kk4⟩ := kk
      clear hst
      have HF : Hid (par2nF p a cap bx bc card S0 S1 S2 S3 (upd d_ 0) (p.v a cap) x11 x12 x13 x14 x15 x16 b w1) := ⟨F.q3, F.q4, fun h => ⟨rfl, (F.q5 h).2⟩, F.q6, fun _ => rfl, F.f1, F.f2, F.f4, F.st0, F.st1, F.st2, F.np⟩
      clear F
      go_simp
      exact HK.out _ _ ⟨_, _, _, _, _, _, _, _, rfl, HF.out⟩
    · have hst : S0 w1 ∨ S1 x13 w1 := by
        cases e1 : d_ 3 with
        | false => exact .inl ((F.st0 e1))
        | true =>
          have n_ : d_ 4 = false := by
            cases e_ : d_ 4 with
            | false => rfl
            | true => have h2 := (F.q4 e_).1; rw [show d_ 1 = false from hd_] at h2; cases h2
          exact .inr ((F.st1 e1 n_))
      have kk := kl1.out x13 w1 hst
      obtain ⟨kk0, kk1, kk2, kk3, kk4⟩ := kk
      clear hst
      have HF : Hid (par2nF p a cap bx bc card S0 S1 S2 S3 (upd d_ 1) x10 (p.v a cap) x12 x13 x14 x15 x16 b w1) := ⟨F.q3, fun h => ⟨rfl, (F.q4 h).2⟩, F.q5, F.q6, F.f0, fun _ => rfl, F.f2, F.f4, F.st0, F.st1, F.st2, F.np⟩
      clear F
      go_simp
      exact HK.out _ _ ⟨_, _, _, _, _, _, _, _, rfl, HF.out⟩
    · have hst : S0 w1 := by
        have n_ : d_ 3 = false := by
          cases e_ : d_ 3 with
          | false => rfl
          | true => have h2 := (F.q3 e_); rw [show d_ 2 = false from hd_] at h2; cases h2
        exact (F.st0 n_)
      have kk := kl2.out w1 hst
      clear hst
      have HF : Hid (par2nF p a cap bx bc card S0 S1 S2 S3 (upd d_ 2) x10 x11 (.int .i64 card) x13 x14 x15 x16 b w1) := ⟨fun h => rfl, F.q4, F.q5, F.q6, F.f0, F.f1, fun _ => rfl, F.f4, F.st0, F.st1, F.st2, F.np⟩
      clear F
      go_simp
      exact HK.out _ _ ⟨_, _, _, _, _, _, _, _, rfl, HF.out⟩
    · have hS := F.st0  hd_
      obtain rfl := F.f2 (by simp [hdep])
      have hres := kc3.out w1 hS
      have HF : Hid (par2nF p a cap bx bc card S0 S1 S2 S3 (upd d_ 3) x10 x11 (.int .i64 card) ((.slice (some ⟨w1.heap.size, 0, none⟩) 1 1)) x14 x15 x16 b (w1.alloc (.cells #[.int .i64 card] 3))) := ⟨fun _ => (show _ from (by simp [hdep] : d_ 2 = true)), fun h => ⟨(F.q4 h).1, rfl⟩, F.q5, F.q6, F.f0, F.f1, F.f2, F.f4, fun h => (by simp [upd] at h), fun _ _ => hres, fun h _ => (by have h2 : d_ 3 = true := (F.q4 h).2; rw [show d_ 3 = false from hd_] at h2; cases h2), F.np⟩
      clear F hS hres
      go_simp
      exact HK.out _ _ ⟨_, _, _, _, _, _, _, _, rfl, HF.out⟩
    · have hS := F.st1 (by simp [hdep] : d_ 3 = true) hd_
      obtain rfl := F.f1 (by simp [hdep])
      have hc := kc4.out x13 w1 hS
      have HF := Lib.hid F
      clear F
      go_simp
      refine ⟨trivial, rfl, wideAt_calls (hc.mono ?_)⟩
      rintro e w5 ⟨v_, rfl, hres⟩
      exact HK.out _ _ ⟨_, _, _, _, _, _, _, _, rfl, ⟨HF.out.q3, fun _ => ⟨(show _ from (by simp [hdep] : d_ 1 = true)), (show _ from (by simp [hdep] : d_ 3 = true))⟩, fun h => ⟨(HF.out.q5 h).1, rfl⟩, HF.out.q6, HF.out.f0, HF.out.f1, HF.out.f2, fun _ => rfl, fun h => (by have h2 : d_ 3 = false := h; rw [(by simp [hdep] : d_ 3 = true)] at h2; cases h2), fun _ h => (by simp [upd] at h), fun _ _ => hres, HF.out.np⟩⟩
    · have hS := F.st2 (by simp [hdep] : d_ 4 = true) hd_
      obtain rfl := F.f0 (by simp [hdep])
      obtain rfl := F.f4 (by simp [hdep])
      have hc := kc5.out x13 b w1 hS
      clear F hS
      go_simp
      refine ⟨trivial, rfl, wideAt_calls (hc.mono ?_)⟩
      rintro e w5 ⟨rfl, hres⟩
      exact HQ.out _ _ _ _ _ _ _ _ w5 hres
    · have h2 : d_ 5 = true := (by simp [hdep] : d_ 5 = true)
      rw [F.np] at h2
      cases h2
  · rintro d_ a_ w1 hall ⟨x10, x11, x12, x13, x14, x15, x16, b, rfl, F⟩
    have hall' : ∀ k, k < 7 → d_ k = true := hall
    have h2 := hall' 5 (by decide)
    rw [F.np] at h2
    cases h2
attribute [local go_sem] Oper.semAt_some
structure par7F (bs : Nat) (f : Nat) (z : Nat) (s : Nat) (rl : Nat) (S0 : World → Prop) (S1 : World → Prop) (d : Nat → Bool) (x24 x25 x26 x27 : Value) (w : World) : Prop where
  q2 : d 2 = true → d 1 = true
  q3 : d 3 = true → d 0 = true ∧ d 2 = true
  q4 : d 4 = true → d 0 = true ∧ d 1 = true ∧ d 2 = true ∧ d 3 = true
  f0 : d 0 = true → x24 = .int .i64 s
  f1 : d 1 = true → x25 = .int .i64 f
  f2 : d 2 = true → x26 = .int .i64 z
  f3 : d 3 = true → x27 = .int .i64 (s ||| z : Nat)
  st0 : d 4 = false → S0 w
  st1 : d 4 = true → S1 w
noncomputable def par7C : Code := (Try.f33.body.bind (regionR 7)).getD .skip
set_option maxRecDepth 100000 in
set_option maxHeartbeats 4000000 in
theorem par7 {bs : Nat} {f : Nat} {z : Nat} {s : Nat} {rl : Nat} {S0 : World → Prop} {S1 : World → Prop} {Q : Exit → Act → World → Prop} {W1 : World} (hf : f ≤ 5) (hwr : IntKind.i64.wrap (2 ^ f) = (z : Int)) (hor : bits .or .i64 (s : Int) (z : Int) = ((s ||| z : Nat) : Int)) (h0 : S0 W1.drew)
    (kl0 : Hid (∀ (w : World), (S0 w) → w.cell? ⟨bs, 0, none⟩ = some (.int .i64 s)))
    (kc4 : Hid (∀ (w : World), S0 w → (∃ u, w.cell? ⟨bs, 0, none⟩ = some u) ∧ w.frozen? ⟨bs, 0, none⟩ = false ∧ S1 (w.setCell ⟨bs, 0, none⟩ (.int .i64 (s ||| z : Nat)))))
    {s0 s1 s2 s3 s5 s6 s7 s9 s10 s11 s12 s13 s14 s15 s16 s17 s18 s19 s20 s21 s22 s23 s24 s25 s26 s27 s28 s29 : Value} {dd : List Deferred}
    (hQ : ∀ (w' : World), S1 w' → Q .normal { tmps := #[s0, s1, s2, s3, .pointer (some ⟨bs, 0, none⟩), s5, s6, s7, .int .i64 f, s9, s10, s11, s12, s13, s14, s15, s16, s17, s18, s19, s20, s21, s22, s23, .int .i64 s, .int .i64 f, .int .i64 z, .int .i64 (s ||| z : Nat), s28, s29], defers := dd } w') :
    Code.wpIn (wideAt (some rl)) 0 Try.prog par7C Q { tmps := #[s0, s1, s2, s3, .pointer (some ⟨bs, 0, none⟩), s5, s6, s7, .int .i64 f, s9, s10, s11, s12, s13, s14, s15, s16, s17, s18, s19, s20, s21, s22, s23, s24, s25, s26, s27, s28, s29], defers := dd } W1 := by
  have HQ := Lib.hid hQ
  clear hQ
  conv => arg 4; whnf
  refine wpIn_region_invG mixed (by kernel_rfl) (fun d_ a_ w' => ∃ (x24 : Value) (x25 : Value) (x26 : Value) (x27 : Value), a_ = { tmps := #[s0, s1, s2, s3, .pointer (some ⟨bs, 0, none⟩), s5, s6, s7, .int .i64 f, s9, s10, s11, s12, s13, s14, s15, s16, s17, s18, s19, s20, s21, s22, s23, x24, x25, x26, x27, s28, s29], defers := dd } ∧ par7F bs f z s rl S0 S1 d_ x24 x25 x26 x27 w') ?_ ?_ ?_
  · refine ⟨s24, s25, s26, s27, rfl, ?_⟩
    constructor <;> first | rfl | (intro h; cases h; done) | (intro _; exact h0) | exact h0
  · refine ⟨?_, ?_, ?_, ?_, ?_, trivial⟩
    all_goals
      rintro d_ a_ w1 K hd_ hdep ⟨x24, x25, x26, x27, rfl, F⟩ HK
      simp [Region.binds] at hdep
    · have hst : S0 w1 := by
        have n_ : d_ 4 = false := by
          cases e_ : d_ 4 with
          | false => rfl
          | true => have h2 := (F.q4 e_).1; rw [show d_ 0 = false from hd_] at h2; cases h2
        exact (F.st0 n_)
      have kk := kl0.out w1 hst
      clear hst
      have HF : Hid (par7F bs f z s rl S0 S1 (upd d_ 0) (.int .i64 s) x25 x26 x27 w1) := ⟨F.q2, fun h => ⟨rfl, (F.q3 h).2⟩, fun h => ⟨rfl, (F.q4 h).2.1, (F.q4 h).2.2.1, (F.q4 h).2.2.2⟩, fun _ => rfl, F.f1, F.f2, F.f3, F.st0, F.st1⟩
      clear F
      go_simp
      exact HK.out _ _ ⟨_, _, _, _, rfl, HF.out⟩
    · have HF : Hid (par7F bs f z s rl S0 S1 (upd d_ 1) x24 (.int .i64 f) x26 x27 w1) := ⟨fun h => rfl, F.q3, fun h => ⟨(F.q4 h).1, rfl, (F.q4 h).2.2.1, (F.q4 h).2.2.2⟩, F.f0, fun _ => rfl, F.f2, F.f3, F.st0, F.st1⟩
      clear F
      go_simp
      exact HK.out _ _ ⟨_, _, _, _, rfl, HF.out⟩
    · obtain rfl := F.f1 (by simp [hdep])
      have HF : Hid (par7F bs f z s rl S0 S1 (upd d_ 2) x24 (.int .i64 f) (.int .i64 z) x27 w1) := ⟨fun _ => (show _ from (by simp [hdep] : d_ 1 = true)), fun h => ⟨(F.q3 h).1, rfl⟩, fun h => ⟨(F.q4 h).1, (F.q4 h).2.1, rfl, (F.q4 h).2.2.2⟩, F.f0, F.f1, fun _ => rfl, F.f3, F.st0, F.st1⟩
      clear F
      go_simp
      exact HK.out _ _ ⟨_, _, _, _, rfl, HF.out⟩
    · obtain rfl := F.f0 (by simp [hdep])
      obtain rfl := F.f2 (by simp [hdep])
      have HF : Hid (par7F bs f z s rl S0 S1 (upd d_ 3) (.int .i64 s) x25 (.int .i64 z) (.int .i64 (s ||| z : Nat)) w1) := ⟨F.q2, fun _ => ⟨(show _ from (by simp [hdep] : d_ 0 = true)), (show _ from (by simp [hdep] : d_ 2 = true))⟩, fun h => ⟨(F.q4 h).1, (F.q4 h).2.1, (F.q4 h).2.2.1, rfl⟩, F.f0, F.f1, F.f2, fun _ => rfl, F.st0, F.st1⟩
      clear F
      go_simp
      exact HK.out _ _ ⟨_, _, _, _, rfl, HF.out⟩
    · have hS := F.st0  hd_
      obtain rfl := F.f3 (by simp [hdep])
      obtain ⟨⟨u0, kcell0⟩, kfr0, hres⟩ := kc4.out w1 hS
      have HF : Hid (par7F bs f z s rl S0 S1 (upd d_ 4) x24 x25 x26 (.int .i64 (s ||| z : Nat)) (w1.setCell ⟨bs, 0, none⟩ (.int .i64 (s ||| z : Nat)))) := ⟨F.q2, F.q3, fun _ => ⟨(show _ from (by simp [hdep] : d_ 0 = true)), (show _ from (by simp [hdep] : d_ 1 = true)), (show _ from (by simp [hdep] : d_ 2 = true)), (show _ from (by simp [hdep] : d_ 3 = true))⟩, F.f0, F.f1, F.f2, F.f3, fun h => (by simp [upd] at h), fun _ => hres⟩
      clear F hS hres
      go_simp
      exact HK.out _ _ ⟨_, _, _, _, rfl, HF.out⟩
  · rintro d_ a_ w1 hall ⟨x24, x25, x26, x27, rfl, F⟩
    have hall' : ∀ k, k < 5 → d_ k = true := hall
    obtain rfl := F.f0 (hall' 0 (by decide))
    obtain rfl := F.f1 (hall' 1 (by decide))
    obtain rfl := F.f2 (hall' 2 (by decide))
    obtain rfl := F.f3 (hall' 3 (by decide))
    exact HQ.out  w1 (F.st1 (hall' 4 (by decide)))
structure par8F (bs : Nat) (bo : Nat) (be : Nat) (s : Nat) (o : Bool) (S0 : World → Prop) (S1 : World → Prop) (S2 : World → Prop) (S3 : World → Prop) (d : Nat → Bool) (x28 x29 : Value) (w : World) : Prop where
  q2 : d 2 = true → d 0 = true
  q3 : d 3 = true → d 0 = true ∧ d 1 = true ∧ d 2 = true
  q4 : d 4 = true → d 0 = true ∧ d 1 = true ∧ d 2 = true ∧ d 3 = true
  f0 : d 0 = true → x28 = .int .i64 s
  f1 : d 1 = true → x29 = .bool o
  st0 : d 2 = false → S0 w
  st1 : d 2 = true → d 3 = false → S1 w
  st2 : d 3 = true → d 4 = false → S2 w
  st3 : d 4 = true → S3 w
noncomputable def par8C : Code := (Try.f33.body.bind (regionAt 8)).getD .skip
set_option maxRecDepth 100000 in
set_option maxHeartbeats 4000000 in
theorem par8 {bs : Nat} {bo : Nat} {be : Nat} {s : Nat} {o : Bool} {S0 : World → Prop} {S1 : World → Prop} {S2 : World → Prop} {S3 : World → Prop} {Q : Exit → Act → World → Prop} {W1 : World} (h0 : S0 W1.drew)
    (kl0 : Hid (∀ (w : World), (S0 w) → w.cell? ⟨bs, 0, none⟩ = some (.int .i64 s)))
    (kl1 : Hid (∀ (w : World), (S0 w ∨ S1 w) → w.cell? ⟨bo, 0, none⟩ = some (.bool o)))
    (kc2 : Hid (∀ (w : World), S0 w → (∃ u, w.cell? ⟨bs, 0, none⟩ = some u) ∧ w.frozen? ⟨bs, 0, none⟩ = false ∧ S1 (w.setCell ⟨bs, 0, none⟩ (.int .i64 s))))
    (kc3 : Hid (∀ (w : World), S1 w → (∃ u, w.cell? ⟨bo, 0, none⟩ = some u) ∧ w.frozen? ⟨bo, 0, none⟩ = false ∧ S2 (w.setCell ⟨bo, 0, none⟩ (.bool o))))
    (kc4 : Hid (∀ (w : World), S2 w → (∃ u, w.cell? ⟨be, 0, none⟩ = some u) ∧ w.frozen? ⟨be, 0, none⟩ = false ∧ S3 (w.setCell ⟨be, 0, none⟩ (.int .i64 0))))
    {s0 s1 s2 s3 s7 s8 s9 s10 s11 s12 s13 s14 s15 s16 s17 s18 s19 s20 s21 s22 s23 s24 s25 s26 s27 s28 s29 : Value} {dd : List Deferred}
    (hQ : ∀ (w' : World), S3 w' → Q .normal { tmps := #[s0, s1, s2, s3, .pointer (some ⟨bs, 0, none⟩), .pointer (some ⟨bo, 0, none⟩), .pointer (some ⟨be, 0, none⟩), s7, s8, s9, s10, s11, s12, s13, s14, s15, s16, s17, s18, s19, s20, s21, s22, s23, s24, s25, s26, s27, .int .i64 s, .bool o], defers := dd } w') :
    Code.wpIn (wideAt none) 0 Try.prog par8C Q { tmps := #[s0, s1, s2, s3, .pointer (some ⟨bs, 0, none⟩), .pointer (some ⟨bo, 0, none⟩), .pointer (some ⟨be, 0, none⟩), s7, s8, s9, s10, s11, s12, s13, s14, s15, s16, s17, s18, s19, s20, s21, s22, s23, s24, s25, s26, s27, s28, s29], defers := dd } W1 := by
  have HQ := Lib.hid hQ
  clear hQ
  conv => arg 4; whnf
  refine wpIn_region_invG mixed (by kernel_rfl) (fun d_ a_ w' => ∃ (x28 : Value) (x29 : Value), a_ = { tmps := #[s0, s1, s2, s3, .pointer (some ⟨bs, 0, none⟩), .pointer (some ⟨bo, 0, none⟩), .pointer (some ⟨be, 0, none⟩), s7, s8, s9, s10, s11, s12, s13, s14, s15, s16, s17, s18, s19, s20, s21, s22, s23, s24, s25, s26, s27, x28, x29], defers := dd } ∧ par8F bs bo be s o S0 S1 S2 S3 d_ x28 x29 w') ?_ ?_ ?_
  · refine ⟨s28, s29, rfl, ?_⟩
    constructor <;> first | rfl | (intro h; cases h; done) | (intro _; exact h0) | exact h0
  · refine ⟨?_, ?_, ?_, ?_, ?_, trivial⟩
    all_goals
      rintro d_ a_ w1 K hd_ hdep ⟨x28, x29, rfl, F⟩ HK
      simp [Region.binds] at hdep
    · have hst : S0 w1 := by
        have n_ : d_ 2 = false := by
          cases e_ : d_ 2 with
          | false => rfl
          | true => have h2 := (F.q2 e_); rw [show d_ 0 = false from hd_] at h2; cases h2
        exact (F.st0 n_)
      have kk := kl0.out w1 hst
      clear hst
      have HF : Hid (par8F bs bo be s o S0 S1 S2 S3 (upd d_ 0) (.int .i64 s) x29 w1) := ⟨fun h => rfl, fun h => ⟨rfl, (F.q3 h).2.1, (F.q3 h).2.2⟩, fun h => ⟨rfl, (F.q4 h).2.1, (F.q4 h).2.2.1, (F.q4 h).2.2.2⟩, fun _ => rfl, F.f1, F.st0, F.st1, F.st2, F.st3⟩
      clear F
      go_simp
      exact HK.out _ _ ⟨_, _, rfl, HF.out⟩
    · have hst : S0 w1 ∨ S1 w1 := by
        cases e1 : d_ 2 with
        | false => exact .inl ((F.st0 e1))
        | true =>
          have n_ : d_ 3 = false := by
            cases e_ : d_ 3 with
            | false => rfl
            | true => have h2 := (F.q3 e_).2.1; rw [show d_ 1 = false from hd_] at h2; cases h2
          exact .inr ((F.st1 e1 n_))
      have kk := kl1.out w1 hst
      clear hst
      have HF : Hid (par8F bs bo be s o S0 S1 S2 S3 (upd d_ 1) x28 (.bool o) w1) := ⟨F.q2, fun h => ⟨(F.q3 h).1, rfl, (F.q3 h).2.2⟩, fun h => ⟨(F.q4 h).1, rfl, (F.q4 h).2.2.1, (F.q4 h).2.2.2⟩, F.f0, fun _ => rfl, F.st0, F.st1, F.st2, F.st3⟩
      clear F
      go_simp
      exact HK.out _ _ ⟨_, _, rfl, HF.out⟩
    · have hS := F.st0  hd_
      obtain rfl := F.f0 (by simp [hdep])
      obtain ⟨⟨u0, kcell0⟩, kfr0, hres⟩ := kc2.out w1 hS
      have HF : Hid (par8F bs bo be s o S0 S1 S2 S3 (upd d_ 2) (.int .i64 s) x29 (w1.setCell ⟨bs, 0, none⟩ (.int .i64 s))) := ⟨fun _ => (show _ from (by simp [hdep] : d_ 0 = true)), fun h => ⟨(F.q3 h).1, (F.q3 h).2.1, rfl⟩, fun h => ⟨(F.q4 h).1, (F.q4 h).2.1, rfl, (F.q4 h).2.2.2⟩, F.f0, F.f1, fun h => (by simp [upd] at h), fun _ _ => hres, fun h _ => (by have h2 : d_ 2 = true := (F.q3 h).2.2; rw [show d_ 2 = false from hd_] at h2; cases h2), fun h => (by have h2 : d_ 2 = true := (F.q4 h).2.2.1; rw [show d_ 2 = false from hd_] at h2; cases h2)⟩
      clear F hS hres
      go_simp
      exact HK.out _ _ ⟨_, _, rfl, HF.out⟩
    · have hS := F.st1 (by simp [hdep] : d_ 2 = true) hd_
      obtain rfl := F.f1 (by simp [hdep])
      obtain ⟨⟨u0, kcell0⟩, kfr0, hres⟩ := kc3.out w1 hS
      have HF : Hid (par8F bs bo be s o S0 S1 S2 S3 (upd d_ 3) x28 (.bool o) (w1.setCell ⟨bo, 0, none⟩ (.bool o))) := ⟨F.q2, fun _ => ⟨(show _ from (by simp [hdep] : d_ 0 = true)), (show _ from (by simp [hdep] : d_ 1 = true)), (show _ from (by simp [hdep] : d_ 2 = true))⟩, fun h => ⟨(F.q4 h).1, (F.q4 h).2.1, (F.q4 h).2.2.1, rfl⟩, F.f0, F.f1, fun h => (by have h2 : d_ 2 = false := h; rw [(by simp [hdep] : d_ 2 = true)] at h2; cases h2), fun _ h => (by simp [upd] at h), fun _ _ => hres, fun h => (by have h2 : d_ 3 = true := (F.q4 h).2.2.2; rw [show d_ 3 = false from hd_] at h2; cases h2)⟩
      clear F hS hres
      go_simp
      exact HK.out _ _ ⟨_, _, rfl, HF.out⟩
    · have hS := F.st2 (by simp [hdep] : d_ 3 = true) hd_
      obtain ⟨⟨u0, kcell0⟩, kfr0, hres⟩ := kc4.out w1 hS
      have HF : Hid (par8F bs bo be s o S0 S1 S2 S3 (upd d_ 4) x28 x29 (w1.setCell ⟨be, 0, none⟩ (.int .i64 0))) := ⟨F.q2, F.q3, fun _ => ⟨(show _ from (by simp [hdep] : d_ 0 = true)), (show _ from (by simp [hdep] : d_ 1 = true)), (show _ from (by simp [hdep] : d_ 2 = true)), (show _ from (by simp [hdep] : d_ 3 = true))⟩, F.f0, F.f1, fun h => (by have h2 : d_ 2 = false := h; rw [(by simp [hdep] : d_ 2 = true)] at h2; cases h2), fun _ h => (by have h2 : d_ 3 = false := h; rw [(by simp [hdep] : d_ 3 = true)] at h2; cases h2), fun _ h => (by simp [upd] at h), fun _ => hres⟩
      clear F hS hres
      go_simp
      exact HK.out _ _ ⟨_, _, rfl, HF.out⟩
  · rintro d_ a_ w1 hall ⟨x28, x29, rfl, F⟩
    have hall' : ∀ k, k < 5 → d_ k = true := hall
    obtain rfl := F.f0 (hall' 0 (by decide))
    obtain rfl := F.f1 (hall' 1 (by decide))
    exact HQ.out  w1 (F.st3 (hall' 4 (by decide)))
end Go.Proofs.Ytnfhlbmapfoifaa
namespace Go.Proofs.Ytnfhlbmapfoifaa
open Go.RowKit
set_option linter.unusedVariables false
theorem onW_rng {p : Prs} : ∀ (d : Nat) (pre : List Int), (∀ y ∈ pre, -1 ≤ y ∧ y < p.cards.length) → ∀ x ∈ onW p d pre, ∀ y ∈ x, -1 ≤ y ∧ y < p.cards.length
  | 0, pre, h, x, hx => by
    rw [onW_zero] at hx
    split at hx
    · simp at hx; subst hx; exact h
    · simp at hx
  | d + 1, pre, h, x, hx => by
    rw [onW_succ, List.mem_flatMap] at hx
    obtain ⟨f, hf, hx⟩ := hx
    unfold onF at hx
    split at hx
    · simp at hx
    · refine onW_rng d _ (fun y hy => ?_) x hx
      rcases List.mem_append.1 hy with hy | hy
      · exact h y hy
      · rw [List.mem_singleton.1 hy]
        simp [froms] at hf
        obtain ⟨k, hk, rfl⟩ := hf
        omega
theorem ways_rng {p : Prs} {x : List Int} (hx : x ∈ waysL p) : ∀ y ∈ x, -1 ≤ y ∧ y < p.cards.length := onW_rng _ [] (fun y hy => by simp at hy) x hx
def parS (l : List Int) : Nat := bitsOf ((l.filter fun k => !decide (k = -1)).map Int.toNat)
def parO (l : List Int) : Bool := l.any fun k => decide (k = -1)
theorem bitsOf_snoc (l : List Nat) (x : Nat) : bitsOf (l ++ [x]) = bitsOf l ||| 2 ^ x := by unfold bitsOf; rw [List.foldl_append]; rfl
theorem foldl_or_lt {n : Nat} : ∀ (l : List Nat) (s : Nat), s < 2 ^ n → (∀ x ∈ l, x < n) → l.foldl (fun s n => s ||| 2 ^ n) s < 2 ^ n
  | [], s, h, _ => h
  | x :: r, s, h, hl => foldl_or_lt r _ (Nat.or_lt_two_pow h (Nat.pow_lt_pow_right (by decide) (hl x (by simp)))) (fun y hy => hl y (by simp [hy]))
theorem bitsOf_lt {n : Nat} {l : List Nat} (h : ∀ x ∈ l, x < n) : bitsOf l < 2 ^ n := foldl_or_lt l 0 (Nat.two_pow_pos n) h
theorem parS_snoc (l : List Int) (x : Int) : parS (l ++ [x]) = if x = -1 then parS l else parS l ||| 2 ^ x.toNat := by
  unfold parS
  rw [List.filter_append]
  by_cases h : x = -1
  · simp [h]
  · simp [h, bitsOf_snoc]
theorem parO_snoc (l : List Int) (x : Int) : parO (l ++ [x]) = (parO l || decide (x = -1)) := by unfold parO; simp [List.any_append]
theorem parS_lt {l : List Int} (h : ∀ x ∈ l, x < 5) : parS l < 2 ^ 5 := bitsOf_lt (fun y hy => by
  simp at hy
  obtain ⟨x, ⟨hx, _⟩, rfl⟩ := hy
  have := h x hx
  omega)
/-- What has been gathered of the first ways. -/
def parL (p : Prs) (card i : Nat) : List Int := ((waysL p).take i).map fun w => gi w card
theorem parL_succ {p : Prs} {card i : Nat} {x : List Int} (hx : (waysL p)[i]? = some x) : parL p card (i + 1) = parL p card i ++ [gi x card] := by
  unfold parL
  rw [List.take_succ_eq_append_getElem (List.getElem?_eq_some_iff.1 hx).1, (List.getElem?_eq_some_iff.1 hx).2]
  simp
theorem parL_lt {p : Prs} (hv : p.valid = true) {card i : Nat} (hc : card < p.cards.length) : ∀ y ∈ parL p card i, y < 5 := fun y hy => by
  unfold parL at hy
  obtain ⟨x, hx, rfl⟩ := List.mem_map.1 hy
  have hx' := List.mem_of_mem_take hx
  have hl := (ways_all hx').1
  have hn := (valid_parts hv).1
  have hlt : card < x.length := by omega
  have e : gi x card = x[card] := by simp [gi, hlt]
  have := ways_rng hx' _ (List.getElem_mem hlt)
  rw [e]; omega
theorem two_wrap {f : Nat} (h : f ≤ 5) : IntKind.i64.wrap (2 ^ f) = ((2 ^ f : Nat) : Int) := by
  have : f = 0 ∨ f = 1 ∨ f = 2 ∨ f = 3 ∨ f = 4 ∨ f = 5 := by omega
  rcases this with rfl | rfl | rfl | rfl | rfl | rfl <;> decide +kernel
theorem or_i64 (a b : Nat) (ha : a < 2 ^ 62) (hb : b < 2 ^ 62) : bits .or .i64 (a : Int) (b : Int) = ((a ||| b : Nat) : Int) :=
  (bits_nat .i64 62 (by decide) (fun n h1 h2 => by rw [IntKind.wrap_i64]; omega) a b ha hb).2
structure ParI (w3 : World) (bs bo s : Nat) (o : Bool) (A : World) : Prop where
  same : Same (fun k => k = bs ∨ k = bo) w3 A
  cs : A.heap[bs]? = some (.cells #[.int .i64 (s : Int)] 3 (0, 0))
  co : A.heap[bo]? = some (.cells #[.bool o] 4 (0, 0))
theorem ParI.stable {w3 : World} {bs bo s : Nat} {o : Bool} {lb : Nat} {A B : World} {C : Nat → Prop} (h : ParI w3 bs bo s o A) (hs : Same (fun k => ¬ C k ∨ k = lb) A B) (h1 : w3.heap.size ≤ lb) (h2 : bs < w3.heap.size) (h3 : bo < w3.heap.size) (hC : ∀ k, k < w3.heap.size → C k) : ParI w3 bs bo s o B := by
  have hk : ∀ k, k < w3.heap.size → B.heap[k]? = A.heap[k]? := fun k hk => hs.block k (by have := h.same.size; omega) (fun e => by
    rcases e with e | e
    · exact e (hC k hk)
    · omega)
  exact ⟨same_later h.same hs (fun k e => by
    by_cases hk' : k < w3.heap.size
    · rcases e with e | e
      · exact (e (hC k hk')).elim
      · omega
    · exact .inr (by omega)), (hk _ h2).trans h.cs, (hk _ h3).trans h.co⟩
end Go.Proofs.Ytnfhlbmapfoifaa
