/- The reference's few, Fewest. -/
import Derived.Test.YtnfhlbmapfoifaaR16
namespace Go.Proofs.Ytnfhlbmapfoifaa
open Go.RowKit
set_option linter.unusedVariables false
set_option linter.unusedSimpArgs false

theorem minW_step {l : List (List Int)} {k : Nat} (hk : k < l.length) : (l.take (k + 1)).foldl (fun m x => min m (origN x)) 5 = min ((l.take k).foldl (fun m x => min m (origN x)) 5) (origN (l.getD k [])) := by
  rw [List.take_succ_eq_append_getElem hk, List.foldl_append]
  simp [hk]
theorem fewL_step {l : List (List Int)} {k : Nat} (q : Nat) (hk : k < l.length) : ((l.take (k + 1)).filter fun x => decide (origN x = q)) = ((l.take k).filter fun x => decide (origN x = q)) ++ if origN (l.getD k []) = q then [l.getD k []] else [] := by
  rw [List.take_succ_eq_append_getElem hk, List.filter_append]
  have : l.getD k [] = l[k] := by simp [hk]
  rw [this]
  congr 1
  by_cases h : origN l[k] = q <;> simp [h]
set_option maxRecDepth 100000 in
set_option maxHeartbeats 4000000 in
theorem few_ref {l : List (List Int)} {a : Option Addr} {cap : Nat} {w : World} (ha : IsLists w a l) (hn : l.length ≤ 10000) (hr : ∀ x ∈ l, x.length ≤ 5) :
    Calls Try.prog 59 #[.slice a l.length cap] w fun e w' => ∃ v', e = .returned v' ∧ OutL w w' v' (fewL l) := by
  have HA := Lib.hid ha
  have HR : Hid (∀ k, k < l.length → (l.getD k []).length ≤ 5) := fun k hk => hr _ (by simp [hk])
  clear ha hr
  go_enter Try.func59, Try.ntmps59
  go_wp2_with fail
  go_loopw [3, 4] (fun x i wr => ∃ k q : Nat, k ≤ l.length ∧ i = .int .i64 k ∧ x = .int .i64 q ∧ q ≤ 5 ∧ Hid (q = (l.take k).foldl (fun m x => min m (origN x)) 5) ∧ w = wr) (fun x i _ => l.length - (intOf i).toNat)
  case atStart => exact ⟨0, 5, by omega, rfl, rfl, by omega, rfl, rfl⟩
  case round =>
    obtain ⟨k, q, hk, rfl, rfl, hq, HQ, rfl⟩ := hrel
    by_cases hlt : k < l.length
    · obtain ⟨b, off, rfl, ax, cx, hcell, hints⟩ := HA.out k hlt
      have h5 := HR.out k hlt
      have HS := Lib.hid (minW_step hlt)
      revert hcell hints h5 HS
      generalize l.getD k [] = x
      intro hcell hints h5 HS
      have ho := orig_le x
      have HI := Lib.hid hints
      clear hints
      go_wp2_with fail
      refine (originals_ref (cap := cx) HI.out (by omega)).mono ?_
      rintro e w' ⟨rfl, rfl⟩
      go_wp2_with fail
      go_roundw
      case rel => exact ⟨k + 1, min q (origN x), by omega, by go_num, by congr 1; split <;> omega, by omega, by rw [Hid, HS.out, ← HQ.out], by first | trivial | rfl⟩
      case measure => simp [intOf]; omega
    · obtain rfl : k = l.length := by omega
      have HM : Hid (q = minW l) := by rw [Hid, HQ.out, List.take_length]; rfl
      clear HQ
      go_wp2_with fail
      go_loopw [5, 6] (fun o i wr => ∃ (k : Nat) (ao : Option Addr) (co : Nat), k ≤ l.length ∧ i = .int .i64 k ∧ o = .slice ao ((l.take k).filter fun x => decide (origN x = q)).length co ∧ Hid (OutL w wr o ((l.take k).filter fun x => decide (origN x = q)))) (fun o i _ => l.length - (intOf i).toNat)
      case atStart => exact ⟨0, none, 0, by omega, rfl, by simp, by simpa [Hid] using outL_nil w⟩
      case round =>
        obtain ⟨k, ao, co, hk, rfl, rfl, HW⟩ := hrel
        by_cases hlt : k < l.length
        · obtain ⟨b, off, rfl, ax, cx, hcell, hints⟩ := (HA.out.mono HW.out.1) k hlt
          obtain ⟨b', off', eb, ax', cx', hcell', hints'⟩ := HA.out k hlt
          obtain ⟨rfl, rfl⟩ : b = b' ∧ off = off' := by simpa using eb
          have hcc := cell_stays HW.out.1 hcell'
          rw [hcell] at hcc
          obtain ⟨rfl, rfl⟩ : ax = ax' ∧ cx = cx' := by simpa using hcc
          have h5 := HR.out k hlt
          have HS := Lib.hid (fewL_step q hlt)
          have HL : Hid (((l.take k).filter fun x => decide (origN x = q)).length ≤ 10000) := Nat.le_trans (List.length_filter_le _ _) (by rw [List.length_take]; omega)
          have HI := Lib.hid (And.intro hints hints')
          clear hcc hcell' hints hints' eb
          revert hcell h5 HS HI
          generalize l.getD k [] = x
          intro hcell h5 HS HI
          have ho := orig_le x
          by_cases he : origN x = q
          · rw [if_pos he] at HS
            obtain ⟨v', w', hrun, hout⟩ := out_add (cx := cx) HW.out HI.out.2 (by have := HL.out; omega)
            obtain ⟨a2, c2, rfl⟩ := hout.sl
            have HRun := Lib.hid hrun
            have HOut := Lib.hid hout
            have hb : ((origN x : Int) == (q : Int)) = true := by rw [he]; simp
            clear hrun hout he
            go_wp2_with fail
            refine (originals_ref (cap := cx) HI.out.1 (by omega)).mono ?_
            rintro e w5 ⟨rfl, rfl⟩
            go_wp2_with (at_builtin; refine wpList_append_run rfl (.tmp 33) (.tmp 38) 32 rfl _ _ _ _ rfl rfl HRun.out ?_)
            go_roundw
            case rel => exact ⟨k + 1, a2, c2, by omega, by go_num, by first | (rw [HS.out]; done) | simp [HS.out], by rw [Hid, HS.out]; simpa using HOut.out⟩
            case measure => simp [intOf]; omega
          · rw [if_neg he, List.append_nil] at HS
            have hb : ((origN x : Int) == (q : Int)) = false := by simp; omega
            clear he
            go_wp2_with fail
            refine (originals_ref (cap := cx) HI.out.1 (by omega)).mono ?_
            rintro e w5 ⟨rfl, rfl⟩
            go_wp2_with fail
            go_roundw
            case rel => exact ⟨k + 1, ao, co, by omega, by go_num, by first | (rw [HS.out]; done) | simp [HS.out], by rw [Hid, HS.out]; exact HW.out⟩
            case measure => simp [intOf]; omega
        · obtain rfl : k = l.length := by omega
          go_wp2_with fail
          go_ret
          have h := HW.out
          have e : ((l.take l.length).filter fun x => decide (origN x = q)) = fewL l := by rw [List.take_length, HM.out]; rfl
          rw [e] at h ⊢
          exact ⟨_, rfl, h⟩
end Go.Proofs.Ytnfhlbmapfoifaa
namespace Go.Proofs.Ytnfhlbmapfoifaa
open Go.RowKit
set_option linter.unusedVariables false
set_option maxRecDepth 100000 in
set_option maxHeartbeats 4000000 in
theorem fewest_ref {p : Prs} {a : Option Addr} {cap : Nat} {w : World} (ha : IsPrts w a p.cards) (hn : p.cards.length ≤ 16) (hv : p.valid = true) :
    Calls Try.prog 38 #[p.v a cap] w fun e w' => ∃ av cv, e = .returned (.tuple #[.slice av (fewestW p).length cv, .int .i64 (origN (fewestW p)), .int .i64 0]) ∧ IsInts w' av (fewestW p) ∧ Below w.heap.size w w' := by
  have hb0 : Below w.heap.size w (w.alloc (.cells (p.cells a cap) 26)) := (Below.refl _ w).alloc (Nat.le_refl _) _
  have q0 := World.alloc_heap_new w (.cells (p.cells a cap) 26)
  have HW := Lib.hid (And.intro hb0 (And.intro q0 (ha.mono hb0)))
  have h4 : openE p true = 0 := by simp [openE, hv]
  have hn5 := (valid_parts hv).1
  obtain ⟨h, t, het⟩ : ∃ h t, waysL p = h :: t := by
    cases e : waysL p with
    | nil => exact (ways_ne hv e).elim
    | cons h t => exact ⟨h, t, rfl⟩
  obtain ⟨hf1, hf2⟩ := fewL_first hn5 het
  have hle := waysL_le hn5
  have HV := Lib.hid hv
  have H4 := Lib.hid h4
  have HF := Lib.hid hf1
  have HL : Hid (∀ x ∈ waysL p, x.length ≤ 5) := fun x hx => by have := (ways_all hx).1; omega
  clear hb0 q0 ha h4 hv het hf1 hf2
  go_enter Try.func38, Try.ntmps38
  go_wp2_with fail
  revert HW
  generalize w.alloc (.cells (p.cells a cap) 26) = w1
  intro HW
  refine (rcheck_any HW.out.2.2 hn true).mono ?_
  rintro e w2 ⟨rfl, hb2⟩
  rw [H4.out]
  obtain ⟨k0, k1, k2, k3, k4⟩ := prs_cells ((hb2.block _ (heap_lt HW.out.2.1)).trans HW.out.2.1)
  have HA2 := Lib.hid (HW.out.2.2.mono hb2)
  have HB2 := Lib.hid (HW.out.1.trans (hb2.mono HW.out.1.size))
  clear hb2
  go_wp2_with fail
  refine (all_ref HA2.out HV.out).mono ?_
  rintro e w3 ⟨v', rfl, hr, hb3⟩
  obtain ⟨a2, c2, rfl, hli⟩ := hr.lists
  have HB3 := Lib.hid (HB2.out.trans (hb3.mono HB2.out.size))
  have HLI := Lib.hid hli
  clear hr hb3 k0 k1 k2 k3 k4 hli
  go_wp2_with fail
  refine (few_ref HLI.out (by omega) HL.out).mono ?_
  rintro e w4 ⟨v4, rfl, ho⟩
  obtain ⟨a4, c4, rfl⟩ := ho.sl
  have HB4 := Lib.hid (HB3.out.trans (ho.1.mono HB3.out.size))
  have hls := ho.lists
  have hpos : 0 < (fewL (waysL p)).length := by
    cases e : fewL (waysL p) with
    | nil => have := HF.out; rw [e] at this; simp at this
    | cons _ _ => simp
  have hx0 : (fewL (waysL p)).getD 0 [] = fewestW p := by
    have := HF.out
    cases e : fewL (waysL p) with
    | nil => rw [e] at hpos; simp at hpos
    | cons x r => rw [e] at this; simpa using this
  obtain ⟨b, off, rfl, ax, cx, hcell, hints⟩ := hls 0 hpos
  rw [hx0] at hcell hints
  have hfl : (fewestW p).length ≤ 5 := by
    refine HL.out _ ?_
    have hm : fewestW p ∈ fewL (waysL p) := by rw [← hx0]; simp [hpos]
    exact (List.mem_filter.1 hm).1
  have hcell' : w4.cell? ⟨b, off, none⟩ = some (.slice ax (fewestW p).length cx) := by simpa using hcell
  have HI := Lib.hid hints
  have y0 := fun y : Aft w4.heap.size w4 => cell_stays y.h hcell'
  have CO := Lib.hid (fun y : Aft w4.heap.size w4 => originals_ref (cap := cx) (HI.out.mono y.h) (by omega))
  have hposI : (0 : Int) < ((fewL (waysL p)).length : Int) := by omega
  clear ho hls hx0 hcell hints hcell'
  go_wp2_with fail
  refine wp_region_aft mixed (by kernel_rfl) ?_
  repeat (go_big_quiet_step ((go_at_call 43; exact calls_aft_same (CO.out _))))
  refine wpQuiet_nil ?_
  rintro _ ⟨z, rfl⟩
  go_wp2_with fail
  refine bodyPost_ret (results_tmp3 rfl _ _ _) rfl ?_
  exact ⟨ax, cx, rfl, HI.out.mono z.h, HB4.out.trans (z.h.mono HB4.out.size)⟩
theorem fewest_ref_no {p : Prs} {a : Option Addr} {cap : Nat} {w : World} (ha : IsPrts w a p.cards) (hn : p.cards.length ≤ 16) (hv : p.valid = false) :
    Calls Try.prog 38 #[p.v a cap] w fun e w' => e = .returned (.tuple #[.slice none 0 0, .int .i64 0, .int .i64 1]) ∧ Below w.heap.size w w' := by
  have hb0 : Below w.heap.size w (w.alloc (.cells (p.cells a cap) 26)) := (Below.refl _ w).alloc (Nat.le_refl _) _
  have HW := Lib.hid (And.intro hb0 (ha.mono hb0))
  have h4 : openE p true = 1 := by simp [openE, hv]
  have H4 := Lib.hid h4
  clear hb0 ha h4 hv
  go_enter Try.func38, Try.ntmps38
  go_wp2_with fail
  refine (rcheck_any HW.out.2 hn true).mono ?_
  rintro e w2 ⟨rfl, hb2⟩
  rw [H4.out]
  have HB2 := Lib.hid (HW.out.1.trans (hb2.mono HW.out.1.size))
  clear hb2
  go_wp2_with fail
  refine bodyPost_ret (results_tmp3 rfl _ _ _) rfl ?_
  exact ⟨rfl, HB2.out⟩
end Go.Proofs.Ytnfhlbmapfoifaa
