/- The program's Check, Gives. -/
import Derived.Test.YtjkhclijmcmdjaaC3
namespace Go.Proofs.Ytjkhclijmcmdjaa
open Go.RowKit
set_option linter.unusedVariables false
set_option linter.unusedSimpArgs false
set_option maxRecDepth 100000 in
set_option maxHeartbeats 4000000 in
theorem check17 {p : Prs} {A : PrsA} {l : List Fme} {a : Option Addr} {c : Nat} {w : World} (hP : IsPrs w p A) (hS : p.Small) (ha : IsFmes w a l) (hl : l.length ≤ 1000) (hs : ∀ f ∈ l, f.slots.length ≤ 1000) :
    Calls Try.prog 17 #[p.v A, .slice a l.length c] w fun e w' => e = .returned (.tuple #[.int .i64 (checkE p l).1, .int .i64 (checkE p l).2]) ∧ Below w.heap.size w w' := by
  have HX := Lib.hid (alloc2 w (p.arr A) #[.int .i64 0] 27 34)
  have HF := Lib.hid (And.intro (hP.mono (alloc2 w (p.arr A) #[.int .i64 0] 27 34).2.2) (ha.mono (alloc2 w (p.arr A) #[.int .i64 0] 27 34).2.2))
  have HS := Lib.hid (And.intro hS hs)
  clear hP ha hS hs
  refine calls_of_wp_x Try.func17 rfl ?_
  simp only [Try.ntmps17, List.size_toArray, List.length_cons, List.length_nil, Nat.reduceAdd, Nat.reduceSub, Array.replicate_succ, Array.replicate_zero, List.push_toArray, List.append_toArray, List.nil_append, List.cons_append]
  conv => arg 2; whnf
  refine wp_seq_hid ?_
  intro K0 HK0
  go_wp2_with fail
  refine HK0.out _ _ ?_
  clear HK0 K0
  revert HX HF
  generalize (w.alloc (.cells (p.arr A) 27)).alloc (.cells #[.int .i64 0] 34) = w1
  generalize hbe : w.heap.size + 1 = be
  generalize hbp : w.heap.size = bp
  intro HX HF
  refine wp_seq_hid ?_
  intro K1 HK1
  go_wp2_with fail
  refine HK1.out _ _ ?_
  clear HK1 K1
  obtain ⟨m0, m1, m2, m3, m4, m5, m6, m7, m8, m9⟩ := prs_cells HX.out.1
  have HBE : Hid (bp ≤ be) := by show bp ≤ be; omega
  clear hbe hbp
  cases hv : p.valid with
  | false =>
    go_wp2_with fail
    refine (open_no HF.out.1 HS.out.1 hv).mono ?_
    rintro e w2 ⟨rfl, hb⟩
    have HB := Lib.hid hb
    clear hb
    go_wp2_with fail
    have hq := (HB.out.block _ (heap_lt HX.out.2.1)).trans HX.out.2.1
    have hE : p.openE (planOk p l) = 1 := by unfold Prs.openE; rw [hv]; rfl
    have HE : checkE p l = (0, 1) := by unfold checkE; simp only; rw [hE]; rfl
    have hlt := heap_lt HX.out.1
    have hsz := HB.out.size
    refine door_no hq (res_t34 rfl _ rfl (by rw [cell_of_heap (caught_heap hq)]; rfl)) ⟨by rw [HE]; rfl, caught_below (HX.out.2.2.trans (HB.out.mono (by omega))) HBE.out (by omega)⟩
  | true =>
    have HV := Lib.hid hv
    refine wp_seq_hid ?_
    intro K2 HK2
    go_wp2_with fail
    refine (open_yes HF.out.1 HS.out.1 hv).mono ?_
    rintro e w2 ⟨bq, rfl, hPR, hbq, hb⟩
    have HB := Lib.hid (And.intro hb (And.intro hPR (HF.out.2.mono hb)))
    clear hb hPR hbq hv m0 m1 m2 m3 m4 m5 m6 m7 m8 m9
    go_wp2_with fail
    refine HK2.out _ _ ?_
    clear HK2 K2
    have CP := isPlan49 (c := c) HB.out.2.1 HB.out.2.2 hl HS.out.2
    cases hok : planOk p l with
    | false =>
      rw [hok] at CP
      have HCP := Lib.hid CP
      clear CP
      go_wp2_with fail
      refine HCP.out.mono ?_
      rintro e w3 ⟨he, hb3⟩
      have he2 : e = .panicked [{ v := .iface 103 (.agg #[.int .i64 2]), recovered := false }] := he
      subst he2
      have HB3 := Lib.hid (HB.out.1.trans (hb3.mono HB.out.1.size))
      clear hb3 he
      go_wp2_with fail
      have hq := (HB3.out.block _ (heap_lt HX.out.2.1)).trans HX.out.2.1
      have hE : p.openE (planOk p l) = 2 := by unfold Prs.openE; rw [HV.out, hok]; rfl
      have HE : checkE p l = (0, 2) := by unfold checkE; simp only; rw [hE]; rfl
      have hlt := heap_lt HX.out.1
      have hsz := HB3.out.size
      refine door_no hq (res_t34 rfl _ rfl (by rw [cell_of_heap (caught_heap hq)]; rfl)) ⟨by rw [HE]; rfl, caught_below (HX.out.2.2.trans (HB3.out.mono (by omega))) HBE.out (by omega)⟩
    | true =>
      rw [hok] at CP
      have HCP := Lib.hid CP
      have HOK := Lib.hid hok
      clear CP hok
      refine wp_seq_hid ?_
      intro K3 HK3
      go_wp2_with fail
      refine HCP.out.mono ?_
      rintro e w3 ⟨he, hb3⟩
      have he2 : e = .returned (.tuple #[]) := he
      subst he2
      have HB3 := Lib.hid (And.intro (HB.out.1.trans (hb3.mono HB.out.1.size)) (And.intro (HB.out.2.1.mono hb3) (And.intro (HB.out.2.2.mono hb3) ((HF.out.1.mono HB.out.1).mono hb3))))
      clear hb3 he
      go_wp2_with fail
      refine HK3.out _ _ ?_
      clear HK3 K3
      have HR := Lib.hid (planR_of HV.out HOK.out)
      have HSP := Lib.hid (spoil_of HV.out)
      have hw4 := (wanted_of HV.out).2
      have hl2 := HR.out.len
      have HE : Hid (checkE p l = match p.few l with | some v => ((v : Int), 10) | none => (0, 0)) := by
        have hE : p.openE (planOk p l) = 0 := by unfold Prs.openE; rw [HV.out, HOK.out]; rfl
        show checkE p l = _; unfold checkE; simp only; rw [if_pos hE]; cases p.few l <;> rfl
      refine wp_seq_hid ?_
      intro K4 HK4
      have m6 := cell_stays HB3.out.1 (prs_cells HX.out.1).c6
      go_wp2_with fail
      clear m6
      go_loopw [20] (fun i wr => ∃ v : Nat, v ≤ p.wanted.length ∧ i = .int .i64 v ∧ Hid (∀ u, u < v → gi p.wanted u ≤ p.least l u) ∧ Hid (Below w3.heap.size w3 wr)) (fun i _ => p.wanted.length - (intOf i).toNat)
      case atStart => exact ⟨0, by omega, rfl, fun u hu => by omega, Below.refl _ _⟩
      case round =>
        obtain ⟨v, hv, rfl, HU, HW0⟩ := hrel
        by_cases hlt : v < p.wanted.length
        · obtain ⟨b, off, hab, hcell⟩ := (HB3.out.2.2.2.wanted.mono HW0.out) v hlt
          rw [hab]
          have HAB := Lib.hid hab
          clear hab
          refine wp_seq_hid ?_
          intro KL HKL
          go_wp2_with fail
          refine HKL.out _ _ ?_
          refine wp_seq_hid ?_
          intro KC HKC
          go_wp2_with fail
          refine HKC.out _ _ ?_
          refine wp_seq_hid ?_
          intro KB HKB
          refine wp_block ?_
          refine wp_seq_hid ?_
          intro K6 HK6
          go_wp2_with fail
          refine HK6.out _ _ ?_
          clear HK6 K6 hcell
          refine wp_seq_hid ?_
          intro K7 HK7
          go_wp2_with fail
          refine HK7.out _ _ ?_
          clear HK7 K7
          refine wp_seq_hid ?_
          intro K8 HK8
          go_wp2_with fail
          go_loopw [9, 27] (fun n i wr => ∃ k : Nat, k ≤ l.length ∧ i = .int .i64 k ∧ n = .int .i64 (p.least (l.take k) v) ∧ Hid (Below w3.heap.size w3 wr)) (fun _ i _ => l.length - (intOf i).toNat)
          case atStart => exact ⟨0, by omega, rfl, rfl, HW0.out⟩
          case round =>
            obtain ⟨k, hk, rfl, rfl, HW⟩ := hrel
            by_cases hlk : k < l.length
            · obtain ⟨b', off', hab', ai, ci, c0, c1, c6⟩ := (HB3.out.2.2.1.mono HW.out) k hlk
              subst hab'
              have h1 := HR.out.part HSP.out hlt k hk
              have hF := HR.out.fme hlk hlt
              have h2 := gives_bd HSP.out hF
              have HT := Lib.hid (least_take (p := p) hlk v)
              have hb5 : Below wr.heap.size wr (wr.alloc (.cells ((gf l k).arr ai ci) 29)) := (Below.refl _ _).alloc (Nat.le_refl _) _
              have q5 := World.alloc_heap_new wr (.cells ((gf l k).arr ai ci) 29)
              have HC := Lib.hid (gives45 (p := p) (A := A) (c := ci) ((HB3.out.2.1.mono HW.out).mono hb5) HSP.out (c6.mono hb5) hF)
              have HQ5 := Lib.hid (And.intro q5 (HW.out.trans (hb5.mono HW.out.size)))
              have HGE := gives_eq p (gf l k) v
              rw [HGE] at HC
              clear hF HGE c6 hb5 q5
              revert HT h1 h2 HC HQ5 c0 c1
              generalize p.least (l.take k) v = n
              generalize gi (gf l k).slots v * (p.good (gf l k).times).lo = z
              generalize gi (gf l k).slots v * (p.good (gf l k).times).hi = z'
              generalize gf l k = f
              intro c0 c1 h1 h2 HT HC HQ5
              have hfd := field23 z z'
              have v1 : IntKind.i64.wrap (n + z) = n + z := IntWalk.i64_in _ (by omega)
              go_upto_region 11 with fail
              clear c0 c1
              revert HC HQ5
              generalize wr.alloc (.cells (f.arr ai ci) 29) = w5
              generalize wr.heap.size = bf
              intro HC HQ5
              have x0 : w5.cell? ⟨bf, 0, none⟩ = some (.slice ai f.slots.length ci) := by rw [cell_of_heap HQ5.out.1]; rfl
              have x1 : w5.cell? ⟨bf, 1, none⟩ = some (.int .i64 f.times) := by rw [cell_of_heap HQ5.out.1]; rfl
              have HC2 : Hid (Calls Try.prog 45 #[.pointer (some ⟨bq, 0, none⟩), f.v ai ci, .int .i64 v] w5 fun e w' => e = .returned (.agg #[.int .i64 z, .int .i64 z']) ∧ Below w5.heap.size w5 w') := HC.out
              clear HC
              go_wp2_with fail
              refine HC2.out.mono ?_
              rintro e w6 ⟨rfl, hb6⟩
              have HB6 := Lib.hid (HQ5.out.2.trans (hb6.mono HQ5.out.2.size))
              clear hb6 x0 x1
              go_wp2_with fail
              go_roundw
              case rel => exact ⟨k + 1, by omega, by go_num, by rw [HT.out], HB6.out⟩
              case measure => simp [intOf]; omega
            · have hke : l.take k = l := List.take_of_length_le (by omega)
              rw [hke]
              clear hke
              by_cases hfw : p.least l v < gi p.wanted v
              · have HFS := Lib.hid (few_some hlt hfw HU.out)
                have hd : decide (p.least l v < gi p.wanted v) = true := by simpa using hfw
                clear hfw
                have hq := ((HB3.out.1.trans (HW.out.mono HB3.out.1.size)).block _ (heap_lt HX.out.2.1)).trans HX.out.2.1
                have HQ := Lib.hid hq
                have c0 : wr.cell? ⟨be, 0, none⟩ = some (.int .i64 0) := by rw [cell_of_heap hq]; rfl
                have f0 : wr.frozen? ⟨be, 0, none⟩ = false := frozen_of_heap hq
                clear hq
                go_wp2_with fail
                refine HK8.out _ _ ?_
                go_wp2_with fail
                have h5 := heap_setCell_at (k := 0) HQ.out (.int .i64 10)
                have hlx := heap_lt HX.out.1
                refine door_ok (res_t34 rfl _ rfl (by rw [cell_of_heap h5]; rfl)) ⟨by rw [HE.out, HFS.out]; rfl, ?_⟩
                exact (HX.out.2.2.trans ((HB3.out.1.trans (HW.out.mono HB3.out.1.size)).mono (by omega))).setCell (p := ⟨be, _, none⟩) HBE.out _
              · have HU2 : Hid (∀ u, u < v + 1 → gi p.wanted u ≤ p.least l u) := fun u hu => by
                  by_cases e : u = v
                  · subst e; exact Int.not_lt.1 hfw
                  · exact HU.out u (by omega)
                have hd : decide (p.least l v < gi p.wanted v) = false := by simpa using hfw
                clear hfw
                go_wp2_with fail
                refine HK8.out _ _ ?_
                go_wp2_with fail
                refine HKB.out _ _ ?_
                go_wp2_with fail
                go_roundw
                case rel => exact ⟨v + 1, by omega, by go_num, HU2.out, HW.out⟩
                case measure => simp [intOf]; omega
        · have HFS : Hid (p.few l = none) := few_none (fun u hu => HU.out u (by omega))
          have hq := ((HB3.out.1.trans (HW0.out.mono HB3.out.1.size)).block _ (heap_lt HX.out.2.1)).trans HX.out.2.1
          have HQ := Lib.hid hq
          have c0 : wr.cell? ⟨be, 0, none⟩ = some (.int .i64 0) := by rw [cell_of_heap hq]; rfl
          have f0 : wr.frozen? ⟨be, 0, none⟩ = false := frozen_of_heap hq
          clear hq
          go_wp2_with fail
          refine HK4.out _ _ ?_
          go_wp2_with fail
          have h5 := heap_setCell_at (k := 0) HQ.out (.int .i64 0)
          have hlx := heap_lt HX.out.1
          refine door_ok (res_t34 rfl _ rfl (by rw [cell_of_heap h5]; rfl)) ⟨by rw [HE.out, HFS.out]; rfl, ?_⟩
          exact (HX.out.2.2.trans ((HB3.out.1.trans (HW0.out.mono HB3.out.1.size)).mono (by omega))).setCell (p := ⟨be, _, none⟩) HBE.out _
theorem make33 {n m : Nat} (hn : n ≤ m) (hm : m ≤ 1000) (w : World) : (Instr.makeSlice 33 (.int .i64 (n : Int)) (.int .i64 (m : Int))).run Try.prog w = .ok (.slice (some ⟨w.heap.size, 0, none⟩) n m) (w.alloc (.cells (madeCells #[.int .i64 0, .int .i64 0] (m * 2)) 23)) := by
  obtain ⟨i0, hi0, hi1, hi2, hi3⟩ := info_parts2 infoS
  have h := run_make (P := Try.prog) (w := w) 33 23 i0 _ Try.underlying33 hi0 hi1 .i64 .i64 (n : Int) (m : Int) (by omega) (by omega) (by rw [hi3]; omega) (by omega)
  simpa [hi2, Value.cells] using h
set_option maxRecDepth 100000 in
set_option maxHeartbeats 4000000 in
theorem gives15 {p : Prs} {A : PrsA} {f : Fme} {a : Option Addr} {c : Nat} {w : World} (hP : IsPrs w p A) (hS : p.Small) (hf : IsInts w a f.slots) (hl : f.slots.length ≤ 1000) :
    Calls Try.prog 15 #[p.v A, f.v a c] w fun e w' => ∃ av cv, e = .returned (.tuple #[.slice av (givesE p f).1.length cv, .int .i64 (givesE p f).2]) ∧ IsSpns w' av (givesE p f).1 ∧ Below w.heap.size w w' := by
  have HX := Lib.hid (alloc3 w (p.arr A) (f.arr a c) #[.int .i64 0] 27 29 34)
  have HF := Lib.hid (And.intro (hP.mono (alloc3 w (p.arr A) (f.arr a c) #[.int .i64 0] 27 29 34).2.2.2) (hf.mono (alloc3 w (p.arr A) (f.arr a c) #[.int .i64 0] 27 29 34).2.2.2))
  have HS := Lib.hid hS
  clear hP hf hS
  refine calls_of_wp_x Try.func15 rfl ?_
  simp only [Try.ntmps15, List.size_toArray, List.length_cons, List.length_nil, Nat.reduceAdd, Nat.reduceSub, Array.replicate_succ, Array.replicate_zero, List.push_toArray, List.append_toArray, List.nil_append, List.cons_append]
  conv => arg 2; whnf
  refine wp_seq_hid ?_
  intro K0 HK0
  go_wp2_with fail
  refine HK0.out _ _ ?_
  clear HK0 K0
  revert HX HF
  generalize ((w.alloc (.cells (p.arr A) 27)).alloc (.cells (f.arr a c) 29)).alloc (.cells #[.int .i64 0] 34) = w1
  generalize hbe : w.heap.size + 2 = be
  generalize hbf : w.heap.size + 1 = bf
  generalize hbp : w.heap.size = bp
  intro HX HF
  have HBE : Hid (bp ≤ be) := by show bp ≤ be; omega
  clear hbe hbp hbf
  refine wp_seq_hid ?_
  intro K1 HK1
  go_wp2_with fail
  refine HK1.out _ _ ?_
  clear HK1 K1
  obtain ⟨m0, m1, m2, m3, m4, m5, m6, m7, m8, m9⟩ := prs_cells HX.out.1
  cases hv : p.valid with
  | false =>
    go_wp2_with fail
    refine (open_no HF.out.1 HS.out hv).mono ?_
    rintro e w2 ⟨rfl, hb⟩
    have HB := Lib.hid hb
    clear hb
    go_wp2_with fail
    have hq := (HB.out.block _ (heap_lt HX.out.2.2.1)).trans HX.out.2.2.1
    have hE : p.openE (fmeOk p f) = 1 := by unfold Prs.openE; rw [hv]; rfl
    have HE : givesE p f = ([], 1) := by unfold givesE; simp only; rw [hE]; rfl
    have hlt := heap_lt HX.out.1
    have hsz := HB.out.size
    refine door_no hq (res_t34 rfl _ rfl (by rw [cell_of_heap (caught_heap hq)]; rfl)) ⟨none, 0, by rw [HE]; rfl, by rw [HE]; exact fun i hi => by simp at hi, caught_below (HX.out.2.2.2.trans (HB.out.mono (by omega))) HBE.out (by omega)⟩
  | true =>
    have HV := Lib.hid hv
    refine wp_seq_hid ?_
    intro K2 HK2
    go_wp2_with fail
    refine (open_yes HF.out.1 HS.out hv).mono ?_
    rintro e w2 ⟨bq, rfl, hPR, hbq, hb⟩
    have HB := Lib.hid (And.intro hb (And.intro hPR (HF.out.2.mono hb)))
    clear hb hPR hbq hv m0 m1 m2 m3 m4 m5 m6 m7 m8 m9
    go_wp2_with fail
    refine HK2.out _ _ ?_
    clear HK2 K2
    obtain ⟨m0, m1, m2, m3, m4, m5, m6, m7, m8, m9⟩ := (prs_cells HX.out.1).mono HB.out.1
    have hqf := (HB.out.1.block _ (heap_lt HX.out.2.1)).trans HX.out.2.1
    have x0 : w2.cell? ⟨bf, 0, none⟩ = some (.slice a f.slots.length c) := by rw [cell_of_heap hqf]; rfl
    have x1 : w2.cell? ⟨bf, 1, none⟩ = some (.int .i64 f.times) := by rw [cell_of_heap hqf]; rfl
    clear hqf
    have C44 := isForme44 (p := p) (A := A) (c := c) HB.out.2.2 hl
    cases hok : fmeOk p f with
    | false =>
      rw [hok] at C44
      have H44 := Lib.hid C44
      clear C44
      go_wp2_with fail
      refine H44.out.mono ?_
      rintro e w3 ⟨rfl, hb3⟩
      have HB3 := Lib.hid (HB.out.1.trans (hb3.mono HB.out.1.size))
      clear hb3 m0 m1 m2 m3 m4 m5 m6 m7 m8 m9 x0 x1
      go_wp2_with fail
      refine (need_no _ _).mono ?_
      rintro e w4 ⟨rfl, rfl⟩
      go_wp2_with fail
      have hq := (HB3.out.block _ (heap_lt HX.out.2.2.1)).trans HX.out.2.2.1
      have hE : p.openE (fmeOk p f) = 2 := by unfold Prs.openE; rw [HV.out, hok]; rfl
      have HE : givesE p f = ([], 2) := by unfold givesE; simp only; rw [hE]; rfl
      have hlt := heap_lt HX.out.1
      have hsz := HB3.out.size
      refine door_no hq (res_t34 rfl _ rfl (by rw [cell_of_heap (caught_heap hq)]; rfl)) ⟨none, 0, by rw [HE]; rfl, by rw [HE]; exact fun i hi => by simp at hi, caught_below (HX.out.2.2.2.trans (HB3.out.mono (by omega))) HBE.out (by omega)⟩
    | true =>
      rw [hok] at C44
      have H44 := Lib.hid C44
      have HOK := Lib.hid hok
      clear C44 hok
      refine wp_seq_hid ?_
      intro K3 HK3
      go_wp2_with fail
      refine H44.out.mono ?_
      rintro e w3 ⟨rfl, hb3⟩
      have HB3 := Lib.hid (And.intro (HB.out.1.trans (hb3.mono HB.out.1.size)) (And.intro (HB.out.2.1.mono hb3) (HB.out.2.2.mono hb3)))
      clear hb3 m0 m1 m2 m3 m4 m5 m6 m7 m8 m9 x0 x1
      go_wp2_with fail
      refine (need_yes _ _).mono ?_
      rintro e w4 ⟨rfl, rfl⟩
      go_wp2_with fail
      refine HK3.out _ _ ?_
      clear HK3 K3
      have hw4 := (wanted_of HV.out).2
      have m6 := cell_stays HB3.out.1 (prs_cells HX.out.1).c6
      have hr := make33 (n := 0) (m := p.wanted.length) (by omega) (by omega) w3
      have hr' : (Instr.makeSlice 33 (.int .i64 0) (.int .i64 (p.wanted.length : Int))).run Try.prog w3 = .ok (.slice (some ⟨w3.heap.size, 0, none⟩) 0 p.wanted.length) (w3.alloc (.cells (madeCells #[.int .i64 0, .int .i64 0] (p.wanted.length * 2)) 23)) := hr
      have hb4 : Below w3.heap.size w3 (w3.alloc (.cells (madeCells #[.int .i64 0, .int .i64 0] (p.wanted.length * 2)) 23)) := (Below.refl _ _).alloc (Nat.le_refl _) _
      have ho4 : (w3.alloc (.cells (madeCells #[.int .i64 0, .int .i64 0] (p.wanted.length * 2)) 23)).ownsRow w3.heap.size 23 2 (.slice (some ⟨w3.heap.size, 0, none⟩) 0 p.wanted.length) 0 [] :=
        World.ownsRow_made (e := 23) (size := 2) w3 _ p.wanted.length (base := w3.heap.size) (Nat.le_refl _) (by simp [maxLen]; omega) (by simp [madeCells])
      have HO4 := Lib.hid (And.intro ho4 hb4)
      have m6' := cell_stays hb4 m6
      clear hr hb4 ho4
      refine wp_seq_hid ?_
      intro K4 HK4
      go_wp2_with fail
      refine HK4.out _ _ ?_
      clear HK4 K4 hr' m6
      revert HO4
      generalize (w3.alloc (.cells (madeCells #[.int .i64 0, .int .i64 0] (p.wanted.length * 2)) 23)) = v4 at m6'
      intro HO4
      refine wp_seq_hid ?_
      intro K5 HK5
      go_wp2_with fail
      clear m6'
      go_loopw [7, 22] (fun o i wr => ∃ (k : Nat) (v : Value), k ≤ p.wanted.length ∧ i = .int .i64 k ∧ o = v ∧ Hid (wr.ownsRow w3.heap.size 23 2 v (gvL p f k).length (spV (gvL p f k))) ∧ Hid (Below w3.heap.size w3 wr)) (fun _ i _ => p.wanted.length - (intOf i).toNat)
      case atStart => exact ⟨0, _, by omega, rfl, rfl, HO4.out.1, HO4.out.2⟩
      case round =>
        obtain ⟨k, v, hk, rfl, rfl, HO, HW⟩ := hrel
        by_cases hlt : k < p.wanted.length
        · have hq := ((HB3.out.1.trans (HW.out.mono HB3.out.1.size)).block _ (heap_lt HX.out.2.1)).trans HX.out.2.1
          have x0 : wr.cell? ⟨bf, 0, none⟩ = some (.slice a f.slots.length c) := by rw [cell_of_heap hq]; rfl
          have x1 : wr.cell? ⟨bf, 1, none⟩ = some (.int .i64 f.times) := by rw [cell_of_heap hq]; rfl
          clear hq
          have HC := Lib.hid (gives45 (p := p) (A := A) (c := c) (v := k) (HB3.out.2.1.mono HW.out) (spoil_of HV.out) (HB3.out.2.2.mono HW.out) (fmeR_of HOK.out hlt))
          go_wp2_with fail
          refine HC.out.mono ?_
          rintro e w5 ⟨rfl, hb⟩
          have hsz := HW.out.size
          obtain ⟨v', w', hr, hown, hbw, hge⟩ := append_spn (W := w3) (w := w5) (B := w3.heap.size) (HW.out.trans (hb.mono hsz)) (Nat.le_trans hsz hb.size) (by rw [gvL_len]; omega) (own_below HO.out hb) (p.gives f k)
          have HRUN := Lib.hid hr
          have HOWN : Hid (w'.ownsRow w3.heap.size 23 2 v' (gvL p f (k + 1)).length (spV (gvL p f (k + 1)))) := by rw [Hid, gvL_succ]; exact hown
          have HB5 := Lib.hid hbw
          clear hb hr hown hbw hge x0 x1 hsz
          go_wp2_with (at_builtin; refine wpList_append_run rfl (.tmp 25) (.tmp 30) 33 rfl _ _ _ _ rfl rfl HRUN.out ?_)
          go_wp2_with fail
          go_roundw
          case rel => exact ⟨k + 1, v', by omega, by go_num, rfl, HOWN.out, HB5.out⟩
          case measure => simp [intOf]; omega
        · have hke : k = p.wanted.length := by omega
          have hown := HO.out
          rw [hke] at hown
          obtain ⟨av, cv, rfl, _⟩ := own_slice hown
          have hown2 := ownsRow_setCell_other (a := ⟨be, 0, none⟩) hown (fun e => by
            have h1 : w3.heap.size ≤ be := (hown.lt _ e).1
            have h2 := heap_lt HX.out.2.2.1
            have h3 := HB3.out.1.size
            omega) (.int .i64 0)
          have HI := Lib.hid (own_spns hown2)
          have HKE := Lib.hid hke
          have hq := ((HB3.out.1.trans (HW.out.mono HB3.out.1.size)).block _ (heap_lt HX.out.2.2.1)).trans HX.out.2.2.1
          have HQ := Lib.hid hq
          have c0 : wr.cell? ⟨be, 0, none⟩ = some (.int .i64 0) := by rw [cell_of_heap hq]; rfl
          have f0 : wr.frozen? ⟨be, 0, none⟩ = false := frozen_of_heap hq
          clear hown hown2 hke hq
          go_wp2_with fail
          refine HK5.out _ _ ?_
          go_wp2_with fail
          have h5 := heap_setCell_at (k := 0) HQ.out (.int .i64 0)
          have hlx := heap_lt HX.out.1
          have hE : p.openE (fmeOk p f) = 0 := by unfold Prs.openE; rw [HV.out, HOK.out]; rfl
          have HE : givesE p f = (gvL p f p.wanted.length, 0) := by unfold givesE; simp only; rw [if_pos hE]; rfl
          refine door_ok (res_t34 rfl _ rfl (by rw [cell_of_heap h5]; rfl)) ⟨av, cv, by rw [HE]; rfl, ?_, ?_⟩
          · rw [HE]; exact HI.out
          · exact (HX.out.2.2.2.trans ((HB3.out.1.trans (HW.out.mono HB3.out.1.size)).mono (by omega))).setCell (p := ⟨be, _, none⟩) HBE.out _
end Go.Proofs.Ytjkhclijmcmdjaa
