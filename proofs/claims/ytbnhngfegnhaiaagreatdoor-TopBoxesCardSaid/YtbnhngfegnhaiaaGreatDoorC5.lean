/- What a card fits: the walk. Boxes with a heap that are opened: drawn regions. What holds while boxes with a heap are opened. Boxes with a heap are opened: the cards. Boxes with a heap are opened: the walk. What is known of ways: a map. -/
import Derived.Test.YtbnhngfegnhaiaaGreatDoorC4
namespace Go.Proofs.YtbnhngfegnhaiaaGreatDoor
open Go.RowKit
set_option linter.unusedVariables false
set_option linter.unusedSimpArgs false
theorem idx144_0 (a b c d : Value) (w : World) : (Instr.index 144 (.agg #[a, b, c, d]) (.int .i64 0)).run Tryz.prog w = .ok (.agg #[a, b]) w := by kernel_rfl
theorem idx144_1 (a b c d : Value) (w : World) : (Instr.index 144 (.agg #[a, b, c, d]) (.int .i64 1)).run Tryz.prog w = .ok (.agg #[c, d]) w := by kernel_rfl
set_option maxRecDepth 100000 in
set_option maxHeartbeats 16000000 in
theorem fit56 {b : Nat} {es : List En} {ae : Option Addr} {ce : Nat} {v0 v1 v3 v4 : Value} {t : Tn} {w : World} (hb : w.heap[b]? = some (.cells #[v0, v1, .slice ae es.length ce, v3, v4] 76 (0, 0))) (he : IsEns w ae es) (hn : es.length ≤ 12)
    (hes : ∀ i, i < es.length → (ge es i).number.size ≤ 1000 ∧ (ge es i).title.size ≤ 1000) (ht1 : t.number.size ≤ 1000) (ht2 : t.text.size ≤ 1000) :
    Calls Tryz.prog 56 #[.pointer (some ⟨b, 0, none⟩), .agg #[.int .i64 t.colour, .string t.number, .string t.text]] w fun e w' => e = .returned (.int .u64 (fitE es t : Int)) ∧ Below w.heap.size w w' := by
  obtain ⟨T1, y1, f1, hp1⟩ := piece_ok ht1
  obtain ⟨T2, y2, f2, hp2⟩ := piece_ok ht2
  have HP := Lib.hid (And.intro hp1 (And.intro hp2 (And.intro ht1 ht2)))
  have HES := Lib.hid hes
  have hab := alloc_below w (.cells #[.int .i64 t.colour, .string t.number, .string t.text] 58)
  have HX := Lib.hid (And.intro (World.alloc_heap_new w (.cells #[.int .i64 t.colour, .string t.number, .string t.text] 58)) (And.intro hab (And.intro ((hab.block _ (heap_lt hb)).trans hb) (he.mono hab))))
  clear hp1 hp2 ht1 ht2 hes hab hb he
  go_enter Tryz.func56, Tryz.ntmps56
  refine wp_seq_hid ?_
  intro K0 HK0
  go_wp2_with fail
  refine HK0.out _ _ ?_
  clear HK0 K0
  revert HX
  generalize w.alloc (.cells #[.int .i64 t.colour, .string t.number, .string t.text] 58) = w0
  generalize hb3 : w.heap.size = b3
  intro HX
  have HE := Lib.hid hb3
  have HL : Hid (Below w.heap.size w w0) := by rw [Hid, hb3]; exact HX.out.2.1
  clear hb3
  go_step3
  refine wp_seq_hid ?_
  intro K1 HK1
  have HC0 : Hid (∀ v, Below w0.heap.size w0 v → v.heap[b3]? = some (.cells #[.int .i64 t.colour, .string t.number, .string t.text] 58 (0, 0))) := fun v hv => (hv.block _ (heap_lt HX.out.1)).trans HX.out.1
  refine wpIn_wide.1 (fit1 (b3 := b3) (nm := t.number) (tx := t.text) (T1 := T1) (y1 := y1) (T2 := T2) (y2 := y2)
    (S0 := fun fs ms v => Below w0.heap.size w0 v ∧ (fs = true → v.heap[ms]? = some (.cells #[.nilIface, .nilFunc, .nilIface, .nilFunc] 144 (0, 0)) ∧ w0.heap.size ≤ ms))
    (S1 := fun fs ms _ v => Below w0.heap.size w0 v ∧ (fs = true → v.heap[ms]? = some (.cells #[.nilIface, .nilFunc, .nilIface, .nilFunc] 144 (0, 0)) ∧ w0.heap.size ≤ ms))
    (S2 := fun fs ms _ _ v => Below w0.heap.size w0 v ∧ (fs = true → v.heap[ms]? = some (.cells #[.nilIface, .nilFunc, .nilIface, .nilFunc] 144 (0, 0)) ∧ w0.heap.size ≤ ms))
    (S3 := fun fs ms _ _ v => Below w0.heap.size w0 v ∧ v.heap[ms]? = some (.cells #[.iface T1 y1, .func (.func 76) #[] #[], .iface T2 y2, .func (.func 77) #[] #[]] 144 (0, 0)))
    ?h0 ?l1 ?c2 ?l5 ?c6 ?s0 ?s1 ?s2 ?c10 ?hQ)
  case h0 => exact ⟨(Below.refl _ _).drew, fun h => by cases h⟩
  case l1 => exact fun fs ms v h => (cell_of_heap (HC0.out v h.1)).trans rfl
  case c2 =>
    exact fun fs ms v h => (piece75 t.number HP.out.2.2.1 v).mono (by
      rintro e v' ⟨he, hb⟩
      exact ⟨(), by rw [he, HP.out.1.v], h.1.trans (hb.mono h.1.size), fun hf => ⟨(hb.block _ (heap_lt (h.2 hf).1)).trans (h.2 hf).1, (h.2 hf).2⟩⟩)
  case l5 => exact fun fs ms u v h => (cell_of_heap (HC0.out v (by rcases h with h | h <;> exact h.1))).trans rfl
  case c6 =>
    exact fun fs ms u v h => (piece75 t.text HP.out.2.2.2 v).mono (by
      rintro e v' ⟨he, hb⟩
      exact ⟨(), by rw [he, HP.out.2.1.v], h.1.trans (hb.mono h.1.size), fun hf => ⟨(hb.block _ (heap_lt (h.2 hf).1)).trans (h.2 hf).1, (h.2 hf).2⟩⟩)
  case s0 => exact fun v h => ⟨h.1.alloc h.1.size _, fun _ => ⟨World.alloc_heap_new v _, h.1.size⟩⟩
  case s1 => exact fun u v h => ⟨h.1.alloc h.1.size _, fun _ => ⟨World.alloc_heap_new v _, h.1.size⟩⟩
  case s2 => exact fun u u' v h => ⟨h.1.alloc h.1.size _, fun _ => ⟨World.alloc_heap_new v _, h.1.size⟩⟩
  case c10 =>
    intro ms u u' v h
    obtain ⟨g, hms⟩ := h.2 rfl
    have ff : ∀ k, v.frozen? ⟨ms, k, none⟩ = false := fun k => frozen_of_heap g
    exact ⟨⟨_, (cell_of_heap g).trans rfl⟩, ff 0, ⟨_, (cell_of_heap g).trans rfl⟩, ff 1, ⟨_, (cell_of_heap g).trans rfl⟩, ff 2, ⟨_, (cell_of_heap g).trans rfl⟩, ff 3,
      (((h.1.setCell (p := ⟨ms, 0, none⟩) hms _).setCell (p := ⟨ms, 1, none⟩) hms _).setCell (p := ⟨ms, 2, none⟩) hms _).setCell (p := ⟨ms, 3, none⟩) hms _,
      (heap_setCell_at (k := 3) (heap_setCell_at (k := 2) (heap_setCell_at (k := 1) (heap_setCell_at (k := 0) g _) _) _) _).trans rfl⟩
  intro b5 _ _ w1 hS
  have HF : Hid (FitB b b3 b5 es ae ce v0 v1 v3 v4 t T1 y1 T2 y2 w1 ∧ Below w.heap.size w w1) := ⟨⟨(hS.1.block _ (heap_lt HX.out.2.2.1)).trans HX.out.2.2.1, HX.out.2.2.2.mono hS.1, HC0.out w1 hS.1, hS.2⟩, HL.out.trans (hS.1.mono HL.out.size)⟩
  clear hS HC0 HX HL w0
  refine HK1.out _ _ ?_
  clear HK1 K1
  refine wp_seq_hid ?_
  intro KL HKL
  go_step3
  refine HKL.out _ _ ?_
  clear HKL KL
  refine wp_seq_hid ?_
  intro K2 HK2
  have hpb : ∃ p, p = fun i => fitB t (ge es i) := ⟨_, rfl⟩
  obtain ⟨p, hp⟩ := hpb
  have HFE : Hid (fitE es t = bitsN p es.length) := by rw [Hid, hp]; rfl
  have HPP := Lib.hid hp
  clear hp
  have m2 : w1.cell? ⟨b, 2, none⟩ = some (.slice ae es.length ce) := by rw [cell_of_heap HF.out.1.h]; rfl
  go_wp2_with fail
  clear m2
  go_loopw [24, 4] (fun i z wr => ∃ k : Nat, k ≤ es.length ∧ i = .int .i64 (k : Int) ∧ z = .int .u64 (bitsN p k : Nat) ∧ Hid (FitB b b3 b5 es ae ce v0 v1 v3 v4 t T1 y1 T2 y2 wr ∧ Below w.heap.size w wr)) (fun i _ _ => es.length - (intOf i).toNat)
  case atStart => exact ⟨0, Nat.zero_le _, rfl, rfl, HF.out⟩
  case round =>
    obtain ⟨k, hk, rfl, rfl, HW⟩ := hrel
    rename World => wo
    by_cases hlt : k < es.length
    · obtain ⟨be, oe, rfl, c0, c1, c2⟩ := HW.out.1.en k hlt
      have HSZ := Lib.hid (HES.out k hlt)
      have hbs : bitsN p (k + 1) = bitsN p k ||| (if p k then 2 ^ k else 0) := rfl
      have hpk : p k = fitB t (ge es k) := by rw [HPP.out]
      revert c0 c1 c2 HSZ hpk
      generalize ge es k = x
      intro c0 c1 c2 HSZ hpk
      have HNO : Hid (((decide (t.colour = 0) || decide (t.colour = x.colour)) && suitsB t.number x.number && suitsB t.text x.title) = false → bitsN p (k + 1) = bitsN p k) := fun h => by
        rw [hbs, hpk, show fitB t x = false from h]
        simp
      have HYES : Hid (((decide (t.colour = 0) || decide (t.colour = x.colour)) && suitsB t.number x.number && suitsB t.text x.title) = true → bitsN p (k + 1) = bitsN p k ||| 2 ^ k) := fun h => by
        rw [hbs, hpk, show fitB t x = true from h]
        simp
      have HBL : Hid (bitsN p k < 2 ^ 62) := Nat.lt_trans (bitsN_lt p k) (two_ltH (by omega))
      have HTL := Lib.hid (two_ltH (f := k) (by omega))
      have HTW := Lib.hid (two_wrap_u (n := k) (by omega))
      clear hbs hpk
      revert HNO HYES HBL
      generalize bitsN p k = sb
      generalize hs2 : bitsN p (k + 1) = s2
      intro HNO HYES HBL
      have HS2 := Lib.hid hs2
      clear hs2
      have HA := Lib.hid (And.intro (World.alloc_heap_new wo (.cells x.arr 123)) (alloc_below wo (.cells x.arr 123)))
      go_upto_region 5 with fail
      clear c0 c1 c2
      revert HA
      generalize wo.alloc (.cells x.arr 123) = w1
      generalize hb7 : wo.heap.size = b7
      intro HA
      have HB7 : Hid (Below wo.heap.size wo w1) := by rw [Hid, hb7]; exact HA.out.2
      clear hb7
      have HW1 : Hid (FitB b b3 b5 es (some ⟨be, oe, none⟩) ce v0 v1 v3 v4 t T1 y1 T2 y2 w1 ∧ Below w.heap.size w w1) := ⟨HW.out.1.mono HB7.out, HW.out.2.trans (HB7.out.mono HW.out.2.size)⟩
      clear HB7
      obtain ⟨tc, htc⟩ : ∃ tc, tc = t.colour := ⟨_, rfl⟩
      obtain ⟨xc, hxc⟩ : ∃ xc, xc = x.colour := ⟨_, rfl⟩
      have m0 : w1.cell? ⟨b3, 0, none⟩ = some (.int .i64 tc) := by rw [cell_of_heap HW1.out.1.c, htc]; rfl
      have m1 : w1.cell? ⟨b7, 0, none⟩ = some (.int .i64 xc) := by rw [cell_of_heap HA.out.1, hxc]; rfl
      have hcol3 : t.colour = 0 ∨ (t.colour ≠ 0 ∧ t.colour = x.colour) ∨ (t.colour ≠ 0 ∧ t.colour ≠ x.colour) := by omega
      have HTX := Lib.hid (And.intro htc hxc)
      clear htc hxc
      rcases hcol3 with h | ⟨h1, h2⟩ | ⟨h1, h2⟩
      · have HCOL : Hid (t.colour = 0 ∨ t.colour = x.colour) := .inl h
        have d0 : (tc != 0) = false := by rw [HTX.out.1, h]; rfl
        clear h
        have m5 : w1.cell? ⟨b5, 0, none⟩ = some (.iface T1 y1) := by rw [cell_of_heap HW1.out.1.k]; rfl
        have m6 : w1.cell? ⟨b5, 1, none⟩ = some (.func (.func 76) #[] #[]) := by rw [cell_of_heap HW1.out.1.k]; rfl
        have m7 : w1.cell? ⟨b5, 2, none⟩ = some (.iface T2 y2) := by rw [cell_of_heap HW1.out.1.k]; rfl
        have m8 : w1.cell? ⟨b5, 3, none⟩ = some (.func (.func 77) #[] #[]) := by rw [cell_of_heap HW1.out.1.k]; rfl
        go_wp2_with fail
        clear m0 m1 m5 m6 m7 m8
        go_loopw [40] (fun j wr => ∃ q : Nat, q ≤ 2 ∧ j = .int .i64 (q : Int) ∧ Hid (Below w1.heap.size w1 wr ∧ (1 ≤ q → suitsB t.number x.number = true) ∧ (2 ≤ q → suitsB t.text x.title = true))) (fun j _ => 2 - (intOf j).toNat)
        case atStart => exact ⟨0, by omega, rfl, Below.refl _ _, fun h => by omega, fun h => by omega⟩
        case round =>
          obtain ⟨q, hq, rfl, HV⟩ := hrel
          have hq3 : q = 0 ∨ q = 1 ∨ q = 2 := by omega
          rcases hq3 with rfl | rfl | rfl
          · have hix := idx144_0 (.iface T1 y1) (.func (.func 76) #[] #[]) (.iface T2 y2) (.func (.func 77) #[] #[])
            have HA2 := Lib.hid (And.intro (World.alloc_heap_new wr (.cells #[.iface T1 y1, .func (.func 76) #[] #[]] 143)) (alloc_below wr (.cells #[.iface T1 y1, .func (.func 76) #[] #[]] 143)))
            go_upto_region 9 with fail
            clear hix
            revert HA2
            generalize wr.alloc (.cells #[.iface T1 y1, .func (.func 76) #[] #[]] 143) = w2
            generalize hb9 : wr.heap.size = b9
            intro HA2
            have HB9 : Hid (Below wr.heap.size wr w2) := by rw [Hid, hb9]; exact HA2.out.2
            clear hb9
            have HB2 : Hid (Below w1.heap.size w1 w2) := HV.out.1.trans (HB9.out.mono HV.out.1.size)
            have hst : ∀ v : World, Below w2.heap.size w2 v → v.heap[b9]? = some (.cells #[.iface T1 y1, .func (.func 76) #[] #[]] 143 (0, 0)) ∧ v.heap[b7]? = some (.cells x.arr 123 (0, 0)) := fun v hv => ⟨(hv.block _ (heap_lt HA2.out.1)).trans HA2.out.1, ((HB2.out.trans (hv.mono HB2.out.size)).block _ (heap_lt HA.out.1)).trans HA.out.1⟩
            have HST := Lib.hid hst
            clear hst
            obtain ⟨bb, hbb⟩ : ∃ bb, suitsB t.number x.number = bb := ⟨_, rfl⟩
            refine wpIn_wide.1 (fit9 (b7 := b7) (b9 := b9) (T := T1) (fn := f1) (gf := 76) (x := y1) (col := x.colour) (n1 := x.number) (t1 := x.title) (st := x.number) (bb := bb) (nb := !bb)
              (P0 := fun v => Below w2.heap.size w2 v) (P1 := fun v => Below w2.heap.size w2 v) (P2 := fun v => Below w2.heap.size w2 v) cf76 HP.out.1.meth HP.out.1.cf rfl ?h00 ?l10 ?l30 ?l40 ?c50 ?c80 ?hQ0)
            case h00 => exact (Below.refl _ _).drew
            case l10 => exact fun v h => (cell_of_heap (HST.out v (by rcases h with h | h | h <;> exact h)).1).trans rfl
            case l30 => exact fun v h => (cell_of_heap (HST.out v (by rcases h with h | h | h <;> exact h)).1).trans rfl
            case l40 => exact fun v h => ⟨(cell_of_heap (HST.out v (by rcases h with h | h | h <;> exact h)).2).trans rfl, (cell_of_heap (HST.out v (by rcases h with h | h | h <;> exact h)).2).trans rfl, (cell_of_heap (HST.out v (by rcases h with h | h | h <;> exact h)).2).trans rfl⟩
            case c50 => exact fun v h => (fld76 x v).mono (by rintro e v' ⟨he, hb⟩; exact ⟨he, h.trans (hb.mono h.size)⟩)
            case c80 => exact fun v h => (HP.out.1.call x.number v (by exact HSZ.out.1)).mono (by rintro e v' ⟨he, hb⟩; exact ⟨by rw [he, hbb], h.trans (hb.mono h.size)⟩)
            intro w3 hb3
            have HB3 : Hid (Below w1.heap.size w1 w3) := HB2.out.trans (hb3.mono HB2.out.size)
            have HBB := Lib.hid hbb
            clear hb3 hbb HST HB2 HB9 HA2
            rename_i K9 hK9
            refine hK9 _ _ ?_
            clear hK9 K9
            cases bb
            · go_wp2_with fail
              go_roundw
              case rel => exact ⟨k + 1, by omega, by go_num, by rw [HS2.out, HNO.out (by rw [HBB.out]; simp)], HW1.out.1.mono HB3.out, HW1.out.2.trans (HB3.out.mono HW1.out.2.size)⟩
              case measure => simp [intOf]; omega
            · go_wp2_with fail
              go_roundw
              case rel => exact ⟨1, by omega, by go_num, HB3.out, fun _ => HBB.out, fun h => by omega⟩
              case measure => simp [intOf]
          · have hix := idx144_1 (.iface T1 y1) (.func (.func 76) #[] #[]) (.iface T2 y2) (.func (.func 77) #[] #[])
            have HA2 := Lib.hid (And.intro (World.alloc_heap_new wr (.cells #[.iface T2 y2, .func (.func 77) #[] #[]] 143)) (alloc_below wr (.cells #[.iface T2 y2, .func (.func 77) #[] #[]] 143)))
            go_upto_region 9 with fail
            clear hix
            revert HA2
            generalize wr.alloc (.cells #[.iface T2 y2, .func (.func 77) #[] #[]] 143) = w2
            generalize hb9 : wr.heap.size = b9
            intro HA2
            have HB9 : Hid (Below wr.heap.size wr w2) := by rw [Hid, hb9]; exact HA2.out.2
            clear hb9
            have HB2 : Hid (Below w1.heap.size w1 w2) := HV.out.1.trans (HB9.out.mono HV.out.1.size)
            have hst : ∀ v : World, Below w2.heap.size w2 v → v.heap[b9]? = some (.cells #[.iface T2 y2, .func (.func 77) #[] #[]] 143 (0, 0)) ∧ v.heap[b7]? = some (.cells x.arr 123 (0, 0)) := fun v hv => ⟨(hv.block _ (heap_lt HA2.out.1)).trans HA2.out.1, ((HB2.out.trans (hv.mono HB2.out.size)).block _ (heap_lt HA.out.1)).trans HA.out.1⟩
            have HST := Lib.hid hst
            clear hst
            obtain ⟨bb, hbb⟩ : ∃ bb, suitsB t.text x.title = bb := ⟨_, rfl⟩
            refine wpIn_wide.1 (fit9 (b7 := b7) (b9 := b9) (T := T2) (fn := f2) (gf := 77) (x := y2) (col := x.colour) (n1 := x.number) (t1 := x.title) (st := x.title) (bb := bb) (nb := !bb)
              (P0 := fun v => Below w2.heap.size w2 v) (P1 := fun v => Below w2.heap.size w2 v) (P2 := fun v => Below w2.heap.size w2 v) cf77 HP.out.2.1.meth HP.out.2.1.cf rfl ?h01 ?l11 ?l31 ?l41 ?c51 ?c81 ?hQ1)
            case h01 => exact (Below.refl _ _).drew
            case l11 => exact fun v h => (cell_of_heap (HST.out v (by rcases h with h | h | h <;> exact h)).1).trans rfl
            case l31 => exact fun v h => (cell_of_heap (HST.out v (by rcases h with h | h | h <;> exact h)).1).trans rfl
            case l41 => exact fun v h => ⟨(cell_of_heap (HST.out v (by rcases h with h | h | h <;> exact h)).2).trans rfl, (cell_of_heap (HST.out v (by rcases h with h | h | h <;> exact h)).2).trans rfl, (cell_of_heap (HST.out v (by rcases h with h | h | h <;> exact h)).2).trans rfl⟩
            case c51 => exact fun v h => (fld77 x v).mono (by rintro e v' ⟨he, hb⟩; exact ⟨he, h.trans (hb.mono h.size)⟩)
            case c81 => exact fun v h => (HP.out.2.1.call x.title v (by exact HSZ.out.2)).mono (by rintro e v' ⟨he, hb⟩; exact ⟨by rw [he, hbb], h.trans (hb.mono h.size)⟩)
            intro w3 hb3
            have HB3 : Hid (Below w1.heap.size w1 w3) := HB2.out.trans (hb3.mono HB2.out.size)
            have HBB := Lib.hid hbb
            clear hb3 hbb HST HB2 HB9 HA2
            rename_i K9 hK9
            refine hK9 _ _ ?_
            clear hK9 K9
            cases bb
            · go_wp2_with fail
              go_roundw
              case rel => exact ⟨k + 1, by omega, by go_num, by rw [HS2.out, HNO.out (by rw [HBB.out, Bool.and_false])], HW1.out.1.mono HB3.out, HW1.out.2.trans (HB3.out.mono HW1.out.2.size)⟩
              case measure => simp [intOf]; omega
            · go_wp2_with fail
              go_roundw
              case rel => exact ⟨2, by omega, by go_num, HB3.out, fun _ => HV.out.2.1 (by omega), fun _ => HBB.out⟩
              case measure => simp [intOf]
          · have htw := HTW.out
            have HSS := Lib.hid (And.intro (HV.out.2.1 (by omega)) (HV.out.2.2 (by omega)))
            have HYS : Hid (s2 = sb ||| 2 ^ k) := HYES.out (by rw [HSS.out.1, HSS.out.2]; simp; exact HCOL.out)
            have HTL2 := Lib.hid HTL.out
            revert htw HYS HTL2
            generalize (2 : Nat) ^ k = tw
            intro htw HYS HTL2
            have HQ := Lib.hid (And.intro (World.alloc_heap_new wr (.cells #[.int .u64 sb, .int .u64 tw] 71)) (alloc_below wr (.cells #[.int .u64 sb, .int .u64 tw] 71)))
            have k9 : (k : Int) < 12 := by omega
            go_wp2_with fail
            refine (union25 HBL.out HTL2.out HQ.out.1).mono ?_
            rintro e w5 ⟨rfl, rfl⟩
            have HB5 := Lib.hid (HV.out.1.trans (HQ.out.2.mono HV.out.1.size))
            clear htw k9
            go_wp2_with fail
            go_roundw
            case rel => exact ⟨k + 1, by omega, by go_num, by rw [HS2.out, HYS.out], HW1.out.1.mono HB5.out, HW1.out.2.trans (HB5.out.mono HW1.out.2.size)⟩
            case measure => simp [intOf]; omega
      · have HCOL : Hid (t.colour = 0 ∨ t.colour = x.colour) := .inr h2
        have d0 : (tc != 0) = true := by rw [HTX.out.1]; simp [h1]
        have d1 : (tc != xc) = false := by rw [HTX.out.1, HTX.out.2]; simp [h2]
        clear h1 h2
        have m5 : w1.cell? ⟨b5, 0, none⟩ = some (.iface T1 y1) := by rw [cell_of_heap HW1.out.1.k]; rfl
        have m6 : w1.cell? ⟨b5, 1, none⟩ = some (.func (.func 76) #[] #[]) := by rw [cell_of_heap HW1.out.1.k]; rfl
        have m7 : w1.cell? ⟨b5, 2, none⟩ = some (.iface T2 y2) := by rw [cell_of_heap HW1.out.1.k]; rfl
        have m8 : w1.cell? ⟨b5, 3, none⟩ = some (.func (.func 77) #[] #[]) := by rw [cell_of_heap HW1.out.1.k]; rfl
        go_wp2_with fail
        clear m0 m1 m5 m6 m7 m8
        go_loopw [40] (fun j wr => ∃ q : Nat, q ≤ 2 ∧ j = .int .i64 (q : Int) ∧ Hid (Below w1.heap.size w1 wr ∧ (1 ≤ q → suitsB t.number x.number = true) ∧ (2 ≤ q → suitsB t.text x.title = true))) (fun j _ => 2 - (intOf j).toNat)
        case atStart => exact ⟨0, by omega, rfl, Below.refl _ _, fun h => by omega, fun h => by omega⟩
        case round =>
          obtain ⟨q, hq, rfl, HV⟩ := hrel
          have hq3 : q = 0 ∨ q = 1 ∨ q = 2 := by omega
          rcases hq3 with rfl | rfl | rfl
          · have hix := idx144_0 (.iface T1 y1) (.func (.func 76) #[] #[]) (.iface T2 y2) (.func (.func 77) #[] #[])
            have HA2 := Lib.hid (And.intro (World.alloc_heap_new wr (.cells #[.iface T1 y1, .func (.func 76) #[] #[]] 143)) (alloc_below wr (.cells #[.iface T1 y1, .func (.func 76) #[] #[]] 143)))
            go_upto_region 9 with fail
            clear hix
            revert HA2
            generalize wr.alloc (.cells #[.iface T1 y1, .func (.func 76) #[] #[]] 143) = w2
            generalize hb9 : wr.heap.size = b9
            intro HA2
            have HB9 : Hid (Below wr.heap.size wr w2) := by rw [Hid, hb9]; exact HA2.out.2
            clear hb9
            have HB2 : Hid (Below w1.heap.size w1 w2) := HV.out.1.trans (HB9.out.mono HV.out.1.size)
            have hst : ∀ v : World, Below w2.heap.size w2 v → v.heap[b9]? = some (.cells #[.iface T1 y1, .func (.func 76) #[] #[]] 143 (0, 0)) ∧ v.heap[b7]? = some (.cells x.arr 123 (0, 0)) := fun v hv => ⟨(hv.block _ (heap_lt HA2.out.1)).trans HA2.out.1, ((HB2.out.trans (hv.mono HB2.out.size)).block _ (heap_lt HA.out.1)).trans HA.out.1⟩
            have HST := Lib.hid hst
            clear hst
            obtain ⟨bb, hbb⟩ : ∃ bb, suitsB t.number x.number = bb := ⟨_, rfl⟩
            refine wpIn_wide.1 (fit9 (b7 := b7) (b9 := b9) (T := T1) (fn := f1) (gf := 76) (x := y1) (col := x.colour) (n1 := x.number) (t1 := x.title) (st := x.number) (bb := bb) (nb := !bb)
              (P0 := fun v => Below w2.heap.size w2 v) (P1 := fun v => Below w2.heap.size w2 v) (P2 := fun v => Below w2.heap.size w2 v) cf76 HP.out.1.meth HP.out.1.cf rfl ?h00b ?l10b ?l30b ?l40b ?c50b ?c80b ?hQ0b)
            case h00b => exact (Below.refl _ _).drew
            case l10b => exact fun v h => (cell_of_heap (HST.out v (by rcases h with h | h | h <;> exact h)).1).trans rfl
            case l30b => exact fun v h => (cell_of_heap (HST.out v (by rcases h with h | h | h <;> exact h)).1).trans rfl
            case l40b => exact fun v h => ⟨(cell_of_heap (HST.out v (by rcases h with h | h | h <;> exact h)).2).trans rfl, (cell_of_heap (HST.out v (by rcases h with h | h | h <;> exact h)).2).trans rfl, (cell_of_heap (HST.out v (by rcases h with h | h | h <;> exact h)).2).trans rfl⟩
            case c50b => exact fun v h => (fld76 x v).mono (by rintro e v' ⟨he, hb⟩; exact ⟨he, h.trans (hb.mono h.size)⟩)
            case c80b => exact fun v h => (HP.out.1.call x.number v (by exact HSZ.out.1)).mono (by rintro e v' ⟨he, hb⟩; exact ⟨by rw [he, hbb], h.trans (hb.mono h.size)⟩)
            intro w3 hb3
            have HB3 : Hid (Below w1.heap.size w1 w3) := HB2.out.trans (hb3.mono HB2.out.size)
            have HBB := Lib.hid hbb
            clear hb3 hbb HST HB2 HB9 HA2
            rename_i K9 hK9
            refine hK9 _ _ ?_
            clear hK9 K9
            cases bb
            · go_wp2_with fail
              go_roundw
              case rel => exact ⟨k + 1, by omega, by go_num, by rw [HS2.out, HNO.out (by rw [HBB.out]; simp)], HW1.out.1.mono HB3.out, HW1.out.2.trans (HB3.out.mono HW1.out.2.size)⟩
              case measure => simp [intOf]; omega
            · go_wp2_with fail
              go_roundw
              case rel => exact ⟨1, by omega, by go_num, HB3.out, fun _ => HBB.out, fun h => by omega⟩
              case measure => simp [intOf]
          · have hix := idx144_1 (.iface T1 y1) (.func (.func 76) #[] #[]) (.iface T2 y2) (.func (.func 77) #[] #[])
            have HA2 := Lib.hid (And.intro (World.alloc_heap_new wr (.cells #[.iface T2 y2, .func (.func 77) #[] #[]] 143)) (alloc_below wr (.cells #[.iface T2 y2, .func (.func 77) #[] #[]] 143)))
            go_upto_region 9 with fail
            clear hix
            revert HA2
            generalize wr.alloc (.cells #[.iface T2 y2, .func (.func 77) #[] #[]] 143) = w2
            generalize hb9 : wr.heap.size = b9
            intro HA2
            have HB9 : Hid (Below wr.heap.size wr w2) := by rw [Hid, hb9]; exact HA2.out.2
            clear hb9
            have HB2 : Hid (Below w1.heap.size w1 w2) := HV.out.1.trans (HB9.out.mono HV.out.1.size)
            have hst : ∀ v : World, Below w2.heap.size w2 v → v.heap[b9]? = some (.cells #[.iface T2 y2, .func (.func 77) #[] #[]] 143 (0, 0)) ∧ v.heap[b7]? = some (.cells x.arr 123 (0, 0)) := fun v hv => ⟨(hv.block _ (heap_lt HA2.out.1)).trans HA2.out.1, ((HB2.out.trans (hv.mono HB2.out.size)).block _ (heap_lt HA.out.1)).trans HA.out.1⟩
            have HST := Lib.hid hst
            clear hst
            obtain ⟨bb, hbb⟩ : ∃ bb, suitsB t.text x.title = bb := ⟨_, rfl⟩
            refine wpIn_wide.1 (fit9 (b7 := b7) (b9 := b9) (T := T2) (fn := f2) (gf := 77) (x := y2) (col := x.colour) (n1 := x.number) (t1 := x.title) (st := x.title) (bb := bb) (nb := !bb)
              (P0 := fun v => Below w2.heap.size w2 v) (P1 := fun v => Below w2.heap.size w2 v) (P2 := fun v => Below w2.heap.size w2 v) cf77 HP.out.2.1.meth HP.out.2.1.cf rfl ?h01b ?l11b ?l31b ?l41b ?c51b ?c81b ?hQ1b)
            case h01b => exact (Below.refl _ _).drew
            case l11b => exact fun v h => (cell_of_heap (HST.out v (by rcases h with h | h | h <;> exact h)).1).trans rfl
            case l31b => exact fun v h => (cell_of_heap (HST.out v (by rcases h with h | h | h <;> exact h)).1).trans rfl
            case l41b => exact fun v h => ⟨(cell_of_heap (HST.out v (by rcases h with h | h | h <;> exact h)).2).trans rfl, (cell_of_heap (HST.out v (by rcases h with h | h | h <;> exact h)).2).trans rfl, (cell_of_heap (HST.out v (by rcases h with h | h | h <;> exact h)).2).trans rfl⟩
            case c51b => exact fun v h => (fld77 x v).mono (by rintro e v' ⟨he, hb⟩; exact ⟨he, h.trans (hb.mono h.size)⟩)
            case c81b => exact fun v h => (HP.out.2.1.call x.title v (by exact HSZ.out.2)).mono (by rintro e v' ⟨he, hb⟩; exact ⟨by rw [he, hbb], h.trans (hb.mono h.size)⟩)
            intro w3 hb3
            have HB3 : Hid (Below w1.heap.size w1 w3) := HB2.out.trans (hb3.mono HB2.out.size)
            have HBB := Lib.hid hbb
            clear hb3 hbb HST HB2 HB9 HA2
            rename_i K9 hK9
            refine hK9 _ _ ?_
            clear hK9 K9
            cases bb
            · go_wp2_with fail
              go_roundw
              case rel => exact ⟨k + 1, by omega, by go_num, by rw [HS2.out, HNO.out (by rw [HBB.out, Bool.and_false])], HW1.out.1.mono HB3.out, HW1.out.2.trans (HB3.out.mono HW1.out.2.size)⟩
              case measure => simp [intOf]; omega
            · go_wp2_with fail
              go_roundw
              case rel => exact ⟨2, by omega, by go_num, HB3.out, fun _ => HV.out.2.1 (by omega), fun _ => HBB.out⟩
              case measure => simp [intOf]
          · have htw := HTW.out
            have HSS := Lib.hid (And.intro (HV.out.2.1 (by omega)) (HV.out.2.2 (by omega)))
            have HYS : Hid (s2 = sb ||| 2 ^ k) := HYES.out (by rw [HSS.out.1, HSS.out.2]; simp; exact HCOL.out)
            have HTL2 := Lib.hid HTL.out
            revert htw HYS HTL2
            generalize (2 : Nat) ^ k = tw
            intro htw HYS HTL2
            have HQ := Lib.hid (And.intro (World.alloc_heap_new wr (.cells #[.int .u64 sb, .int .u64 tw] 71)) (alloc_below wr (.cells #[.int .u64 sb, .int .u64 tw] 71)))
            have k9 : (k : Int) < 12 := by omega
            go_wp2_with fail
            refine (union25 HBL.out HTL2.out HQ.out.1).mono ?_
            rintro e w5 ⟨rfl, rfl⟩
            have HB5 := Lib.hid (HV.out.1.trans (HQ.out.2.mono HV.out.1.size))
            clear htw k9
            go_wp2_with fail
            go_roundw
            case rel => exact ⟨k + 1, by omega, by go_num, by rw [HS2.out, HYS.out], HW1.out.1.mono HB5.out, HW1.out.2.trans (HB5.out.mono HW1.out.2.size)⟩
            case measure => simp [intOf]; omega
      · have HSE : Hid (s2 = sb) := HNO.out (by rw [decide_eq_false h1, decide_eq_false h2]; rfl)
        have d0 : (tc != 0) = true := by rw [HTX.out.1]; simp [h1]
        have d1 : (tc != xc) = true := by rw [HTX.out.1, HTX.out.2]; simp [h2]
        clear h1 h2
        go_wp2_with fail
        clear m0 m1
        go_roundw
        case rel => exact ⟨k + 1, by omega, by go_num, by rw [HS2.out, HSE.out], HW1.out⟩
        case measure => simp [intOf]; omega
    · obtain rfl : k = es.length := by omega
      go_wp2_with fail
      refine HK2.out _ _ ?_
      go_wp2_with fail
      simp only [Exit.noGoto]
      go_ret
      exact ⟨by rw [HFE.out]; rfl, by rw [← HE.out]; exact HW.out.2⟩
end Go.Proofs.YtbnhngfegnhaiaaGreatDoor
namespace Go.Proofs.YtbnhngfegnhaiaaGreatDoor
open Go.RowKit
set_option linter.unusedVariables false
set_option linter.unusedSimpArgs false
noncomputable def opn10C : Code := (Tryz.f36.body.bind (regionAt 10)).getD .skip
set_option maxRecDepth 100000 in
set_option maxHeartbeats 8000000 in
theorem opn10 {hb b6 k k1 n cw cw1 N : Nat} {g g1 : Option Addr} {col : Int} {sn st : ByteArray} {P0 P1 P2 P3 : World → Prop} {Q : Exit → Act → World → Prop} {W1 : World} (hk : IntKind.i64.wrap ((k : Int) + 1) = (k1 : Int)) (h0 : P0 W1.drew)
    (kl4 : Hid (∀ w : World, (P0 w ∨ P1 w) → w.cell? ⟨hb, 2, none⟩ = some (.slice g n cw)))
    (kl6 : Hid (∀ w : World, (P0 w ∨ P1 w ∨ P2 w ∨ P3 w) → w.cell? ⟨b6, 0, none⟩ = some (.int .i64 (col))))
    (kc9 : Hid (∀ w : World, (P0 w ∨ P1 w ∨ P2 w ∨ P3 w) → Calls Tryz.prog 55 #[.int .i64 ((k1 : Int))] w fun e w' => e = .returned (.string sn) ∧ w = w'))
    (ka12 : Hid (∀ w : World, P0 w → w.heap.size = N ∧ P1 (w.alloc (.cells #[.int .i64 (col), .string sn, .string st] 123))))
    (kr13 : Hid (∀ w : World, P1 w → ∃ w', (Builtin.append_ #[72, 72] 72 #[.slice g n cw, .slice (some ⟨N, 0, none⟩) 1 1]).run Tryz.prog w = .ok (.slice g1 (n + 1) cw1) w' ∧ P2 w'))
    (ks16 : Hid (∀ w : World, P2 w → (∃ u, w.cell? ⟨hb, 2, none⟩ = some u) ∧ w.frozen? ⟨hb, 2, none⟩ = false ∧ P3 (w.setCell ⟨hb, 2, none⟩ (.slice g1 (n + 1) cw1))))
    {s0 s1 s2 s3 s5 s9 s10 s11 s12 s13 s14 s15 s16 s17 s18 s19 s20 s21 s22 s23 s24 s25 s26 s27 s28 s29 s30 s31 s32 s33 s34 s35 s36 s37 s38 s39 s40 s41 s42 s43 s44 s45 s46 s47 s48 s49 s50 s51 s52 s53 s54 s55 s56 s57 s58 s59 s60 s61 s62 s63 s64 s65 s66 s67 s68 s69 s70 s71 : Value} {dd : List Deferred}
    (hQ : ∀ w' : World, P3 w' → Q .normal { tmps := List.toArray (s0 :: s1 :: s2 :: s3 :: .pointer (some ⟨hb, 0, none⟩) :: s5 :: .pointer (some ⟨b6, 0, none⟩) :: .int .i64 ((k : Int)) :: .string st :: s9 :: s10 :: s11 :: s12 :: s13 :: s14 :: s15 :: s16 :: s17 :: s18 :: s19 :: s20 :: s21 :: s22 :: s23 :: s24 :: s25 :: s26 :: s27 :: s28 :: s29 :: s30 :: s31 :: s32 :: .pointer (some ⟨hb, 0, none⟩) :: .pointer (some ⟨hb, 0, none⟩) :: .pointer (some ⟨hb, 0, none⟩) :: .pointer (some ⟨hb, 2, none⟩) :: .slice g n cw :: .pointer (some ⟨b6, 0, none⟩) :: .int .i64 (col) :: .int .i64 ((k : Int)) :: .int .i64 ((k1 : Int)) :: .string sn :: .string st :: .agg #[.int .i64 (col), .string sn, .string st] :: .slice (some ⟨N, 0, none⟩) 1 1 :: .slice g1 (n + 1) cw1 :: .pointer (some ⟨hb, 0, none⟩) :: .pointer (some ⟨hb, 2, none⟩) :: s49 :: s50 :: s51 :: s52 :: s53 :: s54 :: s55 :: s56 :: s57 :: s58 :: s59 :: s60 :: s61 :: s62 :: s63 :: s64 :: s65 :: s66 :: s67 :: s68 :: s69 :: s70 :: s71 :: []),defers := dd } w') :
    Code.wpIn (wideAt none) 0 Tryz.prog opn10C Q { tmps := List.toArray (s0 :: s1 :: s2 :: s3 :: .pointer (some ⟨hb, 0, none⟩) :: s5 :: .pointer (some ⟨b6, 0, none⟩) :: .int .i64 ((k : Int)) :: .string st :: s9 :: s10 :: s11 :: s12 :: s13 :: s14 :: s15 :: s16 :: s17 :: s18 :: s19 :: s20 :: s21 :: s22 :: s23 :: s24 :: s25 :: s26 :: s27 :: s28 :: s29 :: s30 :: s31 :: s32 :: s33 :: s34 :: s35 :: s36 :: s37 :: s38 :: s39 :: s40 :: s41 :: s42 :: s43 :: s44 :: s45 :: s46 :: s47 :: s48 :: s49 :: s50 :: s51 :: s52 :: s53 :: s54 :: s55 :: s56 :: s57 :: s58 :: s59 :: s60 :: s61 :: s62 :: s63 :: s64 :: s65 :: s66 :: s67 :: s68 :: s69 :: s70 :: s71 :: []),defers := dd } W1 := by
  have HQ := Lib.hid hQ
  clear hQ
  conv => arg 4; whnf
  refine wpIn_region_invG mixed (by kernel_rfl) (fun d_ a_ w' => a_ = { tmps := List.toArray (s0 :: s1 :: s2 :: s3 :: .pointer (some ⟨hb, 0, none⟩) :: s5 :: .pointer (some ⟨b6, 0, none⟩) :: .int .i64 ((k : Int)) :: .string st :: s9 :: s10 :: s11 :: s12 :: s13 :: s14 :: s15 :: s16 :: s17 :: s18 :: s19 :: s20 :: s21 :: s22 :: s23 :: s24 :: s25 :: s26 :: s27 :: s28 :: s29 :: s30 :: s31 :: s32 :: pk (d_ 0) (.pointer (some ⟨hb, 0, none⟩)) s33 :: pk (d_ 1) (.pointer (some ⟨hb, 0, none⟩)) s34 :: pk (d_ 2) (.pointer (some ⟨hb, 0, none⟩)) s35 :: pk (d_ 3) (.pointer (some ⟨hb, 2, none⟩)) s36 :: pk (d_ 4) (.slice g n cw) s37 :: pk (d_ 5) (.pointer (some ⟨b6, 0, none⟩)) s38 :: pk (d_ 6) (.int .i64 (col)) s39 :: pk (d_ 7) (.int .i64 ((k : Int))) s40 :: pk (d_ 8) (.int .i64 ((k1 : Int))) s41 :: pk (d_ 9) (.string sn) s42 :: pk (d_ 10) (.string st) s43 :: pk (d_ 11) (.agg #[.int .i64 (col), .string sn, .string st]) s44 :: pk (d_ 12) (.slice (some ⟨N, 0, none⟩) 1 1) s45 :: pk (d_ 13) (.slice g1 (n + 1) cw1) s46 :: pk (d_ 14) (.pointer (some ⟨hb, 0, none⟩)) s47 :: pk (d_ 15) (.pointer (some ⟨hb, 2, none⟩)) s48 :: s49 :: s50 :: s51 :: s52 :: s53 :: s54 :: s55 :: s56 :: s57 :: s58 :: s59 :: s60 :: s61 :: s62 :: s63 :: s64 :: s65 :: s66 :: s67 :: s68 :: s69 :: s70 :: s71 :: []),defers := dd } ∧ ch3 P0 P1 P2 P3 (d_ 12) (d_ 13) (d_ 16) w' ∧ OrdP [[], [], [1], [2], [3], [], [5], [], [7], [8], [], [6, 9, 10], [11], [4, 9, 12], [0, 1, 2, 3, 4, 5, 6, 7, 8, 9, 10, 11, 12, 13], [0, 1, 2, 3, 4, 5, 6, 7, 8, 9, 10, 11, 12, 13, 14], [0, 1, 2, 3, 4, 5, 6, 7, 8, 9, 10, 11, 12, 13, 15]] d_) ?_ ?_ ?_
  · exact ⟨rfl, h0, fun k h => by cases h⟩
  · refine ⟨?_,?_,?_,?_,?_,?_,?_,?_,?_,?_,?_,?_,?_,?_,?_,?_,?_, trivial⟩
    all_goals
      rintro d_ a_ w1 K hd_ hdep ⟨rfl, F, O⟩ HK
      simp [Region.binds] at hdep
    · have HO : Hid (OrdP [[], [], [1], [2], [3], [], [5], [], [7], [8], [], [6, 9, 10], [11], [4, 9, 12], [0, 1, 2, 3, 4, 5, 6, 7, 8, 9, 10, 11, 12, 13], [0, 1, 2, 3, 4, 5, 6, 7, 8, 9, 10, 11, 12, 13, 14], [0, 1, 2, 3, 4, 5, 6, 7, 8, 9, 10, 11, 12, 13, 15]] (upd d_ 0)) := O.step (show ∀ e ∈ ([] : List Nat), d_ e = true by simp [hdep])
      clear O
      have HF := Lib.hid F
      clear F hdep
      go_simp
      refine HK.out _ _ ⟨?_, HF.out, HO.out⟩
      all_goals rfl
    · have HO : Hid (OrdP [[], [], [1], [2], [3], [], [5], [], [7], [8], [], [6, 9, 10], [11], [4, 9, 12], [0, 1, 2, 3, 4, 5, 6, 7, 8, 9, 10, 11, 12, 13], [0, 1, 2, 3, 4, 5, 6, 7, 8, 9, 10, 11, 12, 13, 14], [0, 1, 2, 3, 4, 5, 6, 7, 8, 9, 10, 11, 12, 13, 15]] (upd d_ 1)) := O.step (show ∀ e ∈ ([] : List Nat), d_ e = true by simp [hdep])
      clear O
      have HF := Lib.hid F
      clear F hdep
      go_simp
      refine HK.out _ _ ⟨?_, HF.out, HO.out⟩
      all_goals rfl
    · have HO : Hid (OrdP [[], [], [1], [2], [3], [], [5], [], [7], [8], [], [6, 9, 10], [11], [4, 9, 12], [0, 1, 2, 3, 4, 5, 6, 7, 8, 9, 10, 11, 12, 13], [0, 1, 2, 3, 4, 5, 6, 7, 8, 9, 10, 11, 12, 13, 14], [0, 1, 2, 3, 4, 5, 6, 7, 8, 9, 10, 11, 12, 13, 15]] (upd d_ 2)) := O.step (show ∀ e ∈ ([1] : List Nat), d_ e = true by simp [hdep])
      have q1 : d_ 1 = true := by simp [hdep]
      clear O
      rw [pk_of q1]
      have HF := Lib.hid F
      clear F hdep
      go_simp
      refine HK.out _ _ ⟨?_, HF.out, HO.out⟩
      rw [pk_of (show upd d_ 2 1 = true from q1)]
      all_goals rfl
    · have HO : Hid (OrdP [[], [], [1], [2], [3], [], [5], [], [7], [8], [], [6, 9, 10], [11], [4, 9, 12], [0, 1, 2, 3, 4, 5, 6, 7, 8, 9, 10, 11, 12, 13], [0, 1, 2, 3, 4, 5, 6, 7, 8, 9, 10, 11, 12, 13, 14], [0, 1, 2, 3, 4, 5, 6, 7, 8, 9, 10, 11, 12, 13, 15]] (upd d_ 3)) := O.step (show ∀ e ∈ ([2] : List Nat), d_ e = true by simp [hdep])
      have q2 : d_ 2 = true := by simp [hdep]
      clear O
      rw [pk_of q2]
      have HF := Lib.hid F
      clear F hdep
      go_simp
      refine HK.out _ _ ⟨?_, HF.out, HO.out⟩
      rw [pk_of (show upd d_ 3 2 = true from q2)]
      all_goals rfl
    · have HO : Hid (OrdP [[], [], [1], [2], [3], [], [5], [], [7], [8], [], [6, 9, 10], [11], [4, 9, 12], [0, 1, 2, 3, 4, 5, 6, 7, 8, 9, 10, 11, 12, 13], [0, 1, 2, 3, 4, 5, 6, 7, 8, 9, 10, 11, 12, 13, 14], [0, 1, 2, 3, 4, 5, 6, 7, 8, 9, 10, 11, 12, 13, 15]] (upd d_ 4)) := O.step (show ∀ e ∈ ([3] : List Nat), d_ e = true by simp [hdep])
      have q3 : d_ 3 = true := by simp [hdep]
      have F2 := F
      have n_ : d_ 13 = false := by
        cases e_ : d_ 13 with
        | false => rfl
        | true => have h2 := (O 13 e_ 4 (by decide)); rw [show d_ 4 = false from hd_] at h2; cases h2
      rw [n_] at F2
      have kk := kl4.out w1 (by
        have h3 := ch3_or F2
        cases e12_ : d_ 12 <;> cases e16_ : d_ 16 <;> simp_all [ch3])
      clear F2
      clear n_
      clear O
      rw [pk_of q3]
      have HF := Lib.hid F
      clear F hdep
      go_simp
      refine HK.out _ _ ⟨?_, HF.out, HO.out⟩
      rw [pk_of (show upd d_ 4 3 = true from q3)]
      all_goals rfl
    · have HO : Hid (OrdP [[], [], [1], [2], [3], [], [5], [], [7], [8], [], [6, 9, 10], [11], [4, 9, 12], [0, 1, 2, 3, 4, 5, 6, 7, 8, 9, 10, 11, 12, 13], [0, 1, 2, 3, 4, 5, 6, 7, 8, 9, 10, 11, 12, 13, 14], [0, 1, 2, 3, 4, 5, 6, 7, 8, 9, 10, 11, 12, 13, 15]] (upd d_ 5)) := O.step (show ∀ e ∈ ([] : List Nat), d_ e = true by simp [hdep])
      clear O
      have HF := Lib.hid F
      clear F hdep
      go_simp
      refine HK.out _ _ ⟨?_, HF.out, HO.out⟩
      all_goals rfl
    · have HO : Hid (OrdP [[], [], [1], [2], [3], [], [5], [], [7], [8], [], [6, 9, 10], [11], [4, 9, 12], [0, 1, 2, 3, 4, 5, 6, 7, 8, 9, 10, 11, 12, 13], [0, 1, 2, 3, 4, 5, 6, 7, 8, 9, 10, 11, 12, 13, 14], [0, 1, 2, 3, 4, 5, 6, 7, 8, 9, 10, 11, 12, 13, 15]] (upd d_ 6)) := O.step (show ∀ e ∈ ([5] : List Nat), d_ e = true by simp [hdep])
      have q5 : d_ 5 = true := by simp [hdep]
      have kk := kl6.out w1 (ch3_or F)
      clear O
      rw [pk_of q5]
      have HF := Lib.hid F
      clear F hdep
      go_simp
      refine HK.out _ _ ⟨?_, HF.out, HO.out⟩
      rw [pk_of (show upd d_ 6 5 = true from q5)]
      all_goals rfl
    · have HO : Hid (OrdP [[], [], [1], [2], [3], [], [5], [], [7], [8], [], [6, 9, 10], [11], [4, 9, 12], [0, 1, 2, 3, 4, 5, 6, 7, 8, 9, 10, 11, 12, 13], [0, 1, 2, 3, 4, 5, 6, 7, 8, 9, 10, 11, 12, 13, 14], [0, 1, 2, 3, 4, 5, 6, 7, 8, 9, 10, 11, 12, 13, 15]] (upd d_ 7)) := O.step (show ∀ e ∈ ([] : List Nat), d_ e = true by simp [hdep])
      clear O
      have HF := Lib.hid F
      clear F hdep
      go_simp
      refine HK.out _ _ ⟨?_, HF.out, HO.out⟩
      all_goals rfl
    · have HO : Hid (OrdP [[], [], [1], [2], [3], [], [5], [], [7], [8], [], [6, 9, 10], [11], [4, 9, 12], [0, 1, 2, 3, 4, 5, 6, 7, 8, 9, 10, 11, 12, 13], [0, 1, 2, 3, 4, 5, 6, 7, 8, 9, 10, 11, 12, 13, 14], [0, 1, 2, 3, 4, 5, 6, 7, 8, 9, 10, 11, 12, 13, 15]] (upd d_ 8)) := O.step (show ∀ e ∈ ([7] : List Nat), d_ e = true by simp [hdep])
      have q7 : d_ 7 = true := by simp [hdep]
      clear O
      have hk2 := hk
      rw [pk_of q7]
      have HF := Lib.hid F
      clear F hdep
      go_simp
      refine HK.out _ _ ⟨?_, HF.out, HO.out⟩
      rw [pk_of (show upd d_ 8 7 = true from q7)]
      all_goals rfl
    · have HO : Hid (OrdP [[], [], [1], [2], [3], [], [5], [], [7], [8], [], [6, 9, 10], [11], [4, 9, 12], [0, 1, 2, 3, 4, 5, 6, 7, 8, 9, 10, 11, 12, 13], [0, 1, 2, 3, 4, 5, 6, 7, 8, 9, 10, 11, 12, 13, 14], [0, 1, 2, 3, 4, 5, 6, 7, 8, 9, 10, 11, 12, 13, 15]] (upd d_ 9)) := O.step (show ∀ e ∈ ([8] : List Nat), d_ e = true by simp [hdep])
      have q8 : d_ 8 = true := by simp [hdep]
      clear O
      rw [pk_of q8]
      have hc := kc9.out w1 (ch3_or F)
      have HF := Lib.hid F
      clear F hdep
      go_simp
      refine ⟨trivial, rfl, wideAt_calls (hc.mono ?_)⟩
      rintro e w5 ⟨rfl, hw5⟩
      subst hw5
      refine HK.out _ _ ⟨?_, HF.out, HO.out⟩
      rw [pk_of (show upd d_ 9 8 = true from q8)]
      all_goals rfl
    · have HO : Hid (OrdP [[], [], [1], [2], [3], [], [5], [], [7], [8], [], [6, 9, 10], [11], [4, 9, 12], [0, 1, 2, 3, 4, 5, 6, 7, 8, 9, 10, 11, 12, 13], [0, 1, 2, 3, 4, 5, 6, 7, 8, 9, 10, 11, 12, 13, 14], [0, 1, 2, 3, 4, 5, 6, 7, 8, 9, 10, 11, 12, 13, 15]] (upd d_ 10)) := O.step (show ∀ e ∈ ([] : List Nat), d_ e = true by simp [hdep])
      clear O
      have HF := Lib.hid F
      clear F hdep
      go_simp
      refine HK.out _ _ ⟨?_, HF.out, HO.out⟩
      all_goals rfl
    · have HO : Hid (OrdP [[], [], [1], [2], [3], [], [5], [], [7], [8], [], [6, 9, 10], [11], [4, 9, 12], [0, 1, 2, 3, 4, 5, 6, 7, 8, 9, 10, 11, 12, 13], [0, 1, 2, 3, 4, 5, 6, 7, 8, 9, 10, 11, 12, 13, 14], [0, 1, 2, 3, 4, 5, 6, 7, 8, 9, 10, 11, 12, 13, 15]] (upd d_ 11)) := O.step (show ∀ e ∈ ([6, 9, 10] : List Nat), d_ e = true by simp [hdep])
      have q6 : d_ 6 = true := by simp [hdep]
      have q9 : d_ 9 = true := by simp [hdep]
      have q10 : d_ 10 = true := by simp [hdep]
      clear O
      rw [pk_of q6, pk_of q9, pk_of q10]
      have HF := Lib.hid F
      clear F hdep
      go_simp
      refine HK.out _ _ ⟨?_, HF.out, HO.out⟩
      rw [pk_of (show upd d_ 11 6 = true from q6), pk_of (show upd d_ 11 9 = true from q9), pk_of (show upd d_ 11 10 = true from q10)]
      all_goals rfl
    · have HO : Hid (OrdP [[], [], [1], [2], [3], [], [5], [], [7], [8], [], [6, 9, 10], [11], [4, 9, 12], [0, 1, 2, 3, 4, 5, 6, 7, 8, 9, 10, 11, 12, 13], [0, 1, 2, 3, 4, 5, 6, 7, 8, 9, 10, 11, 12, 13, 14], [0, 1, 2, 3, 4, 5, 6, 7, 8, 9, 10, 11, 12, 13, 15]] (upd d_ 12)) := O.step (show ∀ e ∈ ([11] : List Nat), d_ e = true by simp [hdep])
      have q11 : d_ 11 = true := by simp [hdep]
      clear O
      rw [pk_of q11]
      obtain ⟨hP, hN⟩ := ch3_s1 F hd_
      obtain ⟨hz_, hR⟩ := ka12.out w1 hP
      have HF := Lib.hid (hN _ hR)
      clear F hP hR hN hdep
      go_simp
      try rw [hz_]
      have HG := HF.out
      refine HK.out _ _ ⟨?_, HG, HO.out⟩
      rw [pk_of (show upd d_ 12 11 = true from q11)]
      all_goals rfl
    · have HO : Hid (OrdP [[], [], [1], [2], [3], [], [5], [], [7], [8], [], [6, 9, 10], [11], [4, 9, 12], [0, 1, 2, 3, 4, 5, 6, 7, 8, 9, 10, 11, 12, 13], [0, 1, 2, 3, 4, 5, 6, 7, 8, 9, 10, 11, 12, 13, 14], [0, 1, 2, 3, 4, 5, 6, 7, 8, 9, 10, 11, 12, 13, 15]] (upd d_ 13)) := O.step (show ∀ e ∈ ([4, 9, 12] : List Nat), d_ e = true by simp [hdep])
      have q4 : d_ 4 = true := by simp [hdep]
      have q12 : d_ 12 = true := by simp [hdep]
      clear O
      rw [pk_of q4, pk_of q12]
      obtain ⟨hP, hN⟩ := ch3_s2 F (show d_ 12 = true by simp [hdep]) hd_
      obtain ⟨w5, kk, hR⟩ := kr13.out w1 hP
      have HF := Lib.hid (hN _ hR)
      clear F hP hR hN hdep
      rw [if_pos (by rfl)]
      refine wpInR_append_run (.tmp 37) (.tmp 45) 72 rfl _ _ _ _ rfl rfl kk ?_
      have HG := HF.out
      refine HK.out _ _ ⟨?_, HG, HO.out⟩
      rw [pk_of (show upd d_ 13 4 = true from q4), pk_of (show upd d_ 13 12 = true from q12)]
      all_goals rfl
    · have HO : Hid (OrdP [[], [], [1], [2], [3], [], [5], [], [7], [8], [], [6, 9, 10], [11], [4, 9, 12], [0, 1, 2, 3, 4, 5, 6, 7, 8, 9, 10, 11, 12, 13], [0, 1, 2, 3, 4, 5, 6, 7, 8, 9, 10, 11, 12, 13, 14], [0, 1, 2, 3, 4, 5, 6, 7, 8, 9, 10, 11, 12, 13, 15]] (upd d_ 14)) := O.step (show ∀ e ∈ ([0, 1, 2, 3, 4, 5, 6, 7, 8, 9, 10, 11, 12, 13] : List Nat), d_ e = true by simp [hdep])
      have q0 : d_ 0 = true := by simp [hdep]
      clear O
      rw [pk_of q0]
      have HF := Lib.hid F
      clear F hdep
      go_simp
      refine HK.out _ _ ⟨?_, HF.out, HO.out⟩
      rw [pk_of (show upd d_ 14 0 = true from q0)]
      all_goals rfl
    · have HO : Hid (OrdP [[], [], [1], [2], [3], [], [5], [], [7], [8], [], [6, 9, 10], [11], [4, 9, 12], [0, 1, 2, 3, 4, 5, 6, 7, 8, 9, 10, 11, 12, 13], [0, 1, 2, 3, 4, 5, 6, 7, 8, 9, 10, 11, 12, 13, 14], [0, 1, 2, 3, 4, 5, 6, 7, 8, 9, 10, 11, 12, 13, 15]] (upd d_ 15)) := O.step (show ∀ e ∈ ([0, 1, 2, 3, 4, 5, 6, 7, 8, 9, 10, 11, 12, 13, 14] : List Nat), d_ e = true by simp [hdep])
      have q14 : d_ 14 = true := by simp [hdep]
      clear O
      rw [pk_of q14]
      have HF := Lib.hid F
      clear F hdep
      go_simp
      refine HK.out _ _ ⟨?_, HF.out, HO.out⟩
      rw [pk_of (show upd d_ 15 14 = true from q14)]
      all_goals rfl
    · have HO : Hid (OrdP [[], [], [1], [2], [3], [], [5], [], [7], [8], [], [6, 9, 10], [11], [4, 9, 12], [0, 1, 2, 3, 4, 5, 6, 7, 8, 9, 10, 11, 12, 13], [0, 1, 2, 3, 4, 5, 6, 7, 8, 9, 10, 11, 12, 13, 14], [0, 1, 2, 3, 4, 5, 6, 7, 8, 9, 10, 11, 12, 13, 15]] (upd d_ 16)) := O.step (show ∀ e ∈ ([0, 1, 2, 3, 4, 5, 6, 7, 8, 9, 10, 11, 12, 13, 15] : List Nat), d_ e = true by simp [hdep])
      have q13 : d_ 13 = true := by simp [hdep]
      have q15 : d_ 15 = true := by simp [hdep]
      clear O
      rw [pk_of q13, pk_of q15]
      obtain ⟨hP, hN⟩ := ch3_s3 F (show d_ 13 = true by simp [hdep]) hd_
      obtain ⟨⟨u0, c0⟩, z0, hR⟩ := ks16.out w1 hP
      have HF := Lib.hid (hN _ hR)
      clear F hP hR hN hdep
      go_simp
      have HG := HF.out
      refine HK.out _ _ ⟨?_, HG, HO.out⟩
      rw [pk_of (show upd d_ 16 13 = true from q13), pk_of (show upd d_ 16 15 = true from q15)]
      all_goals rfl
  · rintro d_ a_ w1 hall ⟨rfl, F, O⟩
    have hall' : ∀ k, k < 17 → d_ k = true := hall
    rw [hall' 12 (by decide), hall' 13 (by decide), hall' 16 (by decide)] at F
    have HF := Lib.hid F
    clear F
    rw [pk_of (hall' 0 (by decide)), pk_of (hall' 1 (by decide)), pk_of (hall' 2 (by decide)), pk_of (hall' 3 (by decide)), pk_of (hall' 4 (by decide)), pk_of (hall' 5 (by decide)), pk_of (hall' 6 (by decide)), pk_of (hall' 7 (by decide)), pk_of (hall' 8 (by decide)), pk_of (hall' 9 (by decide)), pk_of (hall' 10 (by decide)), pk_of (hall' 11 (by decide)), pk_of (hall' 12 (by decide)), pk_of (hall' 13 (by decide)), pk_of (hall' 14 (by decide)), pk_of (hall' 15 (by decide))]
    exact HQ.out w1 HF.out
structure opn16F (hb : Nat) (b10 : Nat) (n : Nat) (cf : Nat) (af : Option Addr) (col : Int) (nm : ByteArray) (tx : ByteArray) (z : Nat) (S0 : World → Prop) (S1 : Unit → World → Prop) (S2 : Unit → Nat → World → Prop) (S3 : Unit → Nat → Option Addr × Nat → World → Prop) (S4 : Unit → Nat → Option Addr × Nat → World → Prop) (d : Nat → Bool) (x58 x59 x60 x61 x62 x63 x64 x65 x66 x67 x68 x69 : Value) (u1 : Unit) (gb : Nat) (r : Option Addr × Nat) (w : World) : Prop where
  q2 : d 2 = true → d 1 = true
  q3 : d 3 = true → d 2 = true
  q4 : d 4 = true → d 3 = true
  q7 : d 7 = true → d 5 = true ∧ d 6 = true
  q8 : d 8 = true → d 7 = true
  q9 : d 9 = true → d 4 = true ∧ d 7 = true ∧ d 8 = true
  q10 : d 10 = true → d 0 = true ∧ d 1 = true ∧ d 2 = true ∧ d 3 = true ∧ d 4 = true ∧ d 5 = true ∧ d 6 = true ∧ d 7 = true ∧ d 8 = true ∧ d 9 = true
  q11 : d 11 = true → d 0 = true ∧ d 1 = true ∧ d 2 = true ∧ d 3 = true ∧ d 4 = true ∧ d 5 = true ∧ d 6 = true ∧ d 7 = true ∧ d 8 = true ∧ d 9 = true ∧ d 10 = true
  q12 : d 12 = true → d 0 = true ∧ d 1 = true ∧ d 2 = true ∧ d 3 = true ∧ d 4 = true ∧ d 5 = true ∧ d 6 = true ∧ d 7 = true ∧ d 8 = true ∧ d 9 = true ∧ d 11 = true
  f0 : d 0 = true → x58 = .pointer (some ⟨hb, 0, none⟩)
  f1 : d 1 = true → x59 = .pointer (some ⟨hb, 0, none⟩)
  f2 : d 2 = true → x60 = .pointer (some ⟨hb, 0, none⟩)
  f3 : d 3 = true → x61 = .pointer (some ⟨hb, 3, none⟩)
  f4 : d 4 = true → x62 = .slice af n cf
  f5 : d 5 = true → x63 = .pointer (some ⟨hb, 0, none⟩)
  f6 : d 6 = true → x64 = .agg #[.int .i64 (col), .string nm, .string tx]
  f7 : d 7 = true → x65 = .int .u64 (z : Int)
  f8 : d 8 = true → x66 = .slice (some ⟨gb, 0, none⟩) 1 1
  f9 : d 9 = true → x67 = .slice r.1 (n + 1) r.2
  f10 : d 10 = true → x68 = .pointer (some ⟨hb, 0, none⟩)
  f11 : d 11 = true → x69 = .pointer (some ⟨hb, 3, none⟩)
  st0 : d 7 = false → S0 w
  st1 : d 7 = true → d 8 = false → S1 u1 w
  st2 : d 8 = true → d 9 = false → S2 u1 gb w
  st3 : d 9 = true → d 12 = false → S3 u1 gb r w
  st4 : d 12 = true → S4 u1 gb r w
noncomputable def opn16C : Code := (Tryz.f36.body.bind (regionAt 16)).getD .skip
set_option maxRecDepth 100000 in
set_option maxHeartbeats 4000000 in
theorem opn16 {hb : Nat} {b10 : Nat} {n : Nat} {cf : Nat} {af : Option Addr} {col : Int} {nm : ByteArray} {tx : ByteArray} {z : Nat} {S0 : World → Prop} {S1 : Unit → World → Prop} {S2 : Unit → Nat → World → Prop} {S3 : Unit → Nat → Option Addr × Nat → World → Prop} {S4 : Unit → Nat → Option Addr × Nat → World → Prop} {Q : Exit → Act → World → Prop} {W1 : World} (h0 : S0 W1.drew)
    (kl4 : Hid (∀ (u1 : Unit) (gb : Nat) (w : World), (S0 w ∨ S1 u1 w ∨ S2 u1 gb w) → w.cell? ⟨hb, 3, none⟩ = some (.slice af n cf)))
    (kl6 : Hid (∀ (w : World), (S0 w) → w.cell? ⟨b10, 0, none⟩ = some (.int .i64 (col)) ∧ w.cell? ⟨b10, 1, none⟩ = some (.string nm) ∧ w.cell? ⟨b10, 2, none⟩ = some (.string tx)))
    (kc7 : Hid (∀ (w : World), S0 w → Calls Tryz.prog 56 #[.pointer (some ⟨hb, 0, none⟩), .agg #[.int .i64 (col), .string nm, .string tx]] w fun e w' => ∃ u1 : Unit, e = .returned (.int .u64 (z : Int)) ∧ S1 u1 w'))
    (kc8 : Hid (∀ (u1 : Unit) (w : World), S1 u1 w → S2 u1 w.heap.size (w.alloc (.cells #[.int .u64 (z : Int)] 71))))
    (kc9 : Hid (∀ (u1 : Unit) (gb : Nat) (w : World), S2 u1 gb w → ∃ (r : Option Addr × Nat) (w' : World), (Builtin.append_ #[73, 73] 73 #[.slice af n cf, .slice (some ⟨gb, 0, none⟩) 1 1]).run Tryz.prog w = .ok (.slice r.1 (n + 1) r.2) w' ∧ S3 u1 gb r w'))
    (kc12 : Hid (∀ (u1 : Unit) (gb : Nat) (r : Option Addr × Nat) (w : World), S3 u1 gb r w → (∃ u, w.cell? ⟨hb, 3, none⟩ = some u) ∧ w.frozen? ⟨hb, 3, none⟩ = false ∧ S4 u1 gb r (w.setCell ⟨hb, 3, none⟩ (.slice r.1 (n + 1) r.2))))
    {s0 s1 s2 s3 s5 s6 s7 s8 s9 s11 s12 s13 s14 s15 s16 s17 s18 s19 s20 s21 s22 s23 s24 s25 s26 s27 s28 s29 s30 s31 s32 s33 s34 s35 s36 s37 s38 s39 s40 s41 s42 s43 s44 s45 s46 s47 s48 s49 s50 s51 s52 s53 s54 s55 s56 s57 s58 s59 s60 s61 s62 s63 s64 s65 s66 s67 s68 s69 s70 s71 : Value} {dd : List Deferred}
    (hQ : ∀ (u1 : Unit) (gb : Nat) (r : Option Addr × Nat) (w' : World), S4 u1 gb r w' → Q .normal { tmps := List.toArray (s0 :: s1 :: s2 :: s3 :: .pointer (some ⟨hb, 0, none⟩) :: s5 :: s6 :: s7 :: s8 :: s9 :: .pointer (some ⟨b10, 0, none⟩) :: s11 :: s12 :: s13 :: s14 :: s15 :: s16 :: s17 :: s18 :: s19 :: s20 :: s21 :: s22 :: s23 :: s24 :: s25 :: s26 :: s27 :: s28 :: s29 :: s30 :: s31 :: s32 :: s33 :: s34 :: s35 :: s36 :: s37 :: s38 :: s39 :: s40 :: s41 :: s42 :: s43 :: s44 :: s45 :: s46 :: s47 :: s48 :: s49 :: s50 :: s51 :: s52 :: s53 :: s54 :: s55 :: s56 :: s57 :: .pointer (some ⟨hb, 0, none⟩) :: .pointer (some ⟨hb, 0, none⟩) :: .pointer (some ⟨hb, 0, none⟩) :: .pointer (some ⟨hb, 3, none⟩) :: .slice af n cf :: .pointer (some ⟨hb, 0, none⟩) :: .agg #[.int .i64 (col), .string nm, .string tx] :: .int .u64 (z : Int) :: .slice (some ⟨gb, 0, none⟩) 1 1 :: .slice r.1 (n + 1) r.2 :: .pointer (some ⟨hb, 0, none⟩) :: .pointer (some ⟨hb, 3, none⟩) :: s70 :: s71 :: []), defers := dd } w') :
    Code.wpIn (wideAt none) 0 Tryz.prog opn16C Q { tmps := List.toArray (s0 :: s1 :: s2 :: s3 :: .pointer (some ⟨hb, 0, none⟩) :: s5 :: s6 :: s7 :: s8 :: s9 :: .pointer (some ⟨b10, 0, none⟩) :: s11 :: s12 :: s13 :: s14 :: s15 :: s16 :: s17 :: s18 :: s19 :: s20 :: s21 :: s22 :: s23 :: s24 :: s25 :: s26 :: s27 :: s28 :: s29 :: s30 :: s31 :: s32 :: s33 :: s34 :: s35 :: s36 :: s37 :: s38 :: s39 :: s40 :: s41 :: s42 :: s43 :: s44 :: s45 :: s46 :: s47 :: s48 :: s49 :: s50 :: s51 :: s52 :: s53 :: s54 :: s55 :: s56 :: s57 :: s58 :: s59 :: s60 :: s61 :: s62 :: s63 :: s64 :: s65 :: s66 :: s67 :: s68 :: s69 :: s70 :: s71 :: []), defers := dd } W1 := by
  have HQ := Lib.hid hQ
  clear hQ
  conv => arg 4; whnf
  refine wpIn_region_invG mixed (by kernel_rfl) (fun d_ a_ w' => ∃ (x58 : Value) (x59 : Value) (x60 : Value) (x61 : Value) (x62 : Value) (x63 : Value) (x64 : Value) (x65 : Value) (x66 : Value) (x67 : Value) (x68 : Value) (x69 : Value) (u1 : Unit) (gb : Nat) (r : Option Addr × Nat), a_ = { tmps := List.toArray (s0 :: s1 :: s2 :: s3 :: .pointer (some ⟨hb, 0, none⟩) :: s5 :: s6 :: s7 :: s8 :: s9 :: .pointer (some ⟨b10, 0, none⟩) :: s11 :: s12 :: s13 :: s14 :: s15 :: s16 :: s17 :: s18 :: s19 :: s20 :: s21 :: s22 :: s23 :: s24 :: s25 :: s26 :: s27 :: s28 :: s29 :: s30 :: s31 :: s32 :: s33 :: s34 :: s35 :: s36 :: s37 :: s38 :: s39 :: s40 :: s41 :: s42 :: s43 :: s44 :: s45 :: s46 :: s47 :: s48 :: s49 :: s50 :: s51 :: s52 :: s53 :: s54 :: s55 :: s56 :: s57 :: x58 :: x59 :: x60 :: x61 :: x62 :: x63 :: x64 :: x65 :: x66 :: x67 :: x68 :: x69 :: s70 :: s71 :: []), defers := dd } ∧ opn16F hb b10 n cf af col nm tx z S0 S1 S2 S3 S4 d_ x58 x59 x60 x61 x62 x63 x64 x65 x66 x67 x68 x69 u1 gb r w') ?_ ?_ ?_
  · refine ⟨s58, s59, s60, s61, s62, s63, s64, s65, s66, s67, s68, s69, default, 0, default, rfl, ?_⟩
    constructor <;> first | rfl | (intro _; rfl) | (intro h; cases h; done) | (intro _; exact h0) | exact h0
  · refine ⟨?_, ?_, ?_, ?_, ?_, ?_, ?_, ?_, ?_, ?_, ?_, ?_, ?_, trivial⟩
    all_goals
      rintro d_ a_ w1 K hd_ hdep ⟨x58, x59, x60, x61, x62, x63, x64, x65, x66, x67, x68, x69, u1, gb, r, rfl, F⟩ HK
      simp [Region.binds] at hdep
    · have HF : Hid (opn16F hb b10 n cf af col nm tx z S0 S1 S2 S3 S4 (upd d_ 0) (.pointer (some ⟨hb, 0, none⟩)) x59 x60 x61 x62 x63 x64 x65 x66 x67 x68 x69 u1 gb r w1) := ⟨F.q2, F.q3, F.q4, F.q7, F.q8, F.q9, fun h => ⟨rfl, (F.q10 h).2.1, (F.q10 h).2.2.1, (F.q10 h).2.2.2.1, (F.q10 h).2.2.2.2.1, (F.q10 h).2.2.2.2.2.1, (F.q10 h).2.2.2.2.2.2.1, (F.q10 h).2.2.2.2.2.2.2.1, (F.q10 h).2.2.2.2.2.2.2.2.1, (F.q10 h).2.2.2.2.2.2.2.2.2⟩, fun h => ⟨rfl, (F.q11 h).2.1, (F.q11 h).2.2.1, (F.q11 h).2.2.2.1, (F.q11 h).2.2.2.2.1, (F.q11 h).2.2.2.2.2.1, (F.q11 h).2.2.2.2.2.2.1, (F.q11 h).2.2.2.2.2.2.2.1, (F.q11 h).2.2.2.2.2.2.2.2.1, (F.q11 h).2.2.2.2.2.2.2.2.2.1, (F.q11 h).2.2.2.2.2.2.2.2.2.2⟩, fun h => ⟨rfl, (F.q12 h).2.1, (F.q12 h).2.2.1, (F.q12 h).2.2.2.1, (F.q12 h).2.2.2.2.1, (F.q12 h).2.2.2.2.2.1, (F.q12 h).2.2.2.2.2.2.1, (F.q12 h).2.2.2.2.2.2.2.1, (F.q12 h).2.2.2.2.2.2.2.2.1, (F.q12 h).2.2.2.2.2.2.2.2.2.1, (F.q12 h).2.2.2.2.2.2.2.2.2.2⟩, fun _ => rfl, F.f1, F.f2, F.f3, F.f4, F.f5, F.f6, F.f7, F.f8, F.f9, F.f10, F.f11, F.st0, F.st1, F.st2, F.st3, F.st4⟩
      clear F
      go_simp
      exact HK.out _ _ ⟨_, _, _, _, _, _, _, _, _, _, _, _, _, _, _, rfl, HF.out⟩
    · have HF : Hid (opn16F hb b10 n cf af col nm tx z S0 S1 S2 S3 S4 (upd d_ 1) x58 (.pointer (some ⟨hb, 0, none⟩)) x60 x61 x62 x63 x64 x65 x66 x67 x68 x69 u1 gb r w1) := ⟨fun h => rfl, F.q3, F.q4, F.q7, F.q8, F.q9, fun h => ⟨(F.q10 h).1, rfl, (F.q10 h).2.2.1, (F.q10 h).2.2.2.1, (F.q10 h).2.2.2.2.1, (F.q10 h).2.2.2.2.2.1, (F.q10 h).2.2.2.2.2.2.1, (F.q10 h).2.2.2.2.2.2.2.1, (F.q10 h).2.2.2.2.2.2.2.2.1, (F.q10 h).2.2.2.2.2.2.2.2.2⟩, fun h => ⟨(F.q11 h).1, rfl, (F.q11 h).2.2.1, (F.q11 h).2.2.2.1, (F.q11 h).2.2.2.2.1, (F.q11 h).2.2.2.2.2.1, (F.q11 h).2.2.2.2.2.2.1, (F.q11 h).2.2.2.2.2.2.2.1, (F.q11 h).2.2.2.2.2.2.2.2.1, (F.q11 h).2.2.2.2.2.2.2.2.2.1, (F.q11 h).2.2.2.2.2.2.2.2.2.2⟩, fun h => ⟨(F.q12 h).1, rfl, (F.q12 h).2.2.1, (F.q12 h).2.2.2.1, (F.q12 h).2.2.2.2.1, (F.q12 h).2.2.2.2.2.1, (F.q12 h).2.2.2.2.2.2.1, (F.q12 h).2.2.2.2.2.2.2.1, (F.q12 h).2.2.2.2.2.2.2.2.1, (F.q12 h).2.2.2.2.2.2.2.2.2.1, (F.q12 h).2.2.2.2.2.2.2.2.2.2⟩, F.f0, fun _ => rfl, F.f2, F.f3, F.f4, F.f5, F.f6, F.f7, F.f8, F.f9, F.f10, F.f11, F.st0, F.st1, F.st2, F.st3, F.st4⟩
      clear F
      go_simp
      exact HK.out _ _ ⟨_, _, _, _, _, _, _, _, _, _, _, _, _, _, _, rfl, HF.out⟩
    · obtain rfl := F.f1 (by simp [hdep])
      have HF : Hid (opn16F hb b10 n cf af col nm tx z S0 S1 S2 S3 S4 (upd d_ 2) x58 (.pointer (some ⟨hb, 0, none⟩)) (.pointer (some ⟨hb, 0, none⟩)) x61 x62 x63 x64 x65 x66 x67 x68 x69 u1 gb r w1) := ⟨fun _ => (show _ from (by simp [hdep] : d_ 1 = true)), fun h => rfl, F.q4, F.q7, F.q8, F.q9, fun h => ⟨(F.q10 h).1, (F.q10 h).2.1, rfl, (F.q10 h).2.2.2.1, (F.q10 h).2.2.2.2.1, (F.q10 h).2.2.2.2.2.1, (F.q10 h).2.2.2.2.2.2.1, (F.q10 h).2.2.2.2.2.2.2.1, (F.q10 h).2.2.2.2.2.2.2.2.1, (F.q10 h).2.2.2.2.2.2.2.2.2⟩, fun h => ⟨(F.q11 h).1, (F.q11 h).2.1, rfl, (F.q11 h).2.2.2.1, (F.q11 h).2.2.2.2.1, (F.q11 h).2.2.2.2.2.1, (F.q11 h).2.2.2.2.2.2.1, (F.q11 h).2.2.2.2.2.2.2.1, (F.q11 h).2.2.2.2.2.2.2.2.1, (F.q11 h).2.2.2.2.2.2.2.2.2.1, (F.q11 h).2.2.2.2.2.2.2.2.2.2⟩, fun h => ⟨(F.q12 h).1, (F.q12 h).2.1, rfl, (F.q12 h).2.2.2.1, (F.q12 h).2.2.2.2.1, (F.q12 h).2.2.2.2.2.1, (F.q12 h).2.2.2.2.2.2.1, (F.q12 h).2.2.2.2.2.2.2.1, (F.q12 h).2.2.2.2.2.2.2.2.1, (F.q12 h).2.2.2.2.2.2.2.2.2.1, (F.q12 h).2.2.2.2.2.2.2.2.2.2⟩, F.f0, F.f1, fun _ => rfl, F.f3, F.f4, F.f5, F.f6, F.f7, F.f8, F.f9, F.f10, F.f11, F.st0, F.st1, F.st2, F.st3, F.st4⟩
      clear F
      go_simp
      exact HK.out _ _ ⟨_, _, _, _, _, _, _, _, _, _, _, _, _, _, _, rfl, HF.out⟩
    · obtain rfl := F.f2 (by simp [hdep])
      have HF : Hid (opn16F hb b10 n cf af col nm tx z S0 S1 S2 S3 S4 (upd d_ 3) x58 x59 (.pointer (some ⟨hb, 0, none⟩)) (.pointer (some ⟨hb, 3, none⟩)) x62 x63 x64 x65 x66 x67 x68 x69 u1 gb r w1) := ⟨F.q2, fun _ => (show _ from (by simp [hdep] : d_ 2 = true)), fun h => rfl, F.q7, F.q8, F.q9, fun h => ⟨(F.q10 h).1, (F.q10 h).2.1, (F.q10 h).2.2.1, rfl, (F.q10 h).2.2.2.2.1, (F.q10 h).2.2.2.2.2.1, (F.q10 h).2.2.2.2.2.2.1, (F.q10 h).2.2.2.2.2.2.2.1, (F.q10 h).2.2.2.2.2.2.2.2.1, (F.q10 h).2.2.2.2.2.2.2.2.2⟩, fun h => ⟨(F.q11 h).1, (F.q11 h).2.1, (F.q11 h).2.2.1, rfl, (F.q11 h).2.2.2.2.1, (F.q11 h).2.2.2.2.2.1, (F.q11 h).2.2.2.2.2.2.1, (F.q11 h).2.2.2.2.2.2.2.1, (F.q11 h).2.2.2.2.2.2.2.2.1, (F.q11 h).2.2.2.2.2.2.2.2.2.1, (F.q11 h).2.2.2.2.2.2.2.2.2.2⟩, fun h => ⟨(F.q12 h).1, (F.q12 h).2.1, (F.q12 h).2.2.1, rfl, (F.q12 h).2.2.2.2.1, (F.q12 h).2.2.2.2.2.1, (F.q12 h).2.2.2.2.2.2.1, (F.q12 h).2.2.2.2.2.2.2.1, (F.q12 h).2.2.2.2.2.2.2.2.1, (F.q12 h).2.2.2.2.2.2.2.2.2.1, (F.q12 h).2.2.2.2.2.2.2.2.2.2⟩, F.f0, F.f1, F.f2, fun _ => rfl, F.f4, F.f5, F.f6, F.f7, F.f8, F.f9, F.f10, F.f11, F.st0, F.st1, F.st2, F.st3, F.st4⟩
      clear F
      go_simp
      exact HK.out _ _ ⟨_, _, _, _, _, _, _, _, _, _, _, _, _, _, _, rfl, HF.out⟩
    · have hst : S0 w1 ∨ S1 u1 w1 ∨ S2 u1 gb w1 := by
        cases e1 : d_ 7 with
        | false => exact .inl ((F.st0 e1))
        | true =>
          cases e2 : d_ 8 with
          | false => exact .inr (.inl ((F.st1 e1 e2)))
          | true =>
            have n_ : d_ 9 = false := by
              cases e_ : d_ 9 with
              | false => rfl
              | true => have h2 := (F.q9 e_).1; rw [show d_ 4 = false from hd_] at h2; cases h2
            exact .inr (.inr ((F.st2 e2 n_)))
      have kk := kl4.out u1 gb w1 hst
      clear hst
      obtain rfl := F.f3 (by simp [hdep])
      have HF : Hid (opn16F hb b10 n cf af col nm tx z S0 S1 S2 S3 S4 (upd d_ 4) x58 x59 x60 (.pointer (some ⟨hb, 3, none⟩)) (.slice af n cf) x63 x64 x65 x66 x67 x68 x69 u1 gb r w1) := ⟨F.q2, F.q3, fun _ => (show _ from (by simp [hdep] : d_ 3 = true)), F.q7, F.q8, fun h => ⟨rfl, (F.q9 h).2.1, (F.q9 h).2.2⟩, fun h => ⟨(F.q10 h).1, (F.q10 h).2.1, (F.q10 h).2.2.1, (F.q10 h).2.2.2.1, rfl, (F.q10 h).2.2.2.2.2.1, (F.q10 h).2.2.2.2.2.2.1, (F.q10 h).2.2.2.2.2.2.2.1, (F.q10 h).2.2.2.2.2.2.2.2.1, (F.q10 h).2.2.2.2.2.2.2.2.2⟩, fun h => ⟨(F.q11 h).1, (F.q11 h).2.1, (F.q11 h).2.2.1, (F.q11 h).2.2.2.1, rfl, (F.q11 h).2.2.2.2.2.1, (F.q11 h).2.2.2.2.2.2.1, (F.q11 h).2.2.2.2.2.2.2.1, (F.q11 h).2.2.2.2.2.2.2.2.1, (F.q11 h).2.2.2.2.2.2.2.2.2.1, (F.q11 h).2.2.2.2.2.2.2.2.2.2⟩, fun h => ⟨(F.q12 h).1, (F.q12 h).2.1, (F.q12 h).2.2.1, (F.q12 h).2.2.2.1, rfl, (F.q12 h).2.2.2.2.2.1, (F.q12 h).2.2.2.2.2.2.1, (F.q12 h).2.2.2.2.2.2.2.1, (F.q12 h).2.2.2.2.2.2.2.2.1, (F.q12 h).2.2.2.2.2.2.2.2.2.1, (F.q12 h).2.2.2.2.2.2.2.2.2.2⟩, F.f0, F.f1, F.f2, F.f3, fun _ => rfl, F.f5, F.f6, F.f7, F.f8, F.f9, F.f10, F.f11, F.st0, F.st1, F.st2, F.st3, F.st4⟩
      clear F
      go_simp
      exact HK.out _ _ ⟨_, _, _, _, _, _, _, _, _, _, _, _, _, _, _, rfl, HF.out⟩
    · have HF : Hid (opn16F hb b10 n cf af col nm tx z S0 S1 S2 S3 S4 (upd d_ 5) x58 x59 x60 x61 x62 (.pointer (some ⟨hb, 0, none⟩)) x64 x65 x66 x67 x68 x69 u1 gb r w1) := ⟨F.q2, F.q3, F.q4, fun h => ⟨rfl, (F.q7 h).2⟩, F.q8, F.q9, fun h => ⟨(F.q10 h).1, (F.q10 h).2.1, (F.q10 h).2.2.1, (F.q10 h).2.2.2.1, (F.q10 h).2.2.2.2.1, rfl, (F.q10 h).2.2.2.2.2.2.1, (F.q10 h).2.2.2.2.2.2.2.1, (F.q10 h).2.2.2.2.2.2.2.2.1, (F.q10 h).2.2.2.2.2.2.2.2.2⟩, fun h => ⟨(F.q11 h).1, (F.q11 h).2.1, (F.q11 h).2.2.1, (F.q11 h).2.2.2.1, (F.q11 h).2.2.2.2.1, rfl, (F.q11 h).2.2.2.2.2.2.1, (F.q11 h).2.2.2.2.2.2.2.1, (F.q11 h).2.2.2.2.2.2.2.2.1, (F.q11 h).2.2.2.2.2.2.2.2.2.1, (F.q11 h).2.2.2.2.2.2.2.2.2.2⟩, fun h => ⟨(F.q12 h).1, (F.q12 h).2.1, (F.q12 h).2.2.1, (F.q12 h).2.2.2.1, (F.q12 h).2.2.2.2.1, rfl, (F.q12 h).2.2.2.2.2.2.1, (F.q12 h).2.2.2.2.2.2.2.1, (F.q12 h).2.2.2.2.2.2.2.2.1, (F.q12 h).2.2.2.2.2.2.2.2.2.1, (F.q12 h).2.2.2.2.2.2.2.2.2.2⟩, F.f0, F.f1, F.f2, F.f3, F.f4, fun _ => rfl, F.f6, F.f7, F.f8, F.f9, F.f10, F.f11, F.st0, F.st1, F.st2, F.st3, F.st4⟩
      clear F
      go_simp
      exact HK.out _ _ ⟨_, _, _, _, _, _, _, _, _, _, _, _, _, _, _, rfl, HF.out⟩
    · have hst : S0 w1 := by
        have n_ : d_ 7 = false := by
          cases e_ : d_ 7 with
          | false => rfl
          | true => have h2 := (F.q7 e_).2; rw [show d_ 6 = false from hd_] at h2; cases h2
        exact (F.st0 n_)
      have kk := kl6.out w1 hst
      obtain ⟨kk0, kk1, kk2⟩ := kk
      clear hst
      have HF : Hid (opn16F hb b10 n cf af col nm tx z S0 S1 S2 S3 S4 (upd d_ 6) x58 x59 x60 x61 x62 x63 (.agg #[.int .i64 (col), .string nm, .string tx]) x65 x66 x67 x68 x69 u1 gb r w1) := ⟨F.q2, F.q3, F.q4, fun h => ⟨(F.q7 h).1, rfl⟩, F.q8, F.q9, fun h => ⟨(F.q10 h).1, (F.q10 h).2.1, (F.q10 h).2.2.1, (F.q10 h).2.2.2.1, (F.q10 h).2.2.2.2.1, (F.q10 h).2.2.2.2.2.1, rfl, (F.q10 h).2.2.2.2.2.2.2.1, (F.q10 h).2.2.2.2.2.2.2.2.1, (F.q10 h).2.2.2.2.2.2.2.2.2⟩, fun h => ⟨(F.q11 h).1, (F.q11 h).2.1, (F.q11 h).2.2.1, (F.q11 h).2.2.2.1, (F.q11 h).2.2.2.2.1, (F.q11 h).2.2.2.2.2.1, rfl, (F.q11 h).2.2.2.2.2.2.2.1, (F.q11 h).2.2.2.2.2.2.2.2.1, (F.q11 h).2.2.2.2.2.2.2.2.2.1, (F.q11 h).2.2.2.2.2.2.2.2.2.2⟩, fun h => ⟨(F.q12 h).1, (F.q12 h).2.1, (F.q12 h).2.2.1, (F.q12 h).2.2.2.1, (F.q12 h).2.2.2.2.1, (F.q12 h).2.2.2.2.2.1, rfl, (F.q12 h).2.2.2.2.2.2.2.1, (F.q12 h).2.2.2.2.2.2.2.2.1, (F.q12 h).2.2.2.2.2.2.2.2.2.1, (F.q12 h).2.2.2.2.2.2.2.2.2.2⟩, F.f0, F.f1, F.f2, F.f3, F.f4, F.f5, fun _ => rfl, F.f7, F.f8, F.f9, F.f10, F.f11, F.st0, F.st1, F.st2, F.st3, F.st4⟩
      clear F
      go_simp
      exact HK.out _ _ ⟨_, _, _, _, _, _, _, _, _, _, _, _, _, _, _, rfl, HF.out⟩
    · have hS := F.st0  hd_
      obtain rfl := F.f5 (by simp [hdep])
      obtain rfl := F.f6 (by simp [hdep])
      have hc := kc7.out w1 hS
      have HF := Lib.hid F
      clear F
      go_simp
      refine ⟨trivial, rfl, wideAt_calls (hc.mono ?_)⟩
      rintro e w5 ⟨v_, rfl, hres⟩
      exact HK.out _ _ ⟨_, _, _, _, _, _, _, _, _, _, _, _, v_, gb, r, rfl, ⟨HF.out.q2, HF.out.q3, HF.out.q4, fun _ => ⟨(show _ from (by simp [hdep] : d_ 5 = true)), (show _ from (by simp [hdep] : d_ 6 = true))⟩, fun h => rfl, fun h => ⟨(HF.out.q9 h).1, rfl, (HF.out.q9 h).2.2⟩, fun h => ⟨(HF.out.q10 h).1, (HF.out.q10 h).2.1, (HF.out.q10 h).2.2.1, (HF.out.q10 h).2.2.2.1, (HF.out.q10 h).2.2.2.2.1, (HF.out.q10 h).2.2.2.2.2.1, (HF.out.q10 h).2.2.2.2.2.2.1, rfl, (HF.out.q10 h).2.2.2.2.2.2.2.2.1, (HF.out.q10 h).2.2.2.2.2.2.2.2.2⟩, fun h => ⟨(HF.out.q11 h).1, (HF.out.q11 h).2.1, (HF.out.q11 h).2.2.1, (HF.out.q11 h).2.2.2.1, (HF.out.q11 h).2.2.2.2.1, (HF.out.q11 h).2.2.2.2.2.1, (HF.out.q11 h).2.2.2.2.2.2.1, rfl, (HF.out.q11 h).2.2.2.2.2.2.2.2.1, (HF.out.q11 h).2.2.2.2.2.2.2.2.2.1, (HF.out.q11 h).2.2.2.2.2.2.2.2.2.2⟩, fun h => ⟨(HF.out.q12 h).1, (HF.out.q12 h).2.1, (HF.out.q12 h).2.2.1, (HF.out.q12 h).2.2.2.1, (HF.out.q12 h).2.2.2.2.1, (HF.out.q12 h).2.2.2.2.2.1, (HF.out.q12 h).2.2.2.2.2.2.1, rfl, (HF.out.q12 h).2.2.2.2.2.2.2.2.1, (HF.out.q12 h).2.2.2.2.2.2.2.2.2.1, (HF.out.q12 h).2.2.2.2.2.2.2.2.2.2⟩, HF.out.f0, HF.out.f1, HF.out.f2, HF.out.f3, HF.out.f4, HF.out.f5, HF.out.f6, fun _ => rfl, HF.out.f8, HF.out.f9, HF.out.f10, HF.out.f11, fun h => (by simp [upd] at h), fun _ _ => hres, fun h _ => (by have h2 : d_ 7 = true := (HF.out.q8 h); rw [show d_ 7 = false from hd_] at h2; cases h2), fun h _ => (by have h2 : d_ 7 = true := (HF.out.q9 h).2.1; rw [show d_ 7 = false from hd_] at h2; cases h2), fun h => (by have h2 : d_ 7 = true := (HF.out.q12 h).2.2.2.2.2.2.2.1; rw [show d_ 7 = false from hd_] at h2; cases h2)⟩⟩
    · have hS := F.st1 (by simp [hdep] : d_ 7 = true) hd_
      obtain rfl := F.f7 (by simp [hdep])
      have hres := kc8.out u1 w1 hS
      have HF : Hid (opn16F hb b10 n cf af col nm tx z S0 S1 S2 S3 S4 (upd d_ 8) x58 x59 x60 x61 x62 x63 x64 (.int .u64 (z : Int)) ((.slice (some ⟨w1.heap.size, 0, none⟩) 1 1)) x67 x68 x69 u1 w1.heap.size r (w1.alloc (.cells #[.int .u64 (z : Int)] 71))) := ⟨F.q2, F.q3, F.q4, F.q7, fun _ => (show _ from (by simp [hdep] : d_ 7 = true)), fun h => ⟨(F.q9 h).1, (F.q9 h).2.1, rfl⟩, fun h => ⟨(F.q10 h).1, (F.q10 h).2.1, (F.q10 h).2.2.1, (F.q10 h).2.2.2.1, (F.q10 h).2.2.2.2.1, (F.q10 h).2.2.2.2.2.1, (F.q10 h).2.2.2.2.2.2.1, (F.q10 h).2.2.2.2.2.2.2.1, rfl, (F.q10 h).2.2.2.2.2.2.2.2.2⟩, fun h => ⟨(F.q11 h).1, (F.q11 h).2.1, (F.q11 h).2.2.1, (F.q11 h).2.2.2.1, (F.q11 h).2.2.2.2.1, (F.q11 h).2.2.2.2.2.1, (F.q11 h).2.2.2.2.2.2.1, (F.q11 h).2.2.2.2.2.2.2.1, rfl, (F.q11 h).2.2.2.2.2.2.2.2.2.1, (F.q11 h).2.2.2.2.2.2.2.2.2.2⟩, fun h => ⟨(F.q12 h).1, (F.q12 h).2.1, (F.q12 h).2.2.1, (F.q12 h).2.2.2.1, (F.q12 h).2.2.2.2.1, (F.q12 h).2.2.2.2.2.1, (F.q12 h).2.2.2.2.2.2.1, (F.q12 h).2.2.2.2.2.2.2.1, rfl, (F.q12 h).2.2.2.2.2.2.2.2.2.1, (F.q12 h).2.2.2.2.2.2.2.2.2.2⟩, F.f0, F.f1, F.f2, F.f3, F.f4, F.f5, F.f6, F.f7, fun _ => rfl, F.f9, F.f10, F.f11, fun h => (by have h2 : d_ 7 = false := h; rw [(by simp [hdep] : d_ 7 = true)] at h2; cases h2), fun _ h => (by simp [upd] at h), fun _ _ => hres, fun h _ => (by have h2 : d_ 8 = true := (F.q9 h).2.2; rw [show d_ 8 = false from hd_] at h2; cases h2), fun h => (by have h2 : d_ 8 = true := (F.q12 h).2.2.2.2.2.2.2.2.1; rw [show d_ 8 = false from hd_] at h2; cases h2)⟩
      clear F hS hres
      go_simp
      exact HK.out _ _ ⟨_, _, _, _, _, _, _, _, _, _, _, _, _, _, _, rfl, HF.out⟩
    · have hS := F.st2 (by simp [hdep] : d_ 8 = true) hd_
      obtain rfl := F.f4 (by simp [hdep])
      obtain rfl := F.f8 (by simp [hdep])
      obtain ⟨v_, w_, hr, hres⟩ := kc9.out u1 gb w1 hS
      rw [if_pos (by rfl)]
      refine wpIn_append_run (.tmp 62) (.tmp 66) 73 rfl _ _ _ _ rfl rfl hr ?_
      exact HK.out _ _ ⟨_, _, _, _, _, _, _, _, _, _, _, _, u1, gb, v_, rfl, ⟨F.q2, F.q3, F.q4, F.q7, F.q8, fun _ => ⟨(show _ from (by simp [hdep] : d_ 4 = true)), (show _ from (by simp [hdep] : d_ 7 = true)), (show _ from (by simp [hdep] : d_ 8 = true))⟩, fun h => ⟨(F.q10 h).1, (F.q10 h).2.1, (F.q10 h).2.2.1, (F.q10 h).2.2.2.1, (F.q10 h).2.2.2.2.1, (F.q10 h).2.2.2.2.2.1, (F.q10 h).2.2.2.2.2.2.1, (F.q10 h).2.2.2.2.2.2.2.1, (F.q10 h).2.2.2.2.2.2.2.2.1, rfl⟩, fun h => ⟨(F.q11 h).1, (F.q11 h).2.1, (F.q11 h).2.2.1, (F.q11 h).2.2.2.1, (F.q11 h).2.2.2.2.1, (F.q11 h).2.2.2.2.2.1, (F.q11 h).2.2.2.2.2.2.1, (F.q11 h).2.2.2.2.2.2.2.1, (F.q11 h).2.2.2.2.2.2.2.2.1, rfl, (F.q11 h).2.2.2.2.2.2.2.2.2.2⟩, fun h => ⟨(F.q12 h).1, (F.q12 h).2.1, (F.q12 h).2.2.1, (F.q12 h).2.2.2.1, (F.q12 h).2.2.2.2.1, (F.q12 h).2.2.2.2.2.1, (F.q12 h).2.2.2.2.2.2.1, (F.q12 h).2.2.2.2.2.2.2.1, (F.q12 h).2.2.2.2.2.2.2.2.1, rfl, (F.q12 h).2.2.2.2.2.2.2.2.2.2⟩, F.f0, F.f1, F.f2, F.f3, F.f4, F.f5, F.f6, F.f7, F.f8, fun _ => rfl, F.f10, F.f11, fun h => (by have h2 : d_ 7 = false := h; rw [(by simp [hdep] : d_ 7 = true)] at h2; cases h2), fun _ h => (by have h2 : d_ 8 = false := h; rw [(by simp [hdep] : d_ 8 = true)] at h2; cases h2), fun _ h => (by simp [upd] at h), fun _ _ => hres, fun h => (by have h2 : d_ 9 = true := (F.q12 h).2.2.2.2.2.2.2.2.2.1; rw [show d_ 9 = false from hd_] at h2; cases h2)⟩⟩
    · obtain rfl := F.f0 (by simp [hdep])
      have HF : Hid (opn16F hb b10 n cf af col nm tx z S0 S1 S2 S3 S4 (upd d_ 10) (.pointer (some ⟨hb, 0, none⟩)) x59 x60 x61 x62 x63 x64 x65 x66 x67 (.pointer (some ⟨hb, 0, none⟩)) x69 u1 gb r w1) := ⟨F.q2, F.q3, F.q4, F.q7, F.q8, F.q9, fun _ => ⟨(show _ from (by simp [hdep] : d_ 0 = true)), (show _ from (by simp [hdep] : d_ 1 = true)), (show _ from (by simp [hdep] : d_ 2 = true)), (show _ from (by simp [hdep] : d_ 3 = true)), (show _ from (by simp [hdep] : d_ 4 = true)), (show _ from (by simp [hdep] : d_ 5 = true)), (show _ from (by simp [hdep] : d_ 6 = true)), (show _ from (by simp [hdep] : d_ 7 = true)), (show _ from (by simp [hdep] : d_ 8 = true)), (show _ from (by simp [hdep] : d_ 9 = true))⟩, fun h => ⟨(F.q11 h).1, (F.q11 h).2.1, (F.q11 h).2.2.1, (F.q11 h).2.2.2.1, (F.q11 h).2.2.2.2.1, (F.q11 h).2.2.2.2.2.1, (F.q11 h).2.2.2.2.2.2.1, (F.q11 h).2.2.2.2.2.2.2.1, (F.q11 h).2.2.2.2.2.2.2.2.1, (F.q11 h).2.2.2.2.2.2.2.2.2.1, rfl⟩, F.q12, F.f0, F.f1, F.f2, F.f3, F.f4, F.f5, F.f6, F.f7, F.f8, F.f9, fun _ => rfl, F.f11, F.st0, F.st1, F.st2, F.st3, F.st4⟩
      clear F
      go_simp
      exact HK.out _ _ ⟨_, _, _, _, _, _, _, _, _, _, _, _, _, _, _, rfl, HF.out⟩
    · obtain rfl := F.f10 (by simp [hdep])
      have HF : Hid (opn16F hb b10 n cf af col nm tx z S0 S1 S2 S3 S4 (upd d_ 11) x58 x59 x60 x61 x62 x63 x64 x65 x66 x67 (.pointer (some ⟨hb, 0, none⟩)) (.pointer (some ⟨hb, 3, none⟩)) u1 gb r w1) := ⟨F.q2, F.q3, F.q4, F.q7, F.q8, F.q9, F.q10, fun _ => ⟨(show _ from (by simp [hdep] : d_ 0 = true)), (show _ from (by simp [hdep] : d_ 1 = true)), (show _ from (by simp [hdep] : d_ 2 = true)), (show _ from (by simp [hdep] : d_ 3 = true)), (show _ from (by simp [hdep] : d_ 4 = true)), (show _ from (by simp [hdep] : d_ 5 = true)), (show _ from (by simp [hdep] : d_ 6 = true)), (show _ from (by simp [hdep] : d_ 7 = true)), (show _ from (by simp [hdep] : d_ 8 = true)), (show _ from (by simp [hdep] : d_ 9 = true)), (show _ from (by simp [hdep] : d_ 10 = true))⟩, fun h => ⟨(F.q12 h).1, (F.q12 h).2.1, (F.q12 h).2.2.1, (F.q12 h).2.2.2.1, (F.q12 h).2.2.2.2.1, (F.q12 h).2.2.2.2.2.1, (F.q12 h).2.2.2.2.2.2.1, (F.q12 h).2.2.2.2.2.2.2.1, (F.q12 h).2.2.2.2.2.2.2.2.1, (F.q12 h).2.2.2.2.2.2.2.2.2.1, rfl⟩, F.f0, F.f1, F.f2, F.f3, F.f4, F.f5, F.f6, F.f7, F.f8, F.f9, F.f10, fun _ => rfl, F.st0, F.st1, F.st2, F.st3, F.st4⟩
      clear F
      go_simp
      exact HK.out _ _ ⟨_, _, _, _, _, _, _, _, _, _, _, _, _, _, _, rfl, HF.out⟩
    · have hS := F.st3 (by simp [hdep] : d_ 9 = true) hd_
      obtain rfl := F.f9 (by simp [hdep])
      obtain rfl := F.f11 (by simp [hdep])
      obtain ⟨⟨ku0, kcell0⟩, kfr0, hres⟩ := kc12.out u1 gb r w1 hS
      have HF : Hid (opn16F hb b10 n cf af col nm tx z S0 S1 S2 S3 S4 (upd d_ 12) x58 x59 x60 x61 x62 x63 x64 x65 x66 (.slice r.1 (n + 1) r.2) x68 (.pointer (some ⟨hb, 3, none⟩)) u1 gb r (w1.setCell ⟨hb, 3, none⟩ (.slice r.1 (n + 1) r.2))) := ⟨F.q2, F.q3, F.q4, F.q7, F.q8, F.q9, F.q10, F.q11, fun _ => ⟨(show _ from (by simp [hdep] : d_ 0 = true)), (show _ from (by simp [hdep] : d_ 1 = true)), (show _ from (by simp [hdep] : d_ 2 = true)), (show _ from (by simp [hdep] : d_ 3 = true)), (show _ from (by simp [hdep] : d_ 4 = true)), (show _ from (by simp [hdep] : d_ 5 = true)), (show _ from (by simp [hdep] : d_ 6 = true)), (show _ from (by simp [hdep] : d_ 7 = true)), (show _ from (by simp [hdep] : d_ 8 = true)), (show _ from (by simp [hdep] : d_ 9 = true)), (show _ from (by simp [hdep] : d_ 11 = true))⟩, F.f0, F.f1, F.f2, F.f3, F.f4, F.f5, F.f6, F.f7, F.f8, F.f9, F.f10, F.f11, fun h => (by have h2 : d_ 7 = false := h; rw [(by simp [hdep] : d_ 7 = true)] at h2; cases h2), fun _ h => (by have h2 : d_ 8 = false := h; rw [(by simp [hdep] : d_ 8 = true)] at h2; cases h2), fun _ h => (by have h2 : d_ 9 = false := h; rw [(by simp [hdep] : d_ 9 = true)] at h2; cases h2), fun _ h => (by simp [upd] at h), fun _ => hres⟩
      clear F hS hres
      go_simp
      exact HK.out _ _ ⟨_, _, _, _, _, _, _, _, _, _, _, _, _, _, _, rfl, HF.out⟩
  · rintro d_ a_ w1 hall ⟨x58, x59, x60, x61, x62, x63, x64, x65, x66, x67, x68, x69, u1, gb, r, rfl, F⟩
    have hall' : ∀ k, k < 13 → d_ k = true := hall
    obtain rfl := F.f0 (hall' 0 (by decide))
    obtain rfl := F.f1 (hall' 1 (by decide))
    obtain rfl := F.f2 (hall' 2 (by decide))
    obtain rfl := F.f3 (hall' 3 (by decide))
    obtain rfl := F.f4 (hall' 4 (by decide))
    obtain rfl := F.f5 (hall' 5 (by decide))
    obtain rfl := F.f6 (hall' 6 (by decide))
    obtain rfl := F.f7 (hall' 7 (by decide))
    obtain rfl := F.f8 (hall' 8 (by decide))
    obtain rfl := F.f9 (hall' 9 (by decide))
    obtain rfl := F.f10 (hall' 10 (by decide))
    obtain rfl := F.f11 (hall' 11 (by decide))
    have hst := F.st4 (hall' 12 (by decide))
    exact HQ.out u1 gb r w1 hst
end Go.Proofs.YtbnhngfegnhaiaaGreatDoor
namespace Go.Proofs.YtbnhngfegnhaiaaGreatDoor
open Go.RowKit
set_option linter.unusedVariables false
set_option linter.unusedSimpArgs false
def setsV (l : List Nat) : List Value := l.map fun (x : Nat) => (.int .u64 (x : Int) : Value)
theorem infoS71 : (Tryz.prog.info? 71).map (fun i => (i.zero, i.size, i.bytes)) = some (some (.int .u64 0), 1, 8) := by kernel_rfl
theorem app_set {w : World} {base ms : Nat} {l : List Nat} {x : Nat} {q : Option Addr × Nat} (hl : l.length ≤ 100) (hb : base ≤ w.heap.size) (hx : w.ownsRow base 71 1 (.slice q.1 l.length q.2) l.length (setsV l)) (hm : w.heap[ms]? = some (.cells #[.int .u64 (x : Int)] 71 (0, 0))) :
    ∃ (q1 : Option Addr × Nat) (w' : World), (Builtin.append_ #[73, 73] 73 #[.slice q.1 l.length q.2, .slice (some ⟨ms, 0, none⟩) 1 1]).run Tryz.prog w = .ok (.slice q1.1 (l.length + 1) q1.2) w' ∧ w'.ownsRow base 71 1 (.slice q1.1 (l.length + 1) q1.2) (l.length + 1) (setsV (l ++ [x])) ∧ w.grownBy w' (Value.slice q.1 l.length q.2).ownBlock ∧
      ((Value.slice q1.1 (l.length + 1) q1.2).ownBlock = (Value.slice q.1 l.length q.2).ownBlock ∨ (Value.slice q1.1 (l.length + 1) q1.2).ownBlock = some w.heap.size) := by
  obtain ⟨i0, hi0, hz0, hz1, hz2⟩ := info_parts infoS71
  obtain ⟨v', w', hr, hn, hg, hor⟩ := append_rows_at (P := Tryz.prog) (w := w) base 73 73 71 i0 _ 1 8 Tryz.underlying73 hi0 hz0 hz1 hz2 rfl (by decide) _ l.length _ hx (some ⟨ms, 0, none⟩) 1 1 [.int .u64 (x : Int)] rfl
    (fun _ => ⟨_, rfl, fun j u hj => by
      have e : ((⟨ms, 0, none⟩ : Addr).add j) = ⟨ms, j, none⟩ := by unfold Addr.add; split <;> simp_all
      rw [e, cell_of_heap hm, ← hj]
      exact (List.getElem?_toArray (xs := ([.int .u64 (x : Int)] : List Value)) (i := j))⟩) (by intro u hu; rw [List.mem_singleton.1 hu]; rfl) (by simp [maxLen]; omega) (by omega) hb
  have e : setsV l ++ [.int .u64 (x : Int)] = setsV (l ++ [x]) := by simp [setsV]
  rw [e] at hn
  obtain ⟨a', c', rfl, _⟩ := own_slice hn
  exact ⟨(a', c'), w', hr, hn, hg, hor⟩
theorem own_sets {w : World} {base : Nat} {l : List Nat} {a : Option Addr} {cap : Nat} (h : w.ownsRow base 71 1 (.slice a l.length cap) l.length (setsV l)) : IsSets w a l := fun i hi => by
  obtain ⟨g, c, e, _, _, _, _, hc⟩ := own_cell h (by omega)
  cases e
  refine ⟨g, 0, rfl, ?_⟩
  rw [Nat.zero_add]
  exact hc i _ (by simp [gn, setsV, hi])
/-- What holds while boxes are opened. -/
structure OpnS (m : Mx) (ab : Option Addr) (cb : Nat) (ac : Option Addr) (cc b1 hb mb : Nat) (w0 : World) (L : List En) (F : List Nat) (qe qf : Option Addr × Nat) (V : World) : Prop where
  le : Below w0.heap.size w0 V
  bx : V.heap[b1]? = some (.cells (m.arr ab cb ac cc) 25 (0, 0))
  h : V.heap[hb]? = some (.cells #[.slice ab m.boxes.length cb, .slice ac m.cards.length cc, .slice qe.1 L.length qe.2, .slice qf.1 F.length qf.2, .map (some mb)] 76 (0, 0))
  mp : V.heap[mb]? = some (.map #[] 0)
  eo : V.ownsRow w0.heap.size 123 3 (.slice qe.1 L.length qe.2) L.length (ensL L)
  fo : V.ownsRow w0.heap.size 71 1 (.slice qf.1 F.length qf.2) F.length (setsV F)
  lo : w0.heap.size ≤ hb
theorem OpnS.below {m : Mx} {ab ac : Option Addr} {cb cc b1 hb mb : Nat} {w0 V V' : World} {L : List En} {F : List Nat} {qe qf : Option Addr × Nat} (h : OpnS m ab cb ac cc b1 hb mb w0 L F qe qf V) (hb' : Below V.heap.size V V') : OpnS m ab cb ac cc b1 hb mb w0 L F qe qf V' :=
  ⟨h.le.trans (hb'.mono h.le.size), (hb'.block _ (heap_lt h.bx)).trans h.bx, (hb'.block _ (heap_lt h.h)).trans h.h, (hb'.block _ (heap_lt h.mp)).trans h.mp, own_below h.eo hb', own_below h.fo hb', h.lo⟩
/-- An entry is gathered. -/
theorem OpnS.moreE {m : Mx} {ab ac : Option Addr} {cb cc b1 hb mb : Nat} {w0 V W2 : World} {L : List En} {F : List Nat} {qe qf : Option Addr × Nat} (h : OpnS m ab cb ac cc b1 hb mb w0 L F qe qf V) {x : En} (hl : L.length ≤ 99) (hW2 : W2 = V.drew) :
    ∃ (q1 : Option Addr × Nat) (w9 : World), (Builtin.append_ #[72, 72] 72 #[.slice qe.1 L.length qe.2, .slice (some ⟨V.heap.size, 0, none⟩) 1 1]).run Tryz.prog (W2.alloc (.cells x.arr 123)) = .ok (.slice q1.1 (L.length + 1) q1.2) w9 ∧ W2.heap.size = V.heap.size ∧
      (∀ (j : Nat) (c : Array Value) (ty : TypeId) (f : Nat × Nat), V.heap[j]? = some (.cells c ty f) → ty ≠ 123 → W2.heap[j]? = some (.cells c ty f) ∧ (W2.alloc (.cells x.arr 123)).heap[j]? = some (.cells c ty f) ∧ w9.heap[j]? = some (.cells c ty f)) ∧
      Below w0.heap.size w0 (w9.setCell ⟨hb, 2, none⟩ (.slice q1.1 (L.length + 1) q1.2)) ∧ OpnS m ab cb ac cc b1 hb mb w0 (L ++ [x]) F q1 qf (w9.setCell ⟨hb, 2, none⟩ (.slice q1.1 (L.length + 1) q1.2)) := by
  have hz : W2.heap.size = V.heap.size := by rw [hW2]; rfl
  have hs := h.le.size
  have hA0 := World.alloc_heap_new W2 (.cells x.arr 123)
  rw [hz] at hA0
  have hd : ∀ j : Nat, W2.heap[j]? = V.heap[j]? := fun j => by rw [hW2]; rfl
  have hbA : Below V.heap.size V (W2.alloc (.cells x.arr 123)) := by rw [hW2]; exact (Below.refl _ V).drew.alloc (Nat.le_refl _) _
  have hA := h.below hbA
  obtain ⟨q1, w9, hr, hn, hg, hor⟩ := app_en (t := 72) (e := 123) Tryz.underlying72 infoE123 (w := W2.alloc (.cells x.arr 123)) (base := w0.heap.size) (ms := V.heap.size) (l := L) (x := x) (q := qe) (by omega) hA.le.size hA.eo hA0
  have hne : ∀ (j : Nat) (c : Array Value) (ty : TypeId) (f : Nat × Nat), (W2.alloc (.cells x.arr 123)).heap[j]? = some (.cells c ty f) → ty ≠ 123 → (Value.slice qe.1 L.length qe.2).ownBlock ≠ some j := fun j c ty f hj hty e => by
    obtain ⟨_, cur, h2⟩ := own_ty' hA.eo e
    rw [hj] at h2
    simp only [Option.some.injEq, Obj.cells.injEq] at h2
    exact hty h2.2.1
  have h9 : ∀ (j : Nat) (c : Array Value) (ty : TypeId) (f : Nat × Nat), (W2.alloc (.cells x.arr 123)).heap[j]? = some (.cells c ty f) → ty ≠ 123 → w9.heap[j]? = some (.cells c ty f) := fun j c ty f hj hty => (hg.block _ (heap_lt hj) (fun e => hne j c ty f hj hty e.symm)).trans hj
  have hmb9 : w9.heap[mb]? = some (.map #[] 0) := (hg.block _ (heap_lt hA.mp) (fun e => by
    obtain ⟨_, cur, h2⟩ := own_ty' hA.eo e.symm
    rw [hA.mp] at h2
    cases h2)).trans hA.mp
  have hle9 : Below w0.heap.size w0 w9 := hA.le.grown hg hA.le.size (fun j e => (own_ty' hA.eo e).1)
  have hbx9 := h9 _ _ _ _ hA.bx (by decide)
  have hh9 := h9 _ _ _ _ hA.h (by decide)
  have hfo9 : w9.ownsRow w0.heap.size 71 1 (.slice qf.1 F.length qf.2) F.length (setsV F) := own_blocks hA.fo (fun g e => by
    obtain ⟨_, cur, h2⟩ := own_ty' hA.fo e
    exact (hg.block _ (heap_lt h2) (fun e2 => hne g _ _ _ h2 (by decide) e2.symm)))
  have hbne : ∀ (j : Nat) (c : Array Value) (ty : TypeId) (f : Nat × Nat), w9.heap[j]? = some (.cells c ty f) → ty ≠ 76 → j ≠ hb := fun j c ty f hj hty e => by
    rw [e, hh9] at hj
    simp only [Option.some.injEq, Obj.cells.injEq] at hj
    exact hty hj.2.1.symm
  have hleS : Below w0.heap.size w0 (w9.setCell ⟨hb, 2, none⟩ (.slice q1.1 (L.length + 1) q1.2)) := hle9.setCell (p := ⟨hb, 2, none⟩) h.lo _
  refine ⟨q1, w9, hr, hz, fun j c ty f hj hty => ⟨(hd j).trans hj, (hbA.block _ (heap_lt hj)).trans hj, h9 j c ty f ((hbA.block _ (heap_lt hj)).trans hj) hty⟩, hleS, ⟨hleS, ?_, ?_, ?_, ?_, ?_, h.lo⟩⟩
  · exact (Below.heap_setCell _ _ _ _ (hbne _ _ _ _ hbx9 (by decide))).trans hbx9
  · rw [List.length_append, List.length_singleton]
    exact (heap_setCell_at (k := 2) hh9 _).trans rfl
  · exact (Below.heap_setCell _ _ _ _ (fun e => by rw [e, hh9] at hmb9; cases hmb9)).trans hmb9
  · rw [List.length_append, List.length_singleton]
    refine own_blocks hn (fun g e => Below.heap_setCell _ _ _ _ ?_)
    obtain ⟨_, cur, h2⟩ := own_ty' hn e
    exact hbne _ _ _ _ h2 (by decide)
  · refine own_blocks hfo9 (fun g e => Below.heap_setCell _ _ _ _ ?_)
    obtain ⟨_, cur, h2⟩ := own_ty' hfo9 e
    exact hbne _ _ _ _ h2 (by decide)
/-- What a card fits is gathered. -/
theorem OpnS.moreF {m : Mx} {ab ac : Option Addr} {cb cc b1 hb mb : Nat} {w0 V : World} {L : List En} {F : List Nat} {qe qf : Option Addr × Nat} (h : OpnS m ab cb ac cc b1 hb mb w0 L F qe qf V) {x gb : Nat} (hl : F.length ≤ 99) (hgb : V.heap[gb]? = some (.cells #[.int .u64 (x : Int)] 71 (0, 0))) :
    ∃ (q1 : Option Addr × Nat) (w9 : World), (Builtin.append_ #[73, 73] 73 #[.slice qf.1 F.length qf.2, .slice (some ⟨gb, 0, none⟩) 1 1]).run Tryz.prog V = .ok (.slice q1.1 (F.length + 1) q1.2) w9 ∧
      w9.heap[hb]? = some (.cells #[.slice ab m.boxes.length cb, .slice ac m.cards.length cc, .slice qe.1 L.length qe.2, .slice qf.1 F.length qf.2, .map (some mb)] 76 (0, 0)) ∧
      OpnS m ab cb ac cc b1 hb mb w0 L (F ++ [x]) qe q1 (w9.setCell ⟨hb, 3, none⟩ (.slice q1.1 (F.length + 1) q1.2)) := by
  obtain ⟨q1, w9, hr, hn, hg, hor⟩ := app_set (w := V) (base := w0.heap.size) (ms := gb) (l := F) (x := x) (q := qf) (by omega) h.le.size h.fo hgb
  have hne : ∀ (j : Nat) (c : Array Value) (ty : TypeId) (f : Nat × Nat), V.heap[j]? = some (.cells c ty f) → ty ≠ 71 → (Value.slice qf.1 F.length qf.2).ownBlock ≠ some j := fun j c ty f hj hty e => by
    obtain ⟨_, cur, h2⟩ := own_ty' h.fo e
    rw [hj] at h2
    simp only [Option.some.injEq, Obj.cells.injEq] at h2
    exact hty h2.2.1
  have h9 : ∀ (j : Nat) (c : Array Value) (ty : TypeId) (f : Nat × Nat), V.heap[j]? = some (.cells c ty f) → ty ≠ 71 → w9.heap[j]? = some (.cells c ty f) := fun j c ty f hj hty => (hg.block _ (heap_lt hj) (fun e => hne j c ty f hj hty e.symm)).trans hj
  have hmb9 : w9.heap[mb]? = some (.map #[] 0) := (hg.block _ (heap_lt h.mp) (fun e => by
    obtain ⟨_, cur, h2⟩ := own_ty' h.fo e.symm
    rw [h.mp] at h2
    cases h2)).trans h.mp
  have hle9 : Below w0.heap.size w0 w9 := h.le.grown hg h.le.size (fun j e => (own_ty' h.fo e).1)
  have hbx9 := h9 _ _ _ _ h.bx (by decide)
  have hh9 := h9 _ _ _ _ h.h (by decide)
  have heo9 : w9.ownsRow w0.heap.size 123 3 (.slice qe.1 L.length qe.2) L.length (ensL L) := own_blocks h.eo (fun g e => by
    obtain ⟨_, cur, h2⟩ := own_ty' h.eo e
    exact (hg.block _ (heap_lt h2) (fun e2 => hne g _ _ _ h2 (by decide) e2.symm)))
  have hbne : ∀ (j : Nat) (c : Array Value) (ty : TypeId) (f : Nat × Nat), w9.heap[j]? = some (.cells c ty f) → ty ≠ 76 → j ≠ hb := fun j c ty f hj hty e => by
    rw [e, hh9] at hj
    simp only [Option.some.injEq, Obj.cells.injEq] at hj
    exact hty hj.2.1.symm
  have hleS : Below w0.heap.size w0 (w9.setCell ⟨hb, 3, none⟩ (.slice q1.1 (F.length + 1) q1.2)) := hle9.setCell (p := ⟨hb, 3, none⟩) h.lo _
  refine ⟨q1, w9, hr, hh9, ⟨hleS, ?_, ?_, ?_, ?_, ?_, h.lo⟩⟩
  · exact (Below.heap_setCell _ _ _ _ (hbne _ _ _ _ hbx9 (by decide))).trans hbx9
  · rw [List.length_append, List.length_singleton]
    exact (heap_setCell_at (k := 3) hh9 _).trans rfl
  · exact (Below.heap_setCell _ _ _ _ (fun e => by rw [e, hh9] at hmb9; cases hmb9)).trans hmb9
  · refine own_blocks heo9 (fun g e => Below.heap_setCell _ _ _ _ ?_)
    obtain ⟨_, cur, h2⟩ := own_ty' heo9 e
    exact hbne _ _ _ _ h2 (by decide)
  · rw [List.length_append, List.length_singleton]
    refine own_blocks hn (fun g e => Below.heap_setCell _ _ _ _ ?_)
    obtain ⟨_, cur, h2⟩ := own_ty' hn e
    exact hbne _ _ _ _ h2 (by decide)
end Go.Proofs.YtbnhngfegnhaiaaGreatDoor
namespace Go.Proofs.YtbnhngfegnhaiaaGreatDoor
open Go.RowKit
set_option linter.unusedVariables false
set_option linter.unusedSimpArgs false
/-- A heap that is looked at. -/
structure Hp (m : Mx) (ab : Option Addr) (cb : Nat) (ac : Option Addr) (cc E : Nat) (fs : List Nat) (hb mb : Nat) (ae : Option Addr) (ce : Nat) (af : Option Addr) (cf : Nat) (w : World) : Prop where
  h : w.heap[hb]? = some (.cells #[.slice ab m.boxes.length cb, .slice ac m.cards.length cc, .slice ae E ce, .slice af fs.length cf, .map (some mb)] 76 (0, 0))
  ft : IsSets w af fs
theorem Hp.mono {m : Mx} {ab ac ae af : Option Addr} {cb cc E hb mb ce cf : Nat} {fs : List Nat} {w w' : World} (h : Hp m ab cb ac cc E fs hb mb ae ce af cf w) (hb' : Below w.heap.size w w') : Hp m ab cb ac cc E fs hb mb ae ce af cf w' :=
  ⟨(hb'.block _ (heap_lt h.h)).trans h.h, h.ft.mono hb'⟩
/-- What opening tells. -/
def OpenP (m : Mx) (ab : Option Addr) (cb : Nat) (ac : Option Addr) (cc : Nat) (w : World) (e : Ending) (w' : World) : Prop :=
  (∃ (hb mb : Nat) (ae : Option Addr) (ce : Nat) (af : Option Addr) (cf : Nat), e = .returned (.tuple #[.pointer (some ⟨hb, 0, none⟩), .int .i64 0]) ∧ Hp m ab cb ac cc m.ents.length m.fits hb mb ae ce af cf w' ∧ w'.heap[mb]? = some (.map #[] 0) ∧ w.heap.size ≤ mb ∧ w.heap.size ≤ hb) ∧ Below w.heap.size w w'
theorem box_small {b : Bx} (h : b.ok) {n : Nat} (hn : n ≤ b.titles.length) : ∀ x ∈ boxE b n, x.number.size ≤ 1000 ∧ x.title.size ≤ 1000 := fun x hx => by
  unfold boxE at hx
  obtain ⟨i, hi, rfl⟩ := List.mem_map.1 hx
  have hi := List.mem_range.1 hi
  refine ⟨?_, ?_⟩
  · show (numT (i + 1)).size ≤ 1000
    unfold numT
    split
    · show 1 ≤ 1000; omega
    · show 2 ≤ 1000; omega
  · have := (h.2.2 i (by omega)).2.1
    show (gs b.titles i).size ≤ 1000
    omega
theorem ents_small {m : Mx} (h : m.Ok) : ∀ n, n ≤ m.boxes.length → ∀ x ∈ entsE m.boxes n, x.number.size ≤ 1000 ∧ x.title.size ≤ 1000
  | 0, _, x, hx => by cases hx
  | n + 1, hn, x, hx => by
    unfold entsE at hx
    rcases List.mem_append.1 hx with hx | hx
    · exact ents_small h n (by omega) x hx
    · exact box_small (h.bs n (by omega)) (Nat.le_refl _) x hx
theorem ents_at {m : Mx} (h : m.Ok) : ∀ i, i < m.ents.length → (ge m.ents i).number.size ≤ 1000 ∧ (ge m.ents i).title.size ≤ 1000 := fun i hi => by
  refine ents_small h _ (Nat.le_refl _) _ ?_
  show ge m.ents i ∈ m.ents
  unfold ge
  rw [List.getD_eq_getElem?_getD, List.getElem?_eq_getElem hi]
  exact List.getElem_mem hi
theorem take_fit {m : Mx} {k : Nat} (h : k < m.cards.length) : (m.cards.take (k + 1)).map (fitE m.ents) = (m.cards.take k).map (fitE m.ents) ++ [fitE m.ents (gc m.cards k)] := by
  rw [List.take_succ_eq_append_getElem h, List.map_append]
  simp [gc, h]
noncomputable def opn13C : Code := (Tryz.f36.body.bind (fromRegion 13)).getD .skip
set_option maxRecDepth 100000 in
set_option maxHeartbeats 16000000 in
theorem opn13 {m : Mx} {ab ac : Option Addr} {cb cc b1 hb mb : Nat} {w0 W : World} {qe : Option Addr × Nat} (hm : m.Ok) (h2 : IsTns w0 ac m.cards) (hS : OpnS m ab cb ac cc b1 hb mb w0 m.ents [] qe (none, 0) W) (hmb : w0.heap.size ≤ mb) {s0 s2 s5 s6 s7 s8 s9 s10 s11 s12 s13 s14 s15 s16 s17 s18 s19 s20 s21 s22 s23 s24 s25 s26 s27 s28 s29 s30 s31 s32 s33 s34 s35 s36 s37 s38 s39 s40 s41 s42 s43 s44 s45 s46 s47 s48 s49 s50 s51 s52 s53 s54 s55 s56 s57 s58 s59 s60 s61 s62 s63 s64 s65 s66 s67 s68 s69 s70 s71 : Value} :
    Code.wp Tryz.prog opn13C (bodyPost Tryz.prog Tryz.f36 fun e w' => OpenP m ab cb ac cc w0 e w') { tmps := List.toArray (s0 :: .pointer (some ⟨b1, 0, none⟩) :: s2 :: .int .i64 (0) :: .pointer (some ⟨hb, 0, none⟩) :: s5 :: s6 :: s7 :: s8 :: s9 :: s10 :: s11 :: s12 :: s13 :: s14 :: s15 :: s16 :: s17 :: s18 :: s19 :: s20 :: s21 :: s22 :: s23 :: s24 :: s25 :: s26 :: s27 :: s28 :: s29 :: s30 :: s31 :: s32 :: s33 :: s34 :: s35 :: s36 :: s37 :: s38 :: s39 :: s40 :: s41 :: s42 :: s43 :: s44 :: s45 :: s46 :: s47 :: s48 :: s49 :: s50 :: s51 :: s52 :: s53 :: s54 :: s55 :: s56 :: s57 :: s58 :: s59 :: s60 :: s61 :: s62 :: s63 :: s64 :: s65 :: s66 :: s67 :: s68 :: s69 :: s70 :: s71 :: []), defers := [] } W := by
  have HM := Lib.hid (And.intro hm (And.intro h2 (And.intro hmb (ents_at hm))))
  have HS := Lib.hid hS
  have hn2 : (m.cards.length : Int) ≤ 8 := by have := hm.nc; omega
  have HE12 : Hid (m.ents.length ≤ 12) := by rw [Hid]; have := hm.ne; unfold Mx.ents; rw [ents_len]; omega
  clear hm h2 hS hmb
  conv => arg 2; whnf
  refine wp_seq_hid ?_
  intro K13 HK13
  have m1 : W.cell? ⟨b1, 1, none⟩ = some (.slice ac m.cards.length cc) := by rw [cell_of_heap HS.out.bx]; rfl
  go_wp2_with fail
  clear m1
  go_loopw [54] (fun i wr => ∃ (k : Nat) (q : Option Addr × Nat), k ≤ m.cards.length ∧ i = .int .i64 (k : Int) ∧ Hid (OpnS m ab cb ac cc b1 hb mb w0 m.ents ((m.cards.take k).map (fitE m.ents)) qe q wr)) (fun i _ => m.cards.length - (intOf i).toNat)
  case atStart => exact ⟨0, (none, 0), Nat.zero_le _, rfl, HS.out⟩
  case round =>
    obtain ⟨k, q, hk, rfl, HW⟩ := hrel
    by_cases hlt : k < m.cards.length
    · obtain ⟨b, off, rfl, hc⟩ := HM.out.2.1 k hlt
      have HC := Lib.hid hc
      have c0 := cell_stays HW.out.le hc.c0
      have c1 := cell_stays HW.out.le hc.c1
      have c2 := cell_stays HW.out.le hc.c2
      clear hc
      have HA := Lib.hid (And.intro (World.alloc_heap_new wr (.cells #[.int .i64 (gc m.cards k).colour, .string (gc m.cards k).number, .string (gc m.cards k).text] 58)) (alloc_below wr (.cells #[.int .i64 (gc m.cards k).colour, .string (gc m.cards k).number, .string (gc m.cards k).text] 58)))
      go_upto_region 16 with fail
      clear c0 c1 c2
      revert HA
      generalize wr.alloc (.cells #[.int .i64 (gc m.cards k).colour, .string (gc m.cards k).number, .string (gc m.cards k).text] 58) = w1
      generalize hb10 : wr.heap.size = b10
      intro HA
      have HW1 : Hid (OpnS m ab cb (some ⟨b, off, none⟩) cc b1 hb mb w0 m.ents ((m.cards.take k).map (fitE m.ents)) qe q w1) := HW.out.below (by rw [hb10]; exact HA.out.2)
      clear hb10
      have hlen : ((m.cards.take k).map (fitE m.ents)).length = k := by simp; omega
      have HLEN := Lib.hid hlen
      clear hlen
      refine wpIn_wide.1 (opn16 (hb := hb) (b10 := b10) (n := k) (cf := q.2) (af := q.1) (col := (gc m.cards k).colour) (nm := (gc m.cards k).number) (tx := (gc m.cards k).text) (z := fitE m.ents (gc m.cards k))
        (S0 := fun v => Below w1.heap.size w1 v) (S1 := fun _ v => Below w1.heap.size w1 v) (S2 := fun _ g v => Below w1.heap.size w1 v ∧ v.heap[g]? = some (.cells #[.int .u64 (fitE m.ents (gc m.cards k) : Int)] 71 (0, 0)))
        (S3 := fun _ _ r v => v.heap[hb]? = some (.cells #[.slice ab m.boxes.length cb, .slice (some ⟨b, off, none⟩) m.cards.length cc, .slice qe.1 m.ents.length qe.2, .slice q.1 k q.2, .map (some mb)] 76 (0, 0)) ∧ OpnS m ab cb (some ⟨b, off, none⟩) cc b1 hb mb w0 m.ents ((m.cards.take (k + 1)).map (fitE m.ents)) qe r (v.setCell ⟨hb, 3, none⟩ (.slice r.1 (k + 1) r.2)))
        (S4 := fun _ _ r v => OpnS m ab cb (some ⟨b, off, none⟩) cc b1 hb mb w0 m.ents ((m.cards.take (k + 1)).map (fitE m.ents)) qe r v) ?h0 ?l4 ?l6 ?c7 ?c8 ?c9 ?c12 ?hQ)
      case h0 => exact (Below.refl _ _).drew
      case l4 =>
        intro u g v h
        have hv : Below w1.heap.size w1 v := by rcases h with h | h | h <;> first | exact h | exact h.1
        have := (HW1.out.below hv).h
        rw [HLEN.out] at this
        exact (cell_of_heap this).trans rfl
      case l6 => exact fun v h => ⟨(cell_of_heap ((h.block _ (heap_lt HA.out.1)).trans HA.out.1)).trans rfl, (cell_of_heap ((h.block _ (heap_lt HA.out.1)).trans HA.out.1)).trans rfl, (cell_of_heap ((h.block _ (heap_lt HA.out.1)).trans HA.out.1)).trans rfl⟩
      case c7 =>
        intro v h
        have hv := HW1.out.below h
        have hok := HM.out.1.cs k hlt
        refine (fit56 hv.h (own_ens hv.eo) HE12.out HM.out.2.2.2 (by have := hok.2.2.1.1; omega) (by have := hok.2.2.2.1; omega)).mono ?_
        rintro e v' ⟨he, hb'⟩
        exact ⟨(), he, h.trans (hb'.mono h.size)⟩
      case c8 => exact fun u v h => ⟨h.alloc h.size _, World.alloc_heap_new v _⟩
      case c9 =>
        intro u g v h
        have hv := HW1.out.below h.1
        obtain ⟨q1, w9, hr, h9, hS9⟩ := hv.moreF (x := fitE m.ents (gc m.cards k)) (gb := g) (by rw [HLEN.out]; omega) h.2
        rw [HLEN.out] at hr h9
        rw [HLEN.out, ← take_fit hlt] at hS9
        exact ⟨q1, w9, hr, h9, hS9⟩
      case c12 =>
        intro u g r v h
        exact ⟨⟨_, (cell_of_heap h.1).trans rfl⟩, frozen_of_heap h.1, h.2⟩
      intro u g r w2 hS2
      have HS2 := Lib.hid hS2
      clear hS2
      rename_i K16 hK16
      refine hK16 _ _ ?_
      clear hK16 K16
      go_wp2_with fail
      go_roundw
      case rel => exact ⟨k + 1, r, by omega, by go_num, HS2.out⟩
      case measure => simp [intOf]; omega
    · obtain rfl : k = m.cards.length := by omega
      go_wp2_with fail
      refine HK13.out _ _ ?_
      go_wp2_with fail
      have hf : (m.cards.take m.cards.length).map (fitE m.ents) = m.fits := by rw [List.take_length]; rfl
      have hO := HW.out
      rw [hf] at hO
      refine bodyPost_ret (results_tmp2 rfl _ _ _) rfl ⟨⟨hb, mb, qe.1, qe.2, q.1, q.2, rfl, ⟨hO.h, own_sets hO.fo⟩, hO.mp, HM.out.2.2.1, hO.lo⟩, hO.le⟩
end Go.Proofs.YtbnhngfegnhaiaaGreatDoor
namespace Go.Proofs.YtbnhngfegnhaiaaGreatDoor
open Go.RowKit
set_option linter.unusedVariables false
set_option linter.unusedSimpArgs false
theorem makeMap74 (w : World) : (Instr.makeMap 74 none).run Tryz.prog w = .ok (.map (some w.heap.size)) (w.alloc (.map #[] 0)) := by kernel_rfl
set_option maxRecDepth 100000 in
set_option maxHeartbeats 16000000 in
theorem open36 {m : Mx} {ab ac : Option Addr} {cb cc : Nat} {w : World} (hm : m.Ok) (h1 : IsBxs w ab m.boxes) (h2 : IsTns w ac m.cards) :
    Calls Tryz.prog 36 #[m.v ab cb ac cc] w fun e w' => OpenP m ab cb ac cc w e w' := by
  have hab := alloc_below w (.cells (m.arr ab cb ac cc) 25)
  have HX := Lib.hid (And.intro (World.alloc_heap_new w (.cells (m.arr ab cb ac cc) 25)) (And.intro hab (And.intro (h1.mono hab) (h2.mono hab))))
  have HM := Lib.hid (And.intro hm (And.intro h1 h2))
  have hn1 : (m.boxes.length : Int) ≤ 4 := by have := hm.nb; omega
  have hmk := makeMap74
  clear hab hm h1 h2
  go_enter Tryz.func36, Tryz.ntmps36
  refine wp_seq_hid ?_
  intro K0 HK0
  go_wp2_with fail
  refine HK0.out _ _ ?_
  clear HK0 K0
  revert HX
  generalize w.alloc (.cells (m.arr ab cb ac cc) 25) = w1
  generalize hb1 : w.heap.size = b1
  intro HX
  have HE := Lib.hid hb1
  have HL : Hid (Below w.heap.size w w1) := by rw [Hid, hb1]; exact HX.out.2.1
  clear hb1
  have m0 : w1.cell? ⟨b1, 0, none⟩ = some (.slice ab m.boxes.length cb) := by rw [cell_of_heap HX.out.1]; rfl
  have m1 : w1.cell? ⟨b1, 1, none⟩ = some (.slice ac m.cards.length cc) := by rw [cell_of_heap HX.out.1]; rfl
  have HCM := Lib.hid (mixed54 (cb := cb) (cc := cc) HM.out.1 HX.out.2.2.1 HX.out.2.2.2)
  refine wp_seq_hid ?_
  intro K1 HK1
  go_wp2_with fail
  refine HCM.out.mono ?_
  clear HCM m0 m1
  rintro e w2 ⟨rfl, hb⟩
  have HB2 := Lib.hid (And.intro ((hb.block _ (heap_lt HX.out.1)).trans HX.out.1) (HL.out.trans (hb.mono HL.out.size)))
  clear hb HX HL
  go_wp2_with fail
  refine HK1.out _ _ ?_
  clear HK1 K1
  have m0 : w2.cell? ⟨b1, 0, none⟩ = some (.slice ab m.boxes.length cb) := by rw [cell_of_heap HB2.out.1]; rfl
  have m1 : w2.cell? ⟨b1, 1, none⟩ = some (.slice ac m.cards.length cc) := by rw [cell_of_heap HB2.out.1]; rfl
  have hz1 : (w2.alloc (.map #[] 0)).heap.size = w2.heap.size + 1 := World.size_alloc _ _
  have hA1 := World.alloc_heap_new w2 (.map #[] 0)
  have hA2 := World.alloc_heap_new (w2.alloc (.map #[] 0)) (.cells #[.slice ab m.boxes.length cb, .slice ac m.cards.length cc, .slice none 0 0, .slice none 0 0, .map (some w2.heap.size)] 76)
  rw [hz1] at hA2
  have hbb1 := alloc_below w2 (.map #[] 0)
  have hbb2 := alloc_below (w2.alloc (.map #[] 0)) (.cells #[.slice ab m.boxes.length cb, .slice ac m.cards.length cc, .slice none 0 0, .slice none 0 0, .map (some w2.heap.size)] 76)
  have hbb : Below w2.heap.size w2 ((w2.alloc (.map #[] 0)).alloc (.cells #[.slice ab m.boxes.length cb, .slice ac m.cards.length cc, .slice none 0 0, .slice none 0 0, .map (some w2.heap.size)] 76)) := hbb1.trans (hbb2.mono hbb1.size)
  have hlow := HB2.out.2.size
  have HO : Hid (OpnS m ab cb ac cc b1 (w2.heap.size + 1) w2.heap.size w [] [] (none, 0) (none, 0) ((w2.alloc (.map #[] 0)).alloc (.cells #[.slice ab m.boxes.length cb, .slice ac m.cards.length cc, .slice none 0 0, .slice none 0 0, .map (some w2.heap.size)] 76))) :=
    ⟨HB2.out.2.trans (hbb.mono HB2.out.2.size), (hbb.block _ (heap_lt HB2.out.1)).trans HB2.out.1, hA2, (hbb2.block _ (by omega)).trans hA1, World.ownsRow_nil _ _ _ _, World.ownsRow_nil _ _ _ _, by omega⟩
  have HMB : Hid (w.heap.size ≤ w2.heap.size) := hlow
  clear hz1 hA1 hA2 hbb1 hbb2 hbb hlow
  refine wp_seq_hid ?_
  intro K3 HK3
  go_wp2_with fail
  refine HK3.out _ _ ?_
  clear HK3 K3 m0 m1
  revert HO HMB
  generalize (w2.alloc (.map #[] 0)).alloc (.cells #[.slice ab m.boxes.length cb, .slice ac m.cards.length cc, .slice none 0 0, .slice none 0 0, .map (some w2.heap.size)] 76) = w3
  generalize hhb : w2.heap.size + 1 = hb
  generalize hmb : w2.heap.size = mb
  intro HO HMB
  clear hhb hmb HB2 hmk
  refine wp_seq_hid ?_
  intro K4 HK4
  have m0 : w3.cell? ⟨b1, 0, none⟩ = some (.slice ab m.boxes.length cb) := by rw [cell_of_heap HO.out.bx]; rfl
  go_wp2_with fail
  clear m0
  go_loopw [21] (fun i wo => ∃ (k : Nat) (q : Option Addr × Nat), k ≤ m.boxes.length ∧ i = .int .i64 (k : Int) ∧ Hid (OpnS m ab cb ac cc b1 hb mb w (entsE m.boxes k) [] q (none, 0) wo)) (fun i _ => m.boxes.length - (intOf i).toNat)
  case atStart => exact ⟨0, (none, 0), Nat.zero_le _, rfl, HO.out⟩
  case round =>
    obtain ⟨i, q, hi, rfl, HW⟩ := hrel
    rename World => wo
    have HMBY := Lib.hid (many_at HM.out.1 hi)
    by_cases hlt : i < m.boxes.length
    · have HM1 := Lib.hid (many_at HM.out.1 (k := i + 1) (by omega))
      obtain ⟨b, off, rfl, c0, t, ct, c1, hst⟩ := HM.out.2.1 i hlt
      have HST := Lib.hid hst
      have HNX : Hid (manyB m.boxes (i + 1) = manyB m.boxes i + (gb m.boxes i).titles.length) := rfl
      have hl12 : (gb m.boxes i).titles.length ≤ 12 := by have := HM1.out; rw [HNX.out] at this; omega
      have c0 := cell_stays HW.out.le c0
      have c1 := cell_stays HW.out.le c1
      have HA := Lib.hid (And.intro (World.alloc_heap_new wo (.cells #[.int .i64 (gb m.boxes i).colour, .slice t (gb m.boxes i).titles.length ct] 54)) (alloc_below wo (.cells #[.int .i64 (gb m.boxes i).colour, .slice t (gb m.boxes i).titles.length ct] 54)))
      clear hst
      go_upto_region 7 with fail
      clear c0 c1
      revert HA
      generalize wo.alloc (.cells #[.int .i64 (gb m.boxes i).colour, .slice t (gb m.boxes i).titles.length ct] 54) = w4
      generalize hb6 : wo.heap.size = b6
      intro HA
      have HW4 : Hid (OpnS m (some ⟨b, off, none⟩) cb ac cc b1 hb mb w (entsE m.boxes i) [] q (none, 0) w4) := HW.out.below (by rw [hb6]; exact HA.out.2)
      clear hb6
      have m1 : w4.cell? ⟨b6, 1, none⟩ = some (.slice t (gb m.boxes i).titles.length ct) := by rw [cell_of_heap HA.out.1]; rfl
      go_wp2_with fail
      clear m1
      go_loopw [28] (fun j wr => ∃ (k : Nat) (q : Option Addr × Nat), k ≤ (gb m.boxes i).titles.length ∧ j = .int .i64 (k : Int) ∧ Hid (OpnS m (some ⟨b, off, none⟩) cb ac cc b1 hb mb w (entsE m.boxes i ++ boxE (gb m.boxes i) k) [] q (none, 0) wr ∧ wr.heap[b6]? = some (.cells #[.int .i64 (gb m.boxes i).colour, .slice t (gb m.boxes i).titles.length ct] 54 (0, 0)))) (fun j _ => (gb m.boxes i).titles.length - (intOf j).toNat)
      case atStart => exact ⟨0, q, Nat.zero_le _, rfl, by rw [show boxE (gb m.boxes i) 0 = [] from rfl, List.append_nil]; exact HW4.out, HA.out.1⟩
      case round =>
        obtain ⟨k, q', hk, rfl, HV⟩ := hrel
        by_cases hkt : k < (gb m.boxes i).titles.length
        · obtain ⟨bt2, ot2, rfl, c2⟩ := HST.out k hkt
          have c2 := cell_stays HV.out.1.le c2
          go_upto_region 10 with fail
          clear c2
          have hpl := ents_part m.boxes i k
          have hall : (entsE m.boxes i ++ boxE (gb m.boxes i) k).length ≤ 99 := by rw [hpl]; have := HMBY.out; omega
          obtain ⟨W2, hW2⟩ : ∃ W2, W2 = wr.drew := ⟨_, rfl⟩
          obtain ⟨q1, w9, hrun, hz2, hoth, hbl, hS9⟩ := HV.out.1.moreE (x := ⟨(gb m.boxes i).colour, numT (k + 1), gs (gb m.boxes i).titles k⟩) hall hW2
          obtain ⟨x1, x2, x3⟩ := hoth hb _ _ _ HV.out.1.h (by decide)
          obtain ⟨y1, y2, y3⟩ := hoth b6 _ _ _ HV.out.2 (by decide)
          have hb6S : (w9.setCell ⟨hb, 2, none⟩ (.slice q1.1 ((entsE m.boxes i ++ boxE (gb m.boxes i) k).length + 1) q1.2)).heap[b6]? = some (.cells #[.int .i64 (gb m.boxes i).colour, .slice (some ⟨bt2, ot2, none⟩) (gb m.boxes i).titles.length ct] 54 (0, 0)) := (Below.heap_setCell _ _ _ _ (fun e => by
            rw [e, x3] at y3
            simp only [Option.some.injEq, Obj.cells.injEq] at y3
            exact absurd y3.2.1 (by decide))).trans y3
          rw [← entsE_step] at hS9
          have HG := Lib.hid (And.intro hrun (And.intro hS9 (And.intro hb6S (And.intro hz2 (And.intro hW2 (And.intro x1 (And.intro x2 (And.intro x3 (And.intro y1 (And.intro y2 y3))))))))))
          clear hrun hS9 hb6S hz2 hW2 x1 x2 x3 y1 y2 y3 hoth hbl
          revert HG
          rw [hpl]
          intro HG
          clear hpl hall
          refine wpIn_wide.1 (opn10 (hb := hb) (b6 := b6) (k := k) (k1 := k + 1) (n := manyB m.boxes i + k) (cw := q'.2) (cw1 := q1.2) (N := wr.heap.size) (g := q'.1) (g1 := q1.1) (col := (gb m.boxes i).colour) (sn := numT (k + 1)) (st := gs (gb m.boxes i).titles k)
            (P0 := fun v => v = W2) (P1 := fun v => v = W2.alloc (.cells (En.arr ⟨(gb m.boxes i).colour, numT (k + 1), gs (gb m.boxes i).titles k⟩) 123)) (P2 := fun v => v = w9) (P3 := fun v => v = w9.setCell ⟨hb, 2, none⟩ (.slice q1.1 (manyB m.boxes i + k + 1) q1.2)) ?hk HG.out.2.2.2.2.1.symm ?l4 ?l6 ?c9 ?a12 ?r13 ?s16 ?hQ)
          case hk => exact (IntWalk.i64_in _ (by omega)).trans (by omega)
          case l4 =>
            rintro v (rfl | rfl)
            · exact (cell_of_heap HG.out.2.2.2.2.2.1).trans rfl
            · exact (cell_of_heap HG.out.2.2.2.2.2.2.1).trans rfl
          case l6 =>
            rintro v (rfl | rfl | rfl | rfl)
            · exact (cell_of_heap HG.out.2.2.2.2.2.2.2.2.1).trans rfl
            · exact (cell_of_heap HG.out.2.2.2.2.2.2.2.2.2.1).trans rfl
            · exact (cell_of_heap HG.out.2.2.2.2.2.2.2.2.2.2).trans rfl
            · exact (cell_of_heap HG.out.2.2.1).trans rfl
          case c9 => exact fun v h => itoa55 ⟨by omega, by omega⟩ v
          case a12 => rintro v rfl; exact ⟨HG.out.2.2.2.1, rfl⟩
          case r13 => rintro v rfl; exact ⟨w9, HG.out.1, rfl⟩
          case s16 => rintro v rfl; exact ⟨⟨_, (cell_of_heap HG.out.2.2.2.2.2.2.2.1).trans rfl⟩, frozen_of_heap HG.out.2.2.2.2.2.2.2.1, rfl⟩
          intro w' hw'
          have HTN : Hid (OpnS m (some ⟨b, off, none⟩) cb ac cc b1 hb mb w (entsE m.boxes i ++ boxE (gb m.boxes i) (k + 1)) [] q1 (none, 0) w' ∧ w'.heap[b6]? = some (.cells #[.int .i64 (gb m.boxes i).colour, .slice (some ⟨bt2, ot2, none⟩) (gb m.boxes i).titles.length ct] 54 (0, 0))) := by rw [hw']; exact ⟨HG.out.2.1, HG.out.2.2.1⟩
          clear hw' HG
          rename_i K10 hK10
          refine hK10 _ _ ?_
          clear hK10 K10
          go_wp2_with fail
          go_roundw
          case rel => exact ⟨k + 1, q1, by omega, by go_num, HTN.out⟩
          case measure => simp [intOf]; omega
        · obtain rfl : k = (gb m.boxes i).titles.length := by omega
          go_wp2_with fail
          go_roundw
          case rel => exact ⟨i + 1, q', by omega, by go_num, HV.out.1⟩
          case measure => simp [intOf]; omega
    · obtain rfl : i = m.boxes.length := by omega
      go_wp2_with fail
      refine HK4.out _ _ ?_
      exact opn13 HM.out.1 HM.out.2.2 HW.out HMB.out
end Go.Proofs.YtbnhngfegnhaiaaGreatDoor
namespace Go.Proofs.YtbnhngfegnhaiaaGreatDoor
open Go.RowKit
set_option linter.unusedVariables false
set_option linter.unusedSimpArgs false
theorem tsize : Tryz.prog.types.size = 191 := by kernel_rfl
theorem keyed103 : Maps.Keyed Tryz.prog 103 :=
  Maps.Keyed.of_law (deep_law_laid laidOut (m := 3) (by decide) (by rw [tsize]; decide) (by kernel_rfl) (by kernel_rfl))
theorem keyType103 : Tryz.prog.keyType 103 = true := by kernel_rfl
theorem cells103 : Tryz.prog.cellsOf 103 = 2 := by kernel_rfl
theorem cells71 : Tryz.prog.cellsOf 71 = 1 := by kernel_rfl
theorem lits103 (n : Nat) (a c : Int) (ha : (Lit.int .i64 a).wf = true) (hc : (Lit.int .u64 c).wf = true) :
    ∃ l, Tryz.prog.keyLits (n + 1 + 1) 103 [.int .i64 a, .int .u64 c] = some l := by
  simp [Program.keyLits, Tryz.underlying103, Tryz.underlying3, Tryz.underlying71, cells103, cells3, cells71, ha, hc]
theorem key103 (a c : Int) (ha : (Lit.int .i64 a).wf = true) (hc : (Lit.int .u64 c).wf = true) : ∃ l, keyOf Tryz.prog 103 (.agg #[.int .i64 a, .int .u64 c]) = some l := by
  obtain ⟨l, hl⟩ := lits103 190 a c ha hc
  have hl' : Tryz.prog.keyLits 192 103 [.int .i64 a, .int .u64 c] = some l := hl
  refine ⟨.string (keyBytes l), ?_⟩
  simp [keyOf, Tryz.underlying103, keyType103, Value.formed, cells103, Value.cells, tsize, hl']
theorem wf_i64b {x : Int} (h0 : -9223372036854775808 ≤ x) (h1 : x ≤ 9223372036854775807) : (Lit.int .i64 x).wf = true := by
  have e1 : IntKind.i64.min = -9223372036854775808 := by decide
  have e2 : IntKind.i64.max = 9223372036854775807 := by decide
  simp [Lit.wf, e1, e2]
  omega
theorem wf_u64b {x : Int} (h0 : 0 ≤ x) (h1 : x ≤ 18446744073709551615) : (Lit.int .u64 x).wf = true := by
  have e1 : IntKind.u64.min = 0 := by decide
  have e2 : IntKind.u64.max = 18446744073709551615 := by decide
  simp [Lit.wf, e1, e2]
  omega
abbrev stH (s : Nat × Nat) : Value := .agg #[.int .i64 (s.1 : Int), .int .u64 (s.2 : Int)]
def StOk (s : Nat × Nat) : Prop := s.1 ≤ 20 ∧ s.2 < 2 ^ 62
theorem stH_key {s : Nat × Nat} (h : StOk s) : ∃ l, keyOf Tryz.prog 103 (stH s) = some l := by
  obtain ⟨h1, h2⟩ := h
  exact key103 _ _ (wf_i64b (by omega) (by omega)) (wf_u64b (by omega) (by omega))
theorem stH_inj {s r : Nat × Nat} (h : stH s = stH r) : s = r := by
  obtain ⟨a, b⟩ := s
  obtain ⟨a', b'⟩ := r
  simp only [stH, Value.agg.injEq, Array.mk.injEq, List.cons.injEq, Value.int.injEq, true_and, and_true] at h
  obtain ⟨h1, h2⟩ := h
  simp; omega
/-- In how many ways the cards from one on can have entries that are not used. -/
def valH (E : Nat) (fs : List Nat) (s : Nat × Nat) : Nat := countL E (fs.drop s.1) s.2
structure KnH where
  s : Nat × Nat
  x : Int
/-- What is known of ways. -/
def KnownH (E : Nat) (fs : List Nat) (w : World) (mb : Nat) : Prop :=
  ∃ M : List KnH, MapRaw Tryz.prog 103 w mb (M.map fun X => (stH X.s, .int .i64 X.x)) ∧ ∀ X ∈ M, StOk X.s ∧ X.x = (valH E fs X.s : Int)
theorem KnownH.kept {E : Nat} {fs : List Nat} {w w' : World} {mb : Nat} (h : KnownH E fs w mb) (hb : w'.heap[mb]? = w.heap[mb]?) : KnownH E fs w' mb := by
  obtain ⟨M, h1, h2⟩ := h
  exact ⟨M, h1.kept hb, h2⟩
theorem KnownH.lt {E : Nat} {fs : List Nat} {w : World} {mb : Nat} (h : KnownH E fs w mb) : mb < w.heap.size := by
  obtain ⟨M, h1, _⟩ := h
  exact h1.lt
theorem KnownH.map {E : Nat} {fs : List Nat} {w : World} {mb : Nat} (h : KnownH E fs w mb) : ∃ es c, w.heap[mb]? = some (.map es c) := by
  obtain ⟨M, ⟨es, c, h1, _⟩, _⟩ := h
  exact ⟨es, c, h1⟩
theorem KnownH.made (E : Nat) (fs : List Nat) {w : World} {mb : Nat} (h : w.heap[mb]? = some (.map #[] 0)) : KnownH E fs w mb :=
  ⟨[], ⟨#[], 0, h, MapKept.stamped_empty 0, rfl, by simp⟩, fun X hX => by simp at hX⟩
theorem zero3h (w : World) : (zeroValue 3).run Tryz.prog w = .ok (.int .i64 0) w := by
  obtain ⟨i0, hi0, hz0, _⟩ := info_parts infoI
  simp [zeroValue, typeInfo, hi0, hz0, Result.andThen]
theorem KnownH.look {E : Nat} {fs : List Nat} {w : World} {mb : Nat} {s : Nat × Nat} (h : KnownH E fs w mb) (hs : StOk s) :
    ∃ (x : Int) (ok : Bool), (∀ w', w'.heap[mb]? = w.heap[mb]? → (Instr.lookup 74 (.map (some mb)) (stH s) true).run Tryz.prog w' = .ok (.tuple #[.int .i64 x, .bool ok]) w') ∧ (ok = true → x = (valH E fs s : Int)) := by
  obtain ⟨M, h1, h2⟩ := h
  by_cases hm : ∃ X ∈ M, X.s = s
  · obtain ⟨X, hX, rfl⟩ := hm
    refine ⟨X.x, true, fun w' hw => ?_, fun _ => (h2 X hX).2⟩
    obtain ⟨v', ok', hr', hc'⟩ := (h1.kept hw).look keyed103 Tryz.underlying74 (stH_key hs) (zero3h w') true
    rcases hc' with ⟨rfl, rfl, hn⟩ | ⟨rfl, hmm'⟩
    · exact (hn (stH X.s, .int .i64 X.x) (List.mem_map.2 ⟨X, hX, rfl⟩) rfl).elim
    · obtain ⟨Z, hZ, e⟩ := List.mem_map.1 hmm'
      simp only [Prod.mk.injEq] at e
      have hzs := stH_inj e.1
      have ev : v' = .int .i64 X.x := by rw [← e.2, (h2 Z hZ).2, hzs, ← (h2 X hX).2]
      rw [ev] at hr'
      simpa using hr'
  · refine ⟨0, false, fun w' hw => ?_, fun h => by cases h⟩
    obtain ⟨v, ok, hr, hc⟩ := (h1.kept hw).look keyed103 Tryz.underlying74 (stH_key hs) (zero3h w') true
    rcases hc with ⟨rfl, rfl, hn⟩ | ⟨rfl, hmm⟩
    · show _ = Result.ok (Value.tuple #[.int .i64 0, .bool false]) w'
      simpa using hr
    · obtain ⟨X, hX, e⟩ := List.mem_map.1 hmm
      simp only [Prod.mk.injEq] at e
      exact (hm ⟨X, hX, stH_inj e.1⟩).elim
theorem KnownH.update {E : Nat} {fs : List Nat} {w : World} {mb : Nat} {s : Nat × Nat} (h : KnownH E fs w mb) (hs : StOk s) :
    ∃ w', (Instr.mapUpdate 74 (.map (some mb)) (stH s) (.int .i64 (valH E fs s : Int))).run Tryz.prog w = .ok () w' ∧ Same (fun k => k = mb) w w' ∧ KnownH E fs w' mb := by
  obtain ⟨M, h1, h2⟩ := h
  obtain ⟨w', hr, hg, hsz, hc⟩ := h1.update keyed103 Tryz.underlying74 (stH_key hs) (.int .i64 (valH E fs s : Int))
  have hS : Same (fun k => k = mb) w w' := (Same.refl _ w).grown hg (fun k hk => by cases hk; exact .inl rfl)
  refine ⟨w', hr, hS, ?_⟩
  rcases hc with ⟨_, hm⟩ | ⟨j, v, hj, hm⟩
  · refine ⟨M ++ [⟨s, (valH E fs s : Int)⟩], by rw [List.map_append]; exact hm, fun X hX => ?_⟩
    rcases List.mem_append.1 hX with hX | hX
    · exact h2 X hX
    · rw [List.mem_singleton.1 hX]; exact ⟨hs, rfl⟩
  · refine ⟨M.set j ⟨s, (valH E fs s : Int)⟩, ?_, fun X hX => ?_⟩
    · rw [List.map_set]; exact hm
    · rcases List.mem_or_eq_of_mem_set hX with hX | hX
      · exact h2 X hX
      · rw [hX]; exact ⟨hs, rfl⟩
/-- The ways by the first entries. -/
def partH (E : Nat) (fs : List Nat) (f used : Nat) : Nat → Nat
  | 0 => 0
  | k + 1 => partH E fs f used k + if f.testBit k && !used.testBit k then countL E fs (used ||| 2 ^ k) else 0
theorem part_sum (E : Nat) (fs : List Nat) (f used : Nat) : ∀ k, partH E fs f used k = (((List.range k).filter fun i => f.testBit i && !used.testBit i).map fun i => countL E fs (used ||| 2 ^ i)).sum
  | 0 => rfl
  | k + 1 => by
    unfold partH
    rw [part_sum E fs f used k, List.range_succ, List.filter_append, List.map_append, List.sum_append]
    congr 1
    cases h : (f.testBit k && !used.testBit k) <;> simp [h]
theorem part_all (E : Nat) (fs : List Nat) (f used : Nat) : partH E fs f used E = countL E (f :: fs) used := by
  rw [part_sum, count_cons]
  rfl
theorem part_up (E : Nat) (fs : List Nat) (f used : Nat) : ∀ k d, partH E fs f used k ≤ partH E fs f used (k + d)
  | _, 0 => Nat.le_refl _
  | k, d + 1 => by
    have := part_up E fs f used k d
    show _ ≤ partH E fs f used (k + d) + _
    omega
theorem pow_big {E n : Nat} (hE : E ≤ 12) (hn : n ≤ 8) : E ^ n ≤ 429981696 := by
  have h1 : E ^ n ≤ 12 ^ n := Nat.pow_le_pow_left hE n
  have h2 : 12 ^ n ≤ 12 ^ 8 := Nat.pow_le_pow_right (by omega) hn
  have h3 : (12 : Nat) ^ 8 = 429981696 := by decide
  omega
theorem count_big {E : Nat} {fs : List Nat} (hE : E ≤ 12) (hn : fs.length ≤ 8) (used : Nat) : countL E fs used ≤ 429981696 := Nat.le_trans (count_le E fs used) (pow_big hE hn)
theorem drop_at {fs : List Nat} {k : Nat} (h : k < fs.length) : fs.drop k = gn fs k :: fs.drop (k + 1) := by
  rw [List.drop_eq_getElem_cons h]
  congr 1
  unfold gn
  rw [List.getD_eq_getElem?_getD, List.getElem?_eq_getElem h]
  rfl
theorem andNot_u64 (a b : Nat) (ha : a < 2 ^ 62) (hb : b < 2 ^ 62) : ∃ c : Nat, bits .andNot .u64 (a : Int) (b : Int) = (c : Int) ∧ c < 2 ^ 62 ∧ ∀ i, c.testBit i = (a.testBit i && !b.testBit i) := by
  have e : (BitVec.ofInt 64 (a : Int) &&& ~~~ BitVec.ofInt 64 (b : Int)).toNat = a ^^^ (a &&& b) := by
    have e1 : (BitVec.ofInt 64 (a : Int) &&& ~~~ BitVec.ofInt 64 (b : Int)) = BitVec.ofNat 64 (a ^^^ (a &&& b)) := by
      apply BitVec.eq_of_getLsbD_eq
      intro i hi
      rw [BitVec.ofInt_natCast, BitVec.ofInt_natCast]
      simp only [BitVec.getLsbD_and, BitVec.getLsbD_not, BitVec.getLsbD_ofNat, Nat.testBit_xor, Nat.testBit_and, hi, decide_true, Bool.true_and]
      cases a.testBit i <;> cases b.testBit i <;> rfl
    rw [e1, BitVec.toNat_ofNat, Nat.mod_eq_of_lt]
    have : a ^^^ (a &&& b) < 2 ^ 62 := Nat.xor_lt_two_pow ha (Nat.and_lt_two_pow _ hb)
    omega
  have hlt : a ^^^ (a &&& b) < 2 ^ 62 := Nat.xor_lt_two_pow ha (Nat.and_lt_two_pow _ hb)
  have h : bits .andNot .u64 (a : Int) (b : Int) = IntKind.u64.wrap ((BitVec.ofInt 64 (a : Int) &&& ~~~ BitVec.ofInt 64 (b : Int)).toNat : Int) := rfl
  refine ⟨a ^^^ (a &&& b), ?_, hlt, fun i => ?_⟩
  · rw [h, e]
    generalize a ^^^ (a &&& b) = c at hlt
    rw [IntKind.wrap_u64]
    omega
  · rw [Nat.testBit_xor, Nat.testBit_and]
    cases a.testBit i <;> cases b.testBit i <;> rfl
end Go.Proofs.YtbnhngfegnhaiaaGreatDoor
