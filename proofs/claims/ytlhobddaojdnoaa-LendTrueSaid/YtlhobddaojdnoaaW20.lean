/- How many states a look into a slot may leave. -/
import Derived.Test.YtlhobddaojdnoaaPure4
namespace Go.Proofs.Ytlhobddaojdnoaa
open Go.RowKit

theorem keyed3 : Maps.Keyed Try.prog 3 := Maps.int_keyed Try.underlying3
theorem key3 (x : Int) (hx : (Lit.int .i64 x).wf = true) : ∃ l, keyOf Try.prog 3 (.int .i64 x) = some l := ⟨_, Maps.keyOf_int_mk Try.underlying3 hx⟩

/-- Block b holds how often each number was met. -/
structure CntMap (w : World) (b : Nat) (D : List Int) (C : List (Int × Int)) : Prop where
  raw : MapRaw Try.prog 3 w b (C.map fun p => (.int .i64 p.1, .int .i64 p.2))
  val : ∀ p ∈ C, p.2 = D.count p.1
  all : ∀ v ∈ D, ∃ n, (v, n) ∈ C
theorem CntMap.kept {w w' : World} {b : Nat} {D : List Int} {C : List (Int × Int)} (h : CntMap w b D C) (hb : w'.heap[b]? = w.heap[b]?) : CntMap w' b D C := ⟨h.raw.kept hb, h.val, h.all⟩
theorem CntMap.keys {w : World} {b : Nat} {D : List Int} {C : List (Int × Int)} (h : CntMap w b D C) : (C.map (·.1)).Nodup := by
  have := h.raw.nodup
  rw [List.map_map] at this
  rw [List.nodup_iff_pairwise_ne, List.pairwise_map] at this ⊢
  exact this.imp (fun hne e => hne (by simp only [Function.comp]; rw [e]))
theorem CntMap.look {w : World} {b : Nat} {D : List Int} {C : List (Int × Int)} (h : CntMap w b D C) {v : Int} (hv : (Lit.int .i64 v).wf = true) : (Instr.lookup 99 (.map (some b)) (.int .i64 v) false).run Try.prog w = .ok (.int .i64 (D.count v : Nat)) w := by
  obtain ⟨x, ok, hr, hx⟩ := h.raw.look keyed3 Try.underlying99 (key3 v hv) (zero3 w) false
  rcases hx with ⟨_, rfl, hn⟩ | ⟨_, hm⟩
  · have hnd : v ∉ D := fun hd => by
      obtain ⟨n, hn'⟩ := h.all v hd
      exact hn _ (List.mem_map.2 ⟨_, hn', rfl⟩) rfl
    rw [List.count_eq_zero_of_not_mem hnd]
    exact hr
  · obtain ⟨p, hp, he⟩ := List.mem_map.1 hm
    have h1 : Value.int .i64 p.1 = .int .i64 v ∧ Value.int .i64 p.2 = x := by simpa using he
    have h2 : p.1 = v := by have := h1.1; simpa using this
    rw [← h1.2, h.val p hp, h2] at hr
    exact hr
theorem count_snoc (D : List Int) (v x : Int) : (D ++ [v]).count x = D.count x + if v = x then 1 else 0 := by
  rw [List.count_append, List.count_singleton]
  by_cases h : v = x <;> simp [h]
theorem CntMap.update {w : World} {b : Nat} {D : List Int} {C : List (Int × Int)} (h : CntMap w b D C) {v : Int} (hv : (Lit.int .i64 v).wf = true) :
    ∃ w' C', (Instr.mapUpdate 99 (.map (some b)) (.int .i64 v) (.int .i64 ((D.count v : Nat) + 1))).run Try.prog w = .ok () w' ∧ w.grownBy w' (some b) ∧ w'.heap.size = w.heap.size ∧ CntMap w' b (D ++ [v]) C' := by
  obtain ⟨w', hr, hg, hs, hx⟩ := h.raw.update keyed3 Try.underlying99 (key3 v hv) (.int .i64 ((D.count v : Nat) + 1))
  have hk := h.keys
  rcases hx with ⟨hn, hM⟩ | ⟨j, x, hj, hM⟩
  · have hne : ∀ p ∈ C, p.1 ≠ v := fun p hp e => hn _ (List.mem_map.2 ⟨p, hp, rfl⟩) (by rw [e])
    refine ⟨w', C ++ [(v, ((D.count v : Nat) : Int) + 1)], hr, hg, hs, ⟨by simpa using hM, fun p hp => ?_, fun y hy => ?_⟩⟩
    · rw [count_snoc]
      rcases List.mem_append.1 hp with hp | hp
      · rw [if_neg (Ne.symm (hne p hp)), h.val p hp]; rfl
      · rw [List.mem_singleton.1 hp]; simp
    · rcases List.mem_append.1 hy with hy | hy
      · obtain ⟨n, hn'⟩ := h.all y hy
        exact ⟨n, by simp [hn']⟩
      · rw [List.mem_singleton.1 hy]; exact ⟨((D.count v : Nat) : Int) + 1, by simp⟩
  · obtain ⟨p, hp, he⟩ : ∃ p, C[j]? = some p ∧ p.1 = v := by
      rw [List.getElem?_map] at hj
      cases hc : C[j]? with
      | none => rw [hc] at hj; cases hj
      | some p => rw [hc] at hj; exact ⟨p, rfl, by simp at hj; exact hj.1⟩
    obtain ⟨hjl, hje⟩ := List.getElem?_eq_some_iff.1 hp
    refine ⟨w', C.set j (v, ((D.count v : Nat) : Int) + 1), hr, hg, hs, ⟨by rw [List.map_set]; exact hM, fun q hq => ?_, fun y hy => ?_⟩⟩
    · rw [count_snoc]
      obtain ⟨i, hi, rfl⟩ := List.mem_iff_getElem.1 hq
      rw [List.getElem_set]
      by_cases hij : j = i
      · rw [if_pos hij]; simp
      · rw [if_neg hij]
        have hi' : i < C.length := by simpa using hi
        have hne : C[i].1 ≠ v := by
          intro e
          have h1 : (C.map (·.1))[i]'(by simpa using hi') = (C.map (·.1))[j]'(by simpa using hjl) := by simp [e, hje, he]
          have hp := List.pairwise_iff_getElem.1 (List.nodup_iff_pairwise_ne.1 hk)
          rcases Nat.lt_or_gt_of_ne hij with h | h
          · exact hp j i (by simpa using hjl) (by simpa using hi') h h1.symm
          · exact hp i j (by simpa using hi') (by simpa using hjl) h h1
        rw [if_neg (Ne.symm hne), h.val _ (List.getElem_mem hi')]
        rfl
    · by_cases hyv : y = v
      · exact ⟨((D.count v : Nat) : Int) + 1, by rw [hyv]; exact List.mem_set hjl _⟩
      · have hy' : y ∈ D := by
          rcases List.mem_append.1 hy with hy | hy
          · exact hy
          · exact absurd (List.mem_singleton.1 hy) hyv
        obtain ⟨n, hn'⟩ := h.all y hy'
        obtain ⟨i, hi, hie⟩ := List.mem_iff_getElem.1 hn'
        have hij : j ≠ i := by
          rintro rfl
          rw [hje] at hie
          rw [hie] at he
          exact hyv he
        refine ⟨n, List.mem_iff_getElem.2 ⟨i, by simpa using hi, ?_⟩⟩
        rw [List.getElem_set, if_neg hij, hie]

set_option maxRecDepth 100000 in
set_option maxHeartbeats 2000000 in
theorem worst_any {c : Cab} {w : World} {bc : Nat} {ah : Option Addr} {ch : Nat} {al : Option Addr} {cl : Nat} (hc : CabP w bc c ah ch al cl) (hn : c.homes.length ≤ 5) {b bm bp : Nat} {M : List (List Int × Int)} (hM : StMap c.homes.length w b M)
    (hm : w.cell? ⟨bm, 0, none⟩ = some (.map (some b))) (hp : w.cell? ⟨bp, 0, none⟩ = some (.pointer (some ⟨bc, 0, none⟩))) (slot : Int) :
    Calls Try.prog 75 #[.int .i64 slot, .pointer (some ⟨bm, 0, none⟩), .pointer (some ⟨bp, 0, none⟩)] w fun e w' => e = .returned (.int .i64 (worst (M.map (·.1)) slot)) ∧ Below w.heap.size w w' := by
  have hmm : ∀ w : World, (Instr.makeMap 99 none).run Try.prog w = .ok (.map (some w.heap.size)) (w.alloc (.map #[] 0)) := fun w => by kernel_rfl
  have hroom := hM.room hn
  have gm := lt_of_cell hm
  have gp := lt_of_cell hp
  have hb0 : Below w.heap.size w ((w.alloc (.map #[] 0)).alloc (.cells #[.int .i64 0, .int .i64 0, .bool false] 86)) := ((Below.refl _ w).alloc (Nat.le_refl _) _).alloc (by simp) _
  obtain ⟨w3, hrng, hR3, hg3, hs3⟩ := (hM.raw.kept (hb0.block b hM.lt)).range Try.underlying69
  simp only [World.size_alloc] at hrng hR3 hs3
  have hb3 : Below w.heap.size w w3 := hb0.grown hg3 hb0.size (by simp)
  have hC3 : CntMap w3 w.heap.size [] [] := ⟨⟨#[], 0, (hg3.block _ (by simp; omega) (by simp)).trans (heap_alloc2_0 w _ _), MapKept.stamped_empty 0, rfl, by simp⟩, by simp, by simp⟩
  have hE3 : EndsOf w3 (w.heap.size + 1) [] := by
    have := World.alloc_heap_new (w.alloc (.map #[] 0)) (.cells #[.int .i64 0, .int .i64 0, .bool false] 86)
    rw [World.size_alloc] at this
    exact (hg3.block _ (by simp) (by simp)).trans this
  clear hb0 hg3 hs3
  go_enter Try.func75, Try.ntmps75
  go_wp2_with fail
  go_loopw [8] (fun _ wr => ∃ (D Td : List (List Int × Int)) (C : List (Int × Int)) (E : List Nat), Below w.heap.size w wr ∧ CntMap wr w.heap.size (D.map fun p => lies p.1 slot) C ∧ EndsOf wr (w.heap.size + 1) E ∧
      maxL E = maxL ((D.map fun p => lies p.1 slot).map fun x => (D.map fun p => lies p.1 slot).count x) ∧ Rng Try.prog 78 wr b (w.heap.size + 1 + 1) (M.map encP) (Td.map encP) ∧ M.Perm (D ++ Td)) (fun _ wr => rngLeft wr b (w.heap.size + 1 + 1))
  case atStart => exact ⟨[], M, [], [], hb3, hC3, hE3, rfl, hR3, List.Perm.refl _⟩
  case round =>
    obtain ⟨D, Td, C, E, hbr, hCr, hEr, hmx, hRg, hmem⟩ := hrel
    have hHM := Lib.hid hmem
    have hHX := Lib.hid hmx
    clear hmem hmx hrng
    rcases hRg.next 0 with ⟨htd, hnx⟩ | ⟨kx, vx, l1, l2, w10, htd, hkm, hnx, hR10, hg10, hs10, hent⟩
    · have htd' : Td = [] := by simpa using htd
      subst htd'
      clear htd
      obtain ⟨n0, n1, n2, _⟩ := EndsAt.cells hEr
      go_wp2_with fail
      go_ret
      refine ⟨?_, hbr⟩
      have hperm : M.Perm D := by have := hHM.out; simpa using this
      rw [worst_perm (hperm.map (·.1)), worst_count, List.map_map]
      have := hHX.out
      simp only [List.map_map, Function.comp_def] at this ⊢
      rw [← this]
      rfl
    · obtain ⟨T1, ⟨s, m⟩, T2, rfl, he, hl12⟩ := map_split htd
      have hsn : stV s = kx ∧ Value.int .i64 m = vx := by simpa [encP] using he
      obtain ⟨rfl, rfl⟩ := hsn
      have hsM : (s, m) ∈ M := hHM.out.mem_iff.2 (by simp)
      have hsg : GoodSt c.homes.length s := hM.good _ hsM
      rw [← hl12] at hR10
      have hs10' := Lib.hid hs10
      clear he hl12 htd hkm hs10
      have hb10 : Below w.heap.size w w10 := hbr.grown hg10 hbr.size (by rintro q ⟨⟩; omega)
      have hlC := hCr.raw.lt
      have hlE := (Array.getElem?_eq_some_iff.1 hEr).1
      have hC10 := hCr.kept (hg10.block _ hlC (by simp; omega))
      have hE10 : EndsOf w10 (w.heap.size + 1) E := (hg10.block _ hlE (by simp)).trans hEr
      have hbA : Below w.heap.size w (w10.alloc (.cells (stA s) 78)) := hb10.alloc hb10.size _
      have hbAA : Below w10.heap.size w10 (w10.alloc (.cells (stA s) 78)) := (Below.refl _ _).alloc (Nat.le_refl _) _
      have cmA := cell_stays hbA hm
      have cpA := cell_stays hbA hp
      have gmA := lt_of_cell cmA
      go_wp2_with fail
      refine (lies_any s slot (hc.mono hbA) hn hsg.1).mono ?_
      rintro e w11 ⟨rfl, hb11⟩
      have hb1011 : Below w10.heap.size w10 w11 := hbAA.trans (hb11.mono hbAA.size)
      have hbB := hbA.trans (hb11.mono hbA.size)
      have hC11 := hC10.kept (hb1011.block _ hC10.raw.lt)
      have hE11 : EndsOf w11 (w.heap.size + 1) E := (hb1011.block _ (Array.getElem?_eq_some_iff.1 hE10).1).trans hE10
      have hR11 := hR10.kept (hb1011.block _ hR10.raw.lt) (hb1011.block _ hR10.lt)
      obtain ⟨v, hvd⟩ : ∃ v, lies s slot = v := ⟨_, rfl⟩
      have hvw : (Lit.int .i64 v).wf = true := WalkArith.wf_i64 (by have := hsg.1; rw [← hvd]; rcases lies_in s slot with h | h <;> omega)
      rw [hvd]
      obtain ⟨cn, hcn⟩ : ∃ cn : Nat, (D.map fun p => lies p.1 slot).count v = cn := ⟨_, rfl⟩
      have hcb : (cn : Int) ≤ 20000 := by
        have h1 := List.count_le_length (a := v) (l := D.map fun p => lies p.1 slot)
        have h2 := hHM.out.length_eq
        simp only [List.length_map, List.length_append, List.length_cons] at h1 h2
        omega
      have hl1 := hC11.look hvw
      obtain ⟨w12, C', hu, hg12, hs12, hC12⟩ := hC11.update hvw
      have hl2 := hC12.look hvw
      rw [count_snoc, if_pos rfl, hcn, show ((cn + 1 : Nat) : Int) = (cn : Int) + 1 from by omega] at hl2
      rw [hcn] at hl1 hu
      have hE12 : EndsOf w12 (w.heap.size + 1) E := (hg12.block _ (Array.getElem?_eq_some_iff.1 hE11).1 (by simp)).trans hE11
      have hR12 := hR11.kept (hg12.block _ hR11.raw.lt (by simp; have := hM.lt; omega)) (hg12.block _ hR11.lt (by simp; omega))
      have hbC : Below w.heap.size w w12 := hbB.grown hg12 hbB.size (by rintro q ⟨⟩; omega)
      have HV := Lib.hid hvd
      have HC := Lib.hid hcn
      clear hvd hcn hs12
      go_wp2_with fail
      have hx := endsOf_any (cn + 1) hE12
      rw [show ((cn + 1 : Nat) : Int) = (cn : Int) + 1 from by omega] at hx
      refine hx.mono ?_
      rintro e w13 ⟨rfl, hE13, hS13⟩
      have hbD : Below w.heap.size w w13 := hbC.trans (hS13.below hbC.size (by intro q hq h; omega))
      have hC13 := hC12.kept (hS13.block _ hC12.raw.lt (by omega))
      have hR13 := hR12.kept (hS13.block _ hR12.raw.lt (by have := hM.lt; omega)) (hS13.block _ hR12.lt (by omega))
      go_wp2_with fail
      go_roundw
      case rel =>
        refine ⟨D ++ [(s, m)], T1 ++ T2, C', E ++ [cn + 1], hbD, ?_, hE13, ?_, hR13, ?_⟩
        · rw [List.map_append, List.map_singleton, HV.out]; exact hC13
        · rw [maxL_snoc, List.map_append, List.map_singleton, HV.out, run_max, hHX.out, HC.out]
        · refine hHM.out.trans ?_
          rw [List.append_assoc]
          exact (List.Perm.append_left D List.perm_middle)
      case measure =>
        rw [hR13.left, hRg.left]
        simp
end Go.Proofs.Ytlhobddaojdnoaa
