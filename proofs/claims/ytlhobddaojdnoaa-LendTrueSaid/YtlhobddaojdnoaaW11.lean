/- The states that can be reached by some loans. -/
import Derived.Test.YtlhobddaojdnoaaW10
namespace Go.Proofs.Ytlhobddaojdnoaa
open Go.RowKit

attribute [local go_sem] Oper.semAt_some
set_option maxRecDepth 100000 in
set_option maxHeartbeats 4000000 in
theorem play_any (c : Cab) (r : Rule) {T : TypeId} {x : Value} (hr : RuleOk r T x) {w0 : World} {bc : Nat} {ah : Option Addr} {ch : Nat} {al : Option Addr} {cl : Nat} (hc : CabP w0 bc c ah ch al cl) (hn : c.homes.length ≤ 5)
    (hgood : GoodSt c.homes.length c.homes) (hslots : 0 ≤ c.slots ∧ c.slots ≤ 6) (hok : ∀ l ∈ c.loans, c.loanOk l = true) (hcl : c.loans.length ≤ cl)
    (i : Nat) (hi : i ≤ c.loans.length) (hi100 : c.loans.length ≤ 100) (W : Int) (hW : 0 ≤ W ∧ W ≤ 100) :
    Calls Try.prog 49 #[.pointer (some ⟨bc, 0, none⟩), .int .i64 i, .int .i64 W, .iface T x] w0 fun e w' => ∃ b M, e = .returned (.map (some b)) ∧ StMap c.homes.length w' b M ∧ (∀ t, lookM M t = reachF c r W (c.loans.take i) t) ∧
      Below w0.heap.size w0 w' ∧ w0.heap.size ≤ b := by
  have hbc := lt_of_cell hc.h
  obtain ⟨f, hmeth, hcall, hcon⟩ := hr.ex
  rw [show Try.prog.types.size + Made.depth = 245 from by kernel_rfl] at hmeth
  refine calls_of_wp_marks Try.func49 rfl ?_
  simp only [Try.ntmps49, List.size_toArray, List.length_cons, List.length_nil, Nat.reduceAdd, Nat.reduceSub, Array.replicate_succ, Array.replicate_zero, List.push_toArray, List.append_toArray, List.nil_append, List.cons_append]
  go_wp2
  have hB1 : Below w0.heap.size w0 (((w0.alloc (.cells #[.int .i64 W] 3)).alloc (.cells #[.iface T x] 108)).alloc (.cells (stA []) 78)) := (((Below.refl _ w0).alloc (Nat.le_refl _) _).alloc (by simp) _).alloc (by simp; omega) _
  obtain ⟨h0, h1, h2⟩ := heap3 w0 (.cells #[.int .i64 W] 3) (.cells #[.iface T x] 108) (.cells (stA []) 78)
  have hsz : (((w0.alloc (.cells #[.int .i64 W] 3)).alloc (.cells #[.iface T x] 108)).alloc (.cells (stA []) 78)).heap.size = w0.heap.size + 3 := by simp
  revert hB1 h0 h1 h2 hsz
  generalize hw1 : (((w0.alloc (.cells #[.int .i64 W] 3)).alloc (.cells #[.iface T x] 108)).alloc (.cells (stA []) 78)) = w1
  intro hB1 h0 h1 h2 hsz
  have hw1' : ((w0.alloc (.cells #[.int .i64 W] 3)).alloc (.cells #[.iface T x] 108)).alloc (.cells #[.int .i64 0, .int .i64 0, .int .i64 0, .int .i64 0, .int .i64 0] 78) = w1 := hw1
  rw [hw1']
  clear hw1 hw1'
  have hc1 := hc.mono hB1
  have cH := hc1.h
  have x1 := fun y : Aft w1.heap.size w1 => cell_stays y.h cH
  refine wp_region_aft_tail 6 mixed (by kernel_rfl) ?_
  simp only [List.take_succ_cons, List.take_zero, List.drop_succ_cons, List.drop_zero]
  repeat (go_big_quiet_step (fail))
  refine wpQuiet_nil ?_
  rintro _ ⟨y, rfl⟩
  have hb2 := y.h
  revert hb2
  generalize y.v = w2
  intro hb2
  clear y x1
  have hc2 := hc1.mono hb2
  obtain ⟨w3, hr3, hf3, hS3, hs3⟩ := copy_homes hc2.hi hn ((hb2.block _ (by omega)).trans h2) (ch := ch)
  have g0 := (hS3.block _ (by have := hb2.size; omega) (by omega)).trans ((hb2.block w0.heap.size (by omega)).trans h0)
  have g1 := (hS3.block _ (by have := hb2.size; omega) (by omega)).trans ((hb2.block (w0.heap.size + 1) (by omega)).trans h1)
  have hB3 : Below w0.heap.size w0 w3 := (hB1.trans (hb2.mono (by omega))).trans (hS3.below (by have := hb2.size; omega) (by omega))
  have hz3 : w0.heap.size + 3 ≤ w3.heap.size := by have := hb2.size; omega
  clear h0 h1 h2 hc1 hc2 hS3 cH hs3
  have hmm : ∀ w : World, (Instr.makeMap 69 none).run Try.prog w = .ok (.map (some w.heap.size)) (w.alloc (.map #[] 0)) := fun w => by kernel_rfl
  obtain ⟨w5, hu5, hg5, hs5, hM5⟩ := (MapRaw.made Try.prog 78 w3).update keyed78 Try.underlying69 hgood.key (.int .i64 0)
  have hM5' : StMap c.homes.length w5 w3.heap.size [(c.homes, 0)] := by
    rcases hM5 with ⟨_, h⟩ | ⟨j, v, h, _⟩
    · exact ⟨h, by simpa using hgood, by simp⟩
    · simp at h
  obtain ⟨f0, f1, f2, f3, f4⟩ := five hf3
  have hlt := lt_of_cell f0
  go_wp2_with fail
  refine (kinds_any w5).mono ?_
  rintro e w6 ⟨⟨kv, rfl, hK6⟩, hb6⟩
  have hB5 : Below w0.heap.size w0 w5 := hB3.trans (((Below.refl _ w3).alloc (by omega) _).grown hg5 (by simp; omega) (by rintro k ⟨⟩; omega))
  have hB6 : Below w0.heap.size w0 w6 := hB5.trans (hb6.mono hB5.size)
  have hS36 : Same (fun _ => False) w3 w6 := (((Same.refl _ w3).alloc _).grown hg5 (by simp)).trans (Same.of_below _ hb6)
  have hM6 : StMap c.homes.length w6 w3.heap.size [(c.homes, 0)] := hM5'.kept (hb6.block _ hM5'.lt)
  have m0 := (hS36.block _ (by omega) (by simp)).trans g0
  have m1 := (hS36.block _ (by omega) (by simp)).trans g1
  clear hu5 hg5 hs5 hM5 hM5' f0 f1 f2 f3 f4 hf3 hr3 hb6 hB5 g0 g1 hS36 hlt hB3 hmm
  revert hM6 hz3
  generalize w3.heap.size = b0
  intro hb0 hM6
  have hc6 := hc.mono hB6
  have l6 := hc6.l
  clear hc6
  go_wp2_with fail
  have hP0 : PlayAt c r W T x kv w0 [] 0 b0 [(c.homes, 0)] w6 := ⟨hB6, m0, m1, hK6, hM6, fun t => by
    rw [List.take_zero, reach_nil c r W hW.1]
    by_cases h : c.homes = t
    · subst h; simp [lookM, minF, addAt]
    · have h' : (c.homes == t) = false := by simpa using h
      simp [lookM, minF, addAt, h', Ne.symm h], by omega, MarksAt.nil _ _⟩
  clear hB6 m0 m1 hK6 hM6 hbc l6 hgood
  refine wp_loop (fun a w => ∃ (j b : Nat) (M : List (List Int × Int)) (u12 u13 u14 u15 u16 u17 u18 u19 u41 u42 u43 u44 u45 u46 u47 u48 u49 u50 u51 u52 u53 u54 u55 u56 u57 u58 u59 u60 u61 u62 u63 u64 u65 u66 u67 u68 u69 u70 u71 u72 u73 u74 u75 u76 u77 u78 u79 u80 u81 u82 u83 u84 : Value) (ds : List Deferred), a = ⟨#[.pointer (some ⟨bc, 0, none⟩), .int .i64 i, .int .i64 W, .iface T x, undef, undef, .pointer (some ⟨w0.heap.size, 0, none⟩), .pointer (some ⟨w0.heap.size + 1, 0, none⟩), .map none, .pointer (some ⟨w0.heap.size + 1 + 1, 0, none⟩), .map (some b), kv, u12, u13, u14, u15, u16, u17, u18, u19, .agg #[.int .i64 0, .int .i64 0, .int .i64 0, .int .i64 0, .int .i64 0], .slice (some ⟨w0.heap.size + 1 + 1, 0, none⟩) 5 5, .pointer (some ⟨bc, 0, none⟩), .pointer (some ⟨bc, 0, none⟩), .pointer (some ⟨bc, 0, none⟩), .pointer (some ⟨bc, 1, none⟩), .slice ah c.homes.length ch, .int .i64 c.homes.length, .map (some b0), stV c.homes, .map (some b0), kv, .pointer (some ⟨bc, 0, none⟩), .pointer (some ⟨bc, 0, none⟩), .pointer (some ⟨bc, 0, none⟩), .pointer (some ⟨bc, 3, none⟩), .slice al c.loans.length cl, .int .i64 i, .slice al i cl, .int .i64 i, .int .i64 j, u41, u42, u43, u44, u45, u46, u47, u48, u49, u50, u51, u52, u53, u54, u55, u56, u57, u58, u59, u60, u61, u62, u63, u64, u65, u66, u67, u68, u69, u70, u71, u72, u73, u74, u75, u76, u77, u78, u79, u80, u81, u82, u83, u84, undef], ds⟩ ∧ j ≤ i ∧ PlayAt c r W T x kv w0 ds j b M w) (fun a _ => i - (intOf (a.tmps.getD 40 undef)).toNat) ⟨0, b0, [(c.homes, 0)], undef, undef, undef, undef, undef, undef, undef, undef, undef, undef, undef, undef, undef, undef, undef, undef, undef, undef, undef, undef, undef, undef, undef, undef, undef, undef, undef, undef, undef, undef, undef, undef, undef, undef, undef, undef, undef, undef, undef, undef, undef, undef, undef, undef, undef, undef, undef, undef, undef, undef, undef, undef, [], rfl, Nat.zero_le _, hP0⟩ ?_
  clear hP0
  rintro a w ⟨j, b, M, u12, u13, u14, u15, u16, u17, u18, u19, u41, u42, u43, u44, u45, u46, u47, u48, u49, u50, u51, u52, u53, u54, u55, u56, u57, u58, u59, u60, u61, u62, u63, u64, u65, u66, u67, u68, u69, u70, u71, u72, u73, u74, u75, u76, u77, u78, u79, u80, u81, u82, u83, u84, ds, rfl, hj, hP⟩
  by_cases hlt : j < i
  · have hcw := hc.mono hP.below
    obtain ⟨bl, ol, rfl, k0, k1, k2, k3⟩ := hcw.li j (by omega)
    have hlok : c.loanOk (gl c.loans j) = true := hok _ (gl_mem (by omega))
    obtain ⟨l, hl⟩ : ∃ l, gl c.loans j = l := ⟨_, rfl⟩
    rw [hl] at k0 k1 k2 k3 hlok
    have HL := Lib.hid hl
    clear hl
    have hwA : Below w.heap.size w ((((w.alloc (.cells #[.int .i64 j] 3)).alloc (.cells l.arr 48)).alloc (.map #[] 0)).alloc (.cells #[.map (some (w.heap.size + 1 + 1))] 69)) :=
      ((((Below.refl _ w).alloc (Nat.le_refl _) _).alloc (by simp) _).alloc (by simp; omega) _).alloc (by simp; omega) _
    obtain ⟨a0, a1, a2⟩ := heap3 w (.cells #[.int .i64 j] 3) (.cells l.arr 48) (.map #[] 0)
    have a0 := (Below.heap_alloc _ (.cells #[.map (some (w.heap.size + 1 + 1))] 69) _ (by simp only [World.size_alloc]; omega)).trans a0
    have a1 := (Below.heap_alloc _ (.cells #[.map (some (w.heap.size + 1 + 1))] 69) _ (by simp only [World.size_alloc]; omega)).trans a1
    have a2 := (Below.heap_alloc _ (.cells #[.map (some (w.heap.size + 1 + 1))] 69) _ (by simp only [World.size_alloc]; omega)).trans a2
    have a3 := World.alloc_heap_new (((w.alloc (.cells #[.int .i64 j] 3)).alloc (.cells l.arr 48)).alloc (.map #[] 0)) (.cells #[.map (some (w.heap.size + 1 + 1))] 69)
    obtain ⟨w8, hrng, hR8, hg8, hs8⟩ := (hP.map.raw.kept (hwA.block b hP.map.lt)).range Try.underlying69
    simp only [World.size_alloc] at hrng hR8 hs8 a3
    have hB8 : Below w.heap.size w w8 := hwA.grown hg8 hwA.size (by simp)
    have c0 := (hg8.block w.heap.size (by simp only [World.size_alloc]; omega) (by simp)).trans a0
    have c1 := (hg8.block (w.heap.size + 1) (by simp only [World.size_alloc]; omega) (by simp)).trans a1
    have c2 := (hg8.block (w.heap.size + 1 + 1) (by simp only [World.size_alloc]; omega) (by simp)).trans a2
    have c3 := (hg8.block (w.heap.size + 1 + 1 + 1) (by simp only [World.size_alloc]; omega) (by simp)).trans a3
    have hI0 : InAt c r W ds j l w w0.heap.size b M [] M [] w8 := ⟨hB8, c0, c1, c3, hR8, StMap.empty c2, by simp, by simp [lookM, minF], hP.marks.mono (fun k hk h => (hB8.block k hk).trans h), by omega⟩
    clear a0 a1 a2 a3 hwA c0 c1 c2 c3 hB8 hR8 hg8 hs8
    have hmm : ∀ w : World, (Instr.makeMap 69 none).run Try.prog w = .ok (.map (some w.heap.size)) (w.alloc (.map #[] 0)) := fun w => by kernel_rfl
    have hlt' : (j : Int) < (i : Int) := by omega
    have hj100 : (j : Int) ≤ 100 := by omega
    go_wp2_with fail
    obtain ⟨bk, kk, mf, hkv, hkk, hk3, hkf, hmf, hmoves⟩ := kinds_pick hlok hP.kinds hc hn ⟨hslots.1, by omega⟩
    subst hkv
    refine wp_loop (fun a w' => ∃ (D Td Mn : List (List Int × Int)) (u15 u16 u17 u18 u19 u48 u49 u50 u51 u52 u53 u54 u55 u56 u57 u58 u59 u60 u61 u62 u63 u64 u65 u66 u67 u68 u69 u70 u71 u72 u73 u74 u75 u76 u77 u78 u79 u80 u81 u82 : Value) (ds' : List Deferred), a = ⟨#[.pointer (some ⟨bc, 0, none⟩), .int .i64 i, .int .i64 W, .iface T x, undef, undef, .pointer (some ⟨w0.heap.size, 0, none⟩), .pointer (some ⟨w0.heap.size + 1, 0, none⟩), .map none, .pointer (some ⟨w0.heap.size + 1 + 1, 0, none⟩), .map (some b), .slice (some ⟨bk, 0, none⟩) 3 3, .pointer (some ⟨w.heap.size, 0, none⟩), .pointer (some ⟨w.heap.size + 1, 0, none⟩), .pointer (some ⟨w.heap.size + 1 + 1 + 1, 0, none⟩), u15, u16, u17, u18, u19, .agg #[.int .i64 0, .int .i64 0, .int .i64 0, .int .i64 0, .int .i64 0], .slice (some ⟨w0.heap.size + 1 + 1, 0, none⟩) 5 5, .pointer (some ⟨bc, 0, none⟩), .pointer (some ⟨bc, 0, none⟩), .pointer (some ⟨bc, 0, none⟩), .pointer (some ⟨bc, 1, none⟩), .slice ah c.homes.length ch, .int .i64 c.homes.length, .map (some b0), stV c.homes, .map (some b0), .slice (some ⟨bk, 0, none⟩) 3 3, .pointer (some ⟨bc, 0, none⟩), .pointer (some ⟨bc, 0, none⟩), .pointer (some ⟨bc, 0, none⟩), .pointer (some ⟨bc, 3, none⟩), .slice (some ⟨bl, ol, none⟩) c.loans.length cl, .int .i64 i, .slice (some ⟨bl, ol, none⟩) i cl, .int .i64 i, .int .i64 j, .bool true, .int .i64 j, .pointer (some ⟨bl, ol + j * 4, none⟩), l.v, .map (some (w.heap.size + 1 + 1)), .map (some b), .pointer (some ⟨w.heap.size + 1 + 1 + 1 + 1, 0, none⟩), u48, u49, u50, u51, u52, u53, u54, u55, u56, u57, u58, u59, u60, u61, u62, u63, u64, u65, u66, u67, u68, u69, u70, u71, u72, u73, u74, u75, u76, u77, u78, u79, u80, u81, u82, u83, u84, undef], ds'⟩ ∧ InAt c r W ds' j l w w0.heap.size b M D Td Mn w') (fun _ w' => rngLeft w' b (w.heap.size + 1 + 1 + 1 + 1)) ⟨[], M, [], u15, u16, u17, u18, u19, u48, u49, u50, u51, u52, u53, u54, u55, u56, u57, u58, u59, u60, u61, u62, u63, u64, u65, u66, u67, u68, u69, u70, u71, u72, u73, u74, u75, u76, u77, u78, u79, u80, u81, u82, ds, rfl, hI0⟩ ?_
    clear hI0 hrng k0 k1 k2 k3 hmm hlt'
    rintro a w9 ⟨D, Td, Mn, v15, v16, v17, v18, v19, v48, v49, v50, v51, v52, v53, v54, v55, v56, v57, v58, v59, v60, v61, v62, v63, v64, v65, v66, v67, v68, v69, v70, v71, v72, v73, v74, v75, v76, v77, v78, v79, v80, v81, v82, ds', rfl, hI⟩
    rcases hI.rng.next 0 with ⟨htd, hnx⟩ | ⟨kx, vx, l1, l2, w10, htd, hkm, hnx, hR10, hg10, hs10, hent⟩
    · have htd' : Td = [] := by simpa using htd
      subst htd'
      clear htd
      have hbx := cell_of_heap (k := 0) hI.box
      have hbx' : w9.cell? ⟨w.heap.size + 1 + 1 + 1, 0, none⟩ = some (.map (some (w.heap.size + 1 + 1))) := hbx
      have hle := hP.below.size
      have hP' : PlayAt c r W T x (.slice (some ⟨bk, 0, none⟩) 3 3) w0 ds' (j + 1) (w.heap.size + 1 + 1) Mn w9 :=
        ⟨hP.below.trans (hI.below.mono hle), (hI.below.block _ (Array.getElem?_eq_some_iff.1 hP.box).1).trans hP.box, (hI.below.block _ (Array.getElem?_eq_some_iff.1 hP.rule).1).trans hP.rule, hP.kinds.mono hI.below, hI.new,
          reach_next (by omega) hP.map.keys hP.reach hI.mem (by rw [HL.out]; exact hI.look), by omega, hI.marks⟩
      clear hbx hP hI
      go_wp2
      rw [show ((j : Int) + 1) = ((j + 1 : Nat) : Int) from by omega]
      refine ⟨⟨j + 1, w.heap.size + 1 + 1, Mn, _, _, _, _, _, _, _, _, _, _, _, _, _, _, _, _, _, _, _, _, _, _, _, _, _, _, _, _, _, _, _, _, _, _, _, _, _, _, _, _, _, _, _, _, _, _, _, _, _, _, _, _, ds', rfl, by omega, hP'⟩, ?_⟩
      simp [intOf]
      omega
    · obtain ⟨T1, ⟨s, n⟩, T2, rfl, he, hl12⟩ := map_split htd
      have hsn : stV s = kx ∧ Value.int .i64 n = vx := by simpa [encP] using he
      obtain ⟨rfl, rfl⟩ := hsn
      have hsM : (s, n) ∈ M := (hI.mem (s, n)).2 (.inr (by simp))
      have hsg := hP.map.good _ hsM
      have hns := hP.map.small _ hsM
      have hrg := hg10
      rw [← hl12] at hR10
      have hs10' := Lib.hid hs10
      clear he hl12 htd hkm hs10
      go_wp2_with fail
      obtain ⟨T0, hT0⟩ : ∃ T0 : Nat, w10.heap.size = T0 := ⟨_, rfl⟩
      have hs11 := World.alloc_heap_new (w10.alloc (.cells (stA s) 78)) (.cells #[.int .i64 n] 3)
      rw [World.size_alloc] at hs11
      have hq11 := heap_alloc2_0 w10 (.cells (stA s) 78) (.cells #[.int .i64 n] 3)
      have hB1011 : Below w10.heap.size w10 ((w10.alloc (.cells (stA s) 78)).alloc (.cells #[.int .i64 n] 3)) := ((Below.refl _ w10).alloc (Nat.le_refl _) _).alloc (by simp) _
      have hz11 : ((w10.alloc (.cells (stA s) 78)).alloc (.cells #[.int .i64 n] 3)).heap.size = w10.heap.size + 2 := by simp
      revert hs11 hq11 hB1011 hz11
      generalize hw11 : (w10.alloc (.cells (stA s) 78)).alloc (.cells #[.int .i64 n] 3) = w11
      intro hs11 hq11 hB1011 hz11
      clear hw11
      rw [hT0] at hs11 hq11 hB1011 hz11 ⊢
      -- what lies where, when the iterator is made
      have hlo10 : w.heap.size + 5 ≤ T0 := by have := hI.size; have := hg10.size; omega
      have hB911 : Same (fun q => q = w.heap.size + 1 + 1 + 1 + 1) w9 w11 := ((Same.refl _ w9).grown hg10 (by rintro k ⟨⟩; exact .inl rfl)).trans (Same.of_below _ (hT0.symm ▸ hB1011))
      have hB11 : Below w.heap.size w w11 := hI.below.trans (hB911.below (by have := hI.size; omega) (by omega))
      have e1 := (hB911.block (w.heap.size + 1) (by have := hI.size; omega) (by omega)).trans hI.loan
      have e2 := hB911.cell (hI.below.cell (p := ⟨bk, kk * 2 + 1, none⟩) (lt_of_cell hkf) |>.trans hkf) (by have := lt_of_cell hkf; omega)
      obtain ⟨d0, d1, d2, d3, d4⟩ := five hq11
      have l0 : w11.cell? ⟨w.heap.size + 1, 0, none⟩ = some (.int .i64 kk) := by rw [cell_of_heap e1, ← hkk]; rfl
      have l1 : w11.cell? ⟨w.heap.size + 1, 1, none⟩ = some (.int .i64 l.card) := by rw [cell_of_heap e1]; rfl
      have l2 : w11.cell? ⟨w.heap.size + 1, 2, none⟩ = some (.int .i64 l.person) := by rw [cell_of_heap e1]; rfl
      have l3 : w11.cell? ⟨w.heap.size + 1, 3, none⟩ = some (.int .i64 l.slot) := by rw [cell_of_heap e1]; rfl
      have x0 := fun y : Aft w11.heap.size w11 => cell_stays y.h d0
      have x1 := fun y : Aft w11.heap.size w11 => cell_stays y.h d1
      have x2 := fun y : Aft w11.heap.size w11 => cell_stays y.h d2
      have x3 := fun y : Aft w11.heap.size w11 => cell_stays y.h d3
      have x4 := fun y : Aft w11.heap.size w11 => cell_stays y.h d4
      have x5 := fun y : Aft w11.heap.size w11 => cell_stays y.h l0
      have x6 := fun y : Aft w11.heap.size w11 => cell_stays y.h l1
      have x7 := fun y : Aft w11.heap.size w11 => cell_stays y.h l2
      have x8 := fun y : Aft w11.heap.size w11 => cell_stays y.h l3
      have x9 := fun y : Aft w11.heap.size w11 => cell_stays y.h e2
      have HKK := Lib.hid hkk
      clear hkk
      refine wp_region_aft_tail 9 mixed (by kernel_rfl) ?_
      simp only [List.take_succ_cons, List.take_zero, List.drop_succ_cons, List.drop_zero]
      repeat (go_big_quiet_step (fail))
      refine wpQuiet_nil ?_
      rintro _ ⟨y, rfl⟩
      have hb12 := y.h
      revert hb12
      generalize y.v = w12
      intro hb12
      clear x0 x1 x2 x3 x4 x5 x6 x7 x8 x9 y
      go_wp2_with fail
      have hB12 : Below w.heap.size w w12 := hB11.trans (hb12.mono hB11.size)
      have hm := hmoves w12 s (hP.below.trans (hB12.mono hP.below.size)) hsg.1
      have hlv : l.v = .agg #[.int .i64 kk, .int .i64 l.card, .int .i64 l.person, .int .i64 l.slot] := by rw [← HKK.out]
      rw [hlv] at hm
      refine hm.mono ?_
      clear hm hlv
      rintro e w13 ⟨gf, lb, rfl, egf, hb13, hIt⟩
      have hB13 : Below w.heap.size w w13 := hB12.trans (hb13.mono hB12.size)
      have hS913 : Same (fun q => q = w.heap.size + 1 + 1 + 1 + 1) w9 w13 := (hB911.trans (Same.of_below _ hb12)).trans (Same.of_below _ hb13)
      have hle9 := hI.size
      have z13 : T0 + 2 ≤ w12.heap.size ∧ w12.heap.size ≤ w13.heap.size := ⟨by have := hb12.size; omega, hb13.size⟩
      have hle0 := hP.below.size
      have y0 : w13.cell? ⟨w0.heap.size, 0, none⟩ = some (.int .i64 W) := by rw [cell_of_heap ((hB13.block _ (Array.getElem?_eq_some_iff.1 hP.box).1).trans hP.box)]; rfl
      have y1 : w13.cell? ⟨w0.heap.size + 1, 0, none⟩ = some (.iface T x) := by rw [cell_of_heap ((hB13.block _ (Array.getElem?_eq_some_iff.1 hP.rule).1).trans hP.rule)]; rfl
      have y2 : w13.cell? ⟨w.heap.size, 0, none⟩ = some (.int .i64 j) := by rw [cell_of_heap ((hS913.block _ (by omega) (by omega)).trans hI.num)]; rfl
      have e13 := (hS913.block (w.heap.size + 1) (by omega) (by omega)).trans hI.loan
      have y3 : w13.cell? ⟨w.heap.size + 1, 0, none⟩ = some (.int .i64 l.kind) := by rw [cell_of_heap e13]; rfl
      have y4 : w13.cell? ⟨w.heap.size + 1, 1, none⟩ = some (.int .i64 l.card) := by rw [cell_of_heap e13]; rfl
      have y5 : w13.cell? ⟨w.heap.size + 1, 2, none⟩ = some (.int .i64 l.person) := by rw [cell_of_heap e13]; rfl
      have y6 : w13.cell? ⟨w.heap.size + 1, 3, none⟩ = some (.int .i64 l.slot) := by rw [cell_of_heap e13]; rfl
      have y7 : w13.cell? ⟨w.heap.size + 1 + 1 + 1, 0, none⟩ = some (.map (some (w.heap.size + 1 + 1))) := by rw [cell_of_heap ((hS913.block _ (by omega) (by omega)).trans hI.box)]; rfl
      have y8 : w13.cell? ⟨T0 + 1, 0, none⟩ = some (.int .i64 n) := cell_stays hb13 (cell_stays hb12 (by rw [cell_of_heap hs11]; rfl))
      have hn13 : StMap c.homes.length w13 (w.heap.size + 1 + 1) Mn := hI.new.kept (hS913.block _ hI.new.lt (by omega))
      have hS1013 : Same (fun _ => False) w10 w13 := ((Same.of_below _ (hT0.symm ▸ hB1011)).trans (Same.of_below _ hb12)).trans (Same.of_below _ hb13)
      have hs10'' : Hid (T0 = w9.heap.size) := hT0.symm.trans hs10'.out
      clear e13 e1 e2 d0 d1 d2 d3 d4 l0 l1 l2 l3 hs11 hq11 hB1011 hz11 hkf hnx hent
      go_wp2_with fail
      refine wp_rangeFunc (P := Try.prog) (gf := gf) (lb := lb) rfl egf ((step c s l).map encSt) (fun q => w12.heap.size ≤ q ∧ q < w13.heap.size) (fun q => q = w.heap.size + 1 + 1 ∨ q = w13.heap.size + 1) ?hps (by omega) (by omega) (by omega) (by omega) ?hit
        (fun k V => Same (fun q => (w12.heap.size ≤ q ∧ q < w13.heap.size) ∨ q = w.heap.size + 1 + 1 ∨ q = w13.heap.size + 1) w13 V ∧ ∃ Mn', StMap c.homes.length V (w.heap.size + 1 + 1) Mn' ∧ ∀ t, lookM Mn' t = minF (D.flatMap (contrib c r W j l) ++ ((step c s l).take k).filterMap (contribOf r W j l n)) t)
        (fun _ _ _ => False) ?hI ?hIx ?h0 ?hround ?hdone ?hstop
      case hps =>
        intro v hv
        obtain ⟨x', _, rfl⟩ := List.mem_map.1 hv
        rfl
      case hit =>
        intro V hb _
        refine hIt _ V ?_ ?_ hb
        · rintro q (h | h) <;> omega
        · rintro q (h | h) <;> omega
      case hI =>
        rintro q A B ⟨hs, Mn', hmn, hlk⟩ hab
        refine ⟨hs.trans (hab.mono (fun q _ h => h.elim .inl (fun e => .inr (.inr e)))), Mn', hmn.kept (hab.block _ hmn.lt ?_), hlk⟩
        rintro (h | h) <;> omega
      case hIx => exact fun _ _ _ _ h _ => h
      case h0 =>
        intro V hb _
        exact ⟨Same.of_below _ hb, Mn, hn13.kept (hb.block _ hn13.lt), fun t => by rw [hI.look]; simp⟩
      case hstop => exact fun _ _ _ _ h => h.elim
      case hround =>
        intro k v hv V hIV hVsz
        obtain ⟨x', hx', rfl⟩ : ∃ x', (step c s l)[k]? = some x' ∧ encSt x' = v := by simpa using hv
        obtain ⟨t, wr⟩ := x'
        obtain ⟨hSV, Mn', hMn', hlk'⟩ := hIV
        have hgt : GoodSt c.homes.length t := step_good hsg hslots.2 (List.mem_of_getElem? hx')
        have HX := Lib.hid hx'
        have nb : ∀ q, q < w12.heap.size → q ≠ w.heap.size + 1 + 1 → ¬ ((w12.heap.size ≤ q ∧ q < w13.heap.size) ∨ q = w.heap.size + 1 + 1 ∨ q = w13.heap.size + 1) := by intro q h1 h2; omega
        have v0 := hSV.cell y0 (nb _ (by omega) (by omega))
        have v1 := hSV.cell y1 (nb _ (by omega) (by omega))
        have v2 := hSV.cell y2 (nb _ (by omega) (by omega))
        have v3 := hSV.cell y3 (nb _ (by omega) (by omega))
        have v4 := hSV.cell y4 (nb _ (by omega) (by omega))
        have v5 := hSV.cell y5 (nb _ (by omega) (by omega))
        have v6 := hSV.cell y6 (nb _ (by omega) (by omega))
        have v7 := hSV.cell y7 (nb _ (by omega) (by omega))
        have v8 := hSV.cell y8 (nb _ (by omega) (by omega))
        clear hv hx' nb y0 y1 y2 y3 y4 y5 y6 y7 y8
        simp only [encSt, List.zip_toArray, List.zip_cons_cons, List.zip_nil_left]
        gi_wp2_with fail
        refine ⟨(Same.refl _ _).alloc _, Below.heap_alloc _ _ _ hVsz, fun V2 hS2 hsz2 => ?_⟩
        have hsz2' : V2.heap.size = V.heap.size + 1 := by simpa using hsz2
        have hV2 : Same (fun q => q = w13.heap.size + 1) V V2 := ((Same.refl _ V).alloc _).trans hS2
        have hnew2 : V2.heap[V.heap.size]? = some (.cells (stA t) 78 (0, 0)) := (hS2.block _ (by simp) (by omega)).trans (World.alloc_heap_new V _)
        have v0 := hV2.cell v0 (by omega)
        have v1 := hV2.cell v1 (by omega)
        have v2 := hV2.cell v2 (by omega)
        have v3 := hV2.cell v3 (by omega)
        have v4 := hV2.cell v4 (by omega)
        have v5 := hV2.cell v5 (by omega)
        have v6 := hV2.cell v6 (by omega)
        have v7 := hV2.cell v7 (by omega)
        have v8 := hV2.cell v8 (by omega)
        obtain ⟨n0, n1, n2, n3, n4⟩ := five hnew2
        have hm2 : StMap c.homes.length V2 (w.heap.size + 1 + 1) Mn' := hMn'.kept (hV2.block _ hMn'.lt (by omega))
        have hSV2 : Same (fun q => (w12.heap.size ≤ q ∧ q < w13.heap.size) ∨ q = w.heap.size + 1 + 1 ∨ q = w13.heap.size + 1) w13 V2 := hSV.trans (hV2.mono (fun q _ h => .inr (.inr h)))
        have finNo : Hid (contribOf r W j l n (t, wr) = none) → ∀ V3, Below V2.heap.size V2 V3 → Same (fun q => q = w.heap.size + 1 + 1 ∨ q = w13.heap.size + 1) V2 V3 ∧ V3.heap[w13.heap.size + 1]? = V2.heap[w13.heap.size + 1]? ∧
            Same (fun q => (w12.heap.size ≤ q ∧ q < w13.heap.size) ∨ q = w.heap.size + 1 + 1 ∨ q = w13.heap.size + 1) w13 V3 ∧ ∃ Mn', StMap c.homes.length V3 (w.heap.size + 1 + 1) Mn' ∧ ∀ t, lookM Mn' t = minF (D.flatMap (contrib c r W j l) ++ ((step c s l).take (k + 1)).filterMap (contribOf r W j l n)) t := by
          intro hcn V3 hb3
          exact ⟨Same.of_below _ hb3, hb3.block _ (by omega), hSV2.trans (Same.of_below _ hb3), Mn', hm2.kept (hb3.block _ hm2.lt), fun t' => by rw [hlk', filterMap_take _ HX.out, hcn.out]; simp⟩
        have finYes : ∀ m, Hid (contribOf r W j l n (t, wr) = some (t, m)) → ∀ V3 V4, Below V2.heap.size V2 V3 → Same (fun q => q = w.heap.size + 1 + 1) V3 V4 → (∃ M'', StMap c.homes.length V4 (w.heap.size + 1 + 1) M'' ∧ ∀ s, lookM M'' s = addAt (lookM Mn') t m s) →
            Same (fun q => q = w.heap.size + 1 + 1 ∨ q = w13.heap.size + 1) V2 V4 ∧ V4.heap[w13.heap.size + 1]? = V2.heap[w13.heap.size + 1]? ∧
            Same (fun q => (w12.heap.size ≤ q ∧ q < w13.heap.size) ∨ q = w.heap.size + 1 + 1 ∨ q = w13.heap.size + 1) w13 V4 ∧ ∃ Mn', StMap c.homes.length V4 (w.heap.size + 1 + 1) Mn' ∧ ∀ t, lookM Mn' t = minF (D.flatMap (contrib c r W j l) ++ ((step c s l).take (k + 1)).filterMap (contribOf r W j l n)) t := by
          rintro m hcn V3 V4 hb3 hs4 ⟨M'', hM'', hl''⟩
          refine ⟨(Same.of_below _ hb3).trans (hs4.mono (fun q _ h => .inl h)), (hs4.block _ (by have := hb3.size; omega) (by omega)).trans (hb3.block _ (by omega)), (hSV2.trans (Same.of_below _ hb3)).trans (hs4.mono (fun q _ h => .inr (.inl h))), M'', hM'', fun t' => ?_⟩
          rw [hl'', filterMap_take _ HX.out, hcn.out, Option.toList_some, ← List.append_assoc, minF_snoc]
          unfold addAt
          simp only [hlk']
        clear hS2 hsz2 hSV hMn' hlk' hnew2
        have g2 := lt_of_cell v2
        have g3 := lt_of_cell v3
        cases wr
        · have hm100 : n + 1 ≤ 101 := by omega
          by_cases hle : n ≤ W
          · cases hrr : r j l false
            · have hcn : Hid (contribOf r W j l n (t, false) = none) := by unfold Hid contribOf; simp [hrr]
              have HR := Lib.hid hrr
              clear hrr finYes
              gi_wp2_with fail
              refine ⟨trivial, rfl, wideAt_calls ((hcon j l false V2).mono ?_)⟩
              rintro e V3 ⟨rfl, hb3⟩
              rw [HR.out]
              gi_wp2_with fail
              exact finNo hcn V3 hb3
            · have hcn : Hid (contribOf r W j l n (t, false) = some (t, n)) := by unfold Hid contribOf; simp [hrr, hle]
              have HR := Lib.hid hrr
              clear hrr finNo
              gi_wp2_with fail
              refine ⟨trivial, rfl, wideAt_calls ((hcon j l false V2).mono ?_)⟩
              rintro e V3 ⟨rfl, hb3⟩
              rw [HR.out]
              have v7 := cell_stays hb3 v7
              have n0 := cell_stays hb3 n0
              have n1 := cell_stays hb3 n1
              have n2 := cell_stays hb3 n2
              have n3 := cell_stays hb3 n3
              have n4 := cell_stays hb3 n4
              gi_wp2_with fail
              refine ⟨trivial, rfl, wideAt_calls ((add_any hn (hm2.kept (hb3.block _ hm2.lt)) t hgt n (by omega)).mono ?_)⟩
              rintro e V4 ⟨rfl, hs4, hM4⟩
              gi_wp2_with fail
              exact finYes n hcn V3 V4 hb3 hs4 hM4
          · have hcn : Hid (contribOf r W j l n (t, false) = none) := by unfold Hid contribOf; simp [hle]
            clear finYes
            have hle : W < n := by omega
            gi_wp2_with fail
            all_goals refine ⟨fun _ _ => trivial, ?_⟩
            all_goals gi_wp2_with fail
            all_goals exact finNo hcn V2 (Below.refl _ _)
        · have hm100 : n + 1 ≤ 101 := by omega
          by_cases hle : n + 1 ≤ W
          · cases hrr : r j l true
            · have hcn : Hid (contribOf r W j l n (t, true) = none) := by unfold Hid contribOf; simp [hrr]
              have HR := Lib.hid hrr
              clear hrr finYes
              gi_wp2_with fail
              refine ⟨trivial, rfl, wideAt_calls ((hcon j l true V2).mono ?_)⟩
              rintro e V3 ⟨rfl, hb3⟩
              rw [HR.out]
              gi_wp2_with fail
              exact finNo hcn V3 hb3
            · have hcn : Hid (contribOf r W j l n (t, true) = some (t, (n + 1))) := by unfold Hid contribOf; simp [hrr, hle]
              have HR := Lib.hid hrr
              clear hrr finNo
              gi_wp2_with fail
              refine ⟨trivial, rfl, wideAt_calls ((hcon j l true V2).mono ?_)⟩
              rintro e V3 ⟨rfl, hb3⟩
              rw [HR.out]
              have v7 := cell_stays hb3 v7
              have n0 := cell_stays hb3 n0
              have n1 := cell_stays hb3 n1
              have n2 := cell_stays hb3 n2
              have n3 := cell_stays hb3 n3
              have n4 := cell_stays hb3 n4
              gi_wp2_with fail
              refine ⟨trivial, rfl, wideAt_calls ((add_any hn (hm2.kept (hb3.block _ hm2.lt)) t hgt (n + 1) (by omega)).mono ?_)⟩
              rintro e V4 ⟨rfl, hs4, hM4⟩
              gi_wp2_with fail
              exact finYes (n + 1) hcn V3 V4 hb3 hs4 hM4
          · have hcn : Hid (contribOf r W j l n (t, true) = none) := by unfold Hid contribOf; simp [hle]
            clear finYes
            have hle : W < n + 1 := by omega
            gi_wp2_with fail
            all_goals refine ⟨fun _ _ => trivial, ?_⟩
            all_goals gi_wp2_with fail
            all_goals exact finNo hcn V2 (Below.refl _ _)
      case hdone =>
        rintro V ⟨hSV, Mn', hMn', hlk'⟩ hopen
        have hs9 := hs10''.out
        have hVb : ∀ q, q < w12.heap.size → q ≠ w.heap.size + 1 + 1 → V.heap[q]? = w13.heap[q]? := fun q h1 h2 => hSV.block q (by omega) (by omega)
        have hrgV : Rng Try.prog 78 V b (w.heap.size + 1 + 1 + 1 + 1) (M.map encP) ((T1 ++ T2).map encP) := by
          have hbl := hP.map.lt
          exact hR10.kept ((hVb b (by omega) (by omega)).trans (hS1013.block b (by omega) (by simp))) ((hVb _ (by omega) (by omega)).trans (hS1013.block _ (by omega) (by simp)))
        have hIn : InAt c r W ({ target := .collected w13.heap.size, args := #[] } :: ds') j l w w0.heap.size b M (D ++ [(s, n)]) (T1 ++ T2) Mn' V := by
          refine ⟨hB13.trans (hSV.below hB13.size (fun q hq h => by omega)), (hVb _ (by omega) (by omega)).trans ((hS913.block _ (by omega) (by omega)).trans hI.num), (hVb _ (by omega) (by omega)).trans ((hS913.block _ (by omega) (by omega)).trans hI.loan),
            (hVb _ (by omega) (by omega)).trans ((hS913.block _ (by omega) (by omega)).trans hI.box), hrgV, hMn', fun p => ?_, fun t => ?_, hI.marks.cons (by omega) (by omega) hopen (fun q hq hd => ?_), by have := hSV.size; omega⟩
          · rw [hI.mem]; simp only [List.mem_append, List.mem_cons, List.not_mem_nil, or_false]
            constructor
            · rintro (h | h | h | h)
              · exact .inl (.inl h)
              · exact .inr (.inl h)
              · exact .inl (.inr h)
              · exact .inr (.inr h)
            · rintro ((h | h) | h | h)
              · exact .inl h
              · exact .inr (.inr (.inl h))
              · exact .inr (.inl h)
              · exact .inr (.inr (.inr h))
          · rw [hlk', List.length_map, List.take_length, List.flatMap_append, List.flatMap_singleton, contrib_eq]
          · have hne1 : q ≠ w.heap.size + 1 + 1 := by
              rintro rfl
              obtain ⟨es, clock, hmm', _⟩ := hI.new.raw
              rw [hmm'] at hd; cases hd
            have hne2 : q ≠ w.heap.size + 1 + 1 + 1 + 1 := by
              rintro rfl
              obtain ⟨es, clock, seen, _, _, _, _, hmm', _⟩ := hI.rng
              rw [hmm'] at hd; cases hd
            exact (hVb q (by omega) hne1).trans ((hS913.block q hq hne2).trans hd)
        refine ⟨⟨D ++ [(s, n)], T1 ++ T2, Mn', _, _, _, _, _, _, _, _, _, _, _, _, _, _, _, _, _, _, _, _, _, _, _, _, _, _, _, _, _, _, _, _, _, _, _, _, _, _, _, _, _, rfl, hIn⟩, ?_⟩
        rw [hrgV.left, hI.rng.left]
        simp
  · have hji : j = i := by omega
    subst hji
    go_wp2_with fail
    obtain ⟨ks, rfl, hnd, hall⟩ := hP.marks
    refine leaves_marks (n := w0.heap.size) ks w hnd hall (fun W' hs hsz => ⟨results_tmp rfl _ _ _, b, M, rfl, hP.map.kept (hs.block b hP.map.lt ?_), hP.reach, hP.below.trans (hs.below hP.below.size (fun k hk hm => by have := hm.1; omega)), by have := hP.lo; omega⟩)
    rintro ⟨_, hd⟩
    obtain ⟨es, clock, hm, _⟩ := hP.map.raw
    rw [hm] at hd
    cases hd
end Go.Proofs.Ytlhobddaojdnoaa
