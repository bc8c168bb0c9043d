/- Wrongs. -/
import Derived.Test.YtlhobddaojdnoaaW22
import Derived.Test.YtlhobddaojdnoaaBase4
namespace Go.Proofs.Ytlhobddaojdnoaa
open Go.RowKit

theorem min_reach {c : Cab} {r : Rule} {W : Int} {ls : List Ln} {n : Nat} {w : World} {b : Nat} {M L : List (List Int × Int)} (hM : StMap n w b M) (h : ∀ t, lookM M t = reachF c r W ls t) (hL : ∀ p, p ∈ M ↔ p ∈ L) (h0 : M ≠ []) :
    minL (L.map fun p => p.2.toNat) = minL ((truthsBy c r ls W).map fun x => wrongs x.2) := by
  have hne : truthsBy c r ls W ≠ [] := fun e => h0 ((map_empty hM h).2 e)
  have hLne : L ≠ [] := fun e => h0 (List.eq_nil_iff_forall_not_mem.2 (fun p hp => by have := (hL p).1 hp; rw [e] at this; simp at this))
  obtain ⟨a1, a2⟩ := minL_spec (l := L.map fun p => p.2.toNat) (by simpa using hLne)
  obtain ⟨b1, b2⟩ := minL_spec (l := (truthsBy c r ls W).map fun x => wrongs x.2) (by simpa using hne)
  have look : ∀ t m, (t, m) ∈ L ↔ reachF c r W ls t = some m := fun t m => by rw [← hL, ← h t, look_some hM.keys]
  apply Nat.le_antisymm
  · obtain ⟨x, hx, he⟩ := List.mem_map.1 b1
    obtain ⟨m, hm, hle⟩ := minF_ex (L := (truthsBy c r ls W).map fun x => (x.1, (wrongs x.2 : Int))) (t := x.1) (x := (wrongs x.2 : Int)) (List.mem_map.2 ⟨_, hx, rfl⟩)
    have := a2 _ (List.mem_map.2 ⟨(x.1, m), (look _ _).2 hm, rfl⟩)
    simp only at this
    omega
  · obtain ⟨p, hp, he⟩ := List.mem_map.1 a1
    have h1 := (minF_some.1 ((look p.1 p.2).1 hp)).1
    obtain ⟨y, hy, hye⟩ := List.mem_map.1 h1
    have := b2 _ (List.mem_map.2 ⟨y, hy, rfl⟩)
    have h2 : (wrongs y.2 : Int) = p.2 := congrArg Prod.snd hye
    omega
def decN (v : Array Value) : Nat := match v.toList with | [Value.int _ n] => n.toNat | _ => 0
theorem cf63 (args : Array Value) (w : World) : (callFunc 63 args).run Try.prog w = .ok (.enter 63 args) w := by simp [callFunc, Try.func63, Try.f63, go_sem]

attribute [local go_sem] Oper.semAt_some
set_option maxRecDepth 100000 in
set_option maxHeartbeats 2000000 in
theorem wrongs_any {c : Cab} {w : World} {ah : Option Addr} {ch : Nat} {al : Option Addr} {cl : Nat} (hg : Given w c ah ch al cl) :
    Calls Try.prog 21 #[c.v ah ch al cl] w fun e w' => e = .returned (.tuple #[.int .i64 (wrongsE c).1, .int .i64 (wrongsE c).2]) ∧ Below w.heap.size w w' := by
  have hmf : ∀ (fn : Fn) (first cap : Array Value) (w : World), (Instr.makeFunc fn first cap).run Try.prog w = .ok (.func fn first cap) w := fun _ _ _ _ => rfl
  refine calls_of_wp_x Try.func21 rfl ?_
  simp only [Try.ntmps21, List.size_toArray, List.length_cons, List.length_nil, Nat.reduceAdd, Nat.reduceSub, Array.replicate_succ, Array.replicate_zero, List.push_toArray, List.append_toArray, List.nil_append, List.cons_append]
  go_wp2_with fail
  have hb1 : Below w.heap.size w ((w.alloc (.cells (c.cells ah ch al cl) 25)).alloc (.cells #[.int .i64 0] 28)) := ((Below.refl _ w).alloc (Nat.le_refl _) _).alloc (by simp) _
  have q2 := World.alloc_heap_new (w.alloc (.cells (c.cells ah ch al cl) 25)) (.cells #[.int .i64 0] 28)
  rw [World.size_alloc] at q2
  have hg1 := hg.mono hb1
  have hz1 : ((w.alloc (.cells (c.cells ah ch al cl) 25)).alloc (.cells #[.int .i64 0] 28)).heap.size = w.heap.size + 2 := by simp
  revert hb1 q2 hg1 hz1
  generalize ((w.alloc (.cells (c.cells ah ch al cl) 25)).alloc (.cells #[.int .i64 0] 28)) = w1
  intro hb1 q2 hg1 hz1
  cases hv : c.valid with
  | false =>
    refine (look_no hg1.hi hg1.li hg1.hh hg1.hl hv).mono ?_
    rintro e w2 ⟨rfl, hb2⟩
    have he2 := (hb2.block (w.heap.size + 1) (by omega)).trans q2
    have hc2 : w2.cell? ⟨w.heap.size + 1, 0, none⟩ = some (.int .i64 0) := by rw [cell_of_heap he2]; rfl
    have hb3 : Below w.heap.size w ((w2.alloc (.cells #[.int .i64 1] 105)).setCell ⟨w.heap.size + 1, 0, none⟩ (.int .i64 1)) := by
      have h2 := hb1.trans (hb2.mono (by omega))
      exact (h2.alloc h2.size _).setCell (by simp) _
    have hcell := World.cell?_setCell_same (w2.alloc (.cells #[.int .i64 1] 105)) ⟨w.heap.size + 1, 0, none⟩ (.int .i64 1) (cell_stays ((Below.refl _ w2).alloc (Nat.le_refl _) _) hc2)
    refine ⟨[], _, rfl, leaves_no (recov63_no 1 hc2 (frozen_of_heap he2)) rfl cf63 (res_tc rfl _ rfl hcell) ⟨?_, hb3⟩⟩
    unfold wrongsE
    rw [hv]
    rfl
  | true =>
    obtain ⟨v1, v2, v3, v4, v5, v6⟩ := valid_parts hv
    refine (look_yes hg1.hi hg1.li hg1.hh hg1.hl hv).mono ?_
    rintro e w2 ⟨bc, rfl, hbc, hc, hb2⟩
    have he2 := (hb2.block (w.heap.size + 1) (by omega)).trans q2
    have hB2 := hb1.trans (hb2.mono (by omega))
    have hz2 : w.heap.size + 2 ≤ w2.heap.size := by have := hb2.size; omega
    clear hb1 hz1 q2 hg1 hb2
    go_wp2_with fail
    have hbE : Below w2.heap.size w2 (w2.alloc (.cells #[.int .i64 0, .int .i64 0, .bool false] 86)) := (Below.refl _ w2).alloc (Nat.le_refl _) _
    have hE0 : EndsOf (w2.alloc (.cells #[.int .i64 0, .int .i64 0, .bool false] 86)) w2.heap.size [] := World.alloc_heap_new w2 _
    have hcE := hc.mono hbE
    have hz3 : (w2.alloc (.cells #[.int .i64 0, .int .i64 0, .bool false] 86)).heap.size = w2.heap.size + 1 := by simp
    revert hbE hE0 hcE hz3
    generalize w2.alloc (.cells #[.int .i64 0, .int .i64 0, .bool false] 86) = w3
    intro hbE hE0 hcE hz3
    have x1 := fun y : Aft w3.heap.size w3 => cell_stays y.h hcE.l
    refine wp_region_aft_tail 15 mixed (by kernel_rfl) ?_
    simp only [List.take_succ_cons, List.take_zero, List.drop_succ_cons, List.drop_zero]
    repeat (go_big_quiet_step (fail))
    refine wpQuiet_nil ?_
    rintro _ ⟨y, rfl⟩
    have hb4 := y.h
    revert hb4
    generalize y.v = w4
    intro hb4
    clear y x1
    go_wp2_with fail
    refine (play_valid anything_rule (hcE.mono hb4) hv hg.cl c.loans.length (Nat.le_refl _) (c.loans.length : Int) ⟨by omega, by omega⟩).mono ?_
    rintro e w5 ⟨b, M, rfl, hM, hl, hb5, hlo⟩
    rw [List.take_length] at hl
    go_wp2
    have hb6 : Below w5.heap.size w5 (w5.alloc (.cells #[.map (some b)] 69)) := (Below.refl _ w5).alloc (Nat.le_refl _) _
    have cx : (w5.alloc (.cells #[.map (some b)] 69)).cell? ⟨w5.heap.size, 0, none⟩ = some (.map (some b)) := by rw [cell_of_heap (World.alloc_heap_new w5 (.cells #[.map (some b)] 69))]; rfl
    have hM6 := hM.kept (hb6.block b hM.lt)
    have hb36 : Below w3.heap.size w3 (w5.alloc (.cells #[.map (some b)] 69)) := (hb4.trans (hb5.mono hb4.size)).trans (hb6.mono (by have := hb4.size; have := hb5.size; omega))
    have hz6 : (w5.alloc (.cells #[.map (some b)] 69)).heap.size = w5.heap.size + 1 := by simp
    have hlb := hM.lt
    have hz45 := hb4.size
    have hz55 := hb5.size
    revert hb6 cx hM6 hb36 hz6
    generalize w5.alloc (.cells #[.map (some b)] 69) = w6
    intro hb6 cx hM6 hb36 hz6
    have hE6 : EndsOf w6 w2.heap.size [] := (hb36.block _ (by omega)).trans hE0
    have hB26 : Below w2.heap.size w2 w6 := hbE.trans (hb36.mono (by omega))
    have hb1' : w3.heap.size ≤ b := by omega
    clear hb5 hb4 hcE hE0 hbE hb6 hb36 hc
    refine wp_rangeFuncL (P := Try.prog) (gf := 86) (lb := #[.pointer (some ⟨w5.heap.size, 0, none⟩)]) rfl (fun args w => by simp [callFunc, Try.func86, Try.f86, go_sem])
      (fun _ v => ∃ p ∈ M, v = encN p) (fun D => ∃ L : List (List Int × Int), D = L.map encN ∧ ∀ p, p ∈ M ↔ p ∈ L) (fun q => q = w6.heap.size + 2) (fun q => q = w2.heap.size ∨ q = w6.heap.size + 1) ?hps (by omega) (by omega) (by omega) (by omega) ?hit
      (fun D V => Same (fun q => q = w2.heap.size ∨ q = w6.heap.size + 1) w6 V ∧ ∃ E : List Nat, D = E.map (fun x : Nat => #[Value.int .i64 (x : Int)]) ∧ EndsOf V w2.heap.size E)
      (fun _ _ _ => False) ?hI ?hIx ?h0 ?hround ?hdone ?hstop
    case hps => rintro _ v ⟨p, _, rfl⟩; rfl
    case hit =>
      intro V hb hsz
      have := values_iter (hM6.kept (hb.block b hM6.lt)) (cell_stays hb cx) (fun q => q = w2.heap.size ∨ q = w6.heap.size + 1) (by omega) (by omega)
      rw [hsz] at this
      exact this
    case hI =>
      rintro D A B ⟨hs, E, hD, hE⟩ hab
      refine ⟨⟨hab.os.trans hs.os, hab.tape.trans hs.tape, hab.output.trans hs.output, Nat.le_trans hs.size hab.size, fun q hq hn => (hab.block q (Nat.lt_of_lt_of_le hq hs.size) ?_).trans (hs.block q hq hn)⟩, E, hD, (hab.block _ (Array.getElem?_eq_some_iff.1 hE).1 ?_).trans hE⟩
      · rintro (h | h)
        · omega
        · exact hn (.inr h)
      · rintro (h | h) <;> omega
    case hIx => exact fun _ _ _ _ h _ => h
    case h0 =>
      intro V hb _
      exact ⟨Same.of_below _ hb, [], rfl, (hb.block _ (Array.getElem?_eq_some_iff.1 hE6).1).trans hE6⟩
    case hstop => exact fun _ _ _ _ _ h => h.elim
    case hround =>
      rintro D v ⟨p, hp, rfl⟩ V ⟨hSV, E, hD, hE⟩ hVsz
      have hps := hM.small p hp
      obtain ⟨x, hx⟩ : ∃ x : Nat, p.2 = (x : Int) := ⟨p.2.toNat, by omega⟩
      have HX := Lib.hid hx
      simp only [encN, hx, List.zip_toArray, List.zip_cons_cons, List.zip_nil_left]
      clear hx
      gi_wp2_with fail
      refine ⟨Same.refl _ _, trivial, fun V2 hS2 hsz2 => ?_⟩
      have hE2 : EndsOf V2 w2.heap.size E := (hS2.block _ (Array.getElem?_eq_some_iff.1 hE).1 (by omega)).trans hE
      gi_wp2_with fail
      rw [HX.out]
      refine ⟨trivial, rfl, wideAt_calls ((endsOf_any x hE2).mono ?_)⟩
      rintro e V3 ⟨rfl, hE3, hS3⟩
      have hS23 : Same (fun q => q = w2.heap.size ∨ q = w6.heap.size + 1) V2 V3 := hS3.mono (fun q _ h => .inl h)
      have hS03 : Same (fun q => q = w2.heap.size ∨ q = w6.heap.size + 1) w6 V3 := (hSV.trans (hS2.mono (fun q _ h => .inr h))).trans hS23
      have hrec : V3.heap[w6.heap.size + 1]? = V2.heap[w6.heap.size + 1]? := hS3.block _ (by omega) (by omega)
      have HZ6 := Lib.hid hz6
      clear hz6
      gi_wp2_with fail
      exact ⟨hS23, hrec, hS03, E ++ [x], by rw [hD, List.map_append]; rfl, hE3⟩
    case hdone =>
      rintro D V ⟨L, rfl, hL⟩ ⟨hSV, E, hD, hE⟩ hopen
      have hz6' : w5.heap.size + 1 ≤ w6.heap.size := by omega
      clear hz6
      obtain ⟨n0, n1, n2, _⟩ := EndsAt.cells hE
      simp only [Exit.inBlock, Exit.then]
      go_wp2_with fail
      have hEL : E = L.map fun p => p.2.toNat := by
        have := congrArg (List.map decN) hD
        rw [List.map_map, List.map_map] at this
        simpa [Function.comp_def, decN, encN] using this.symm
      have hk := (Array.getElem?_eq_some_iff.1 hopen).1
      have eV := (hSV.block (w.heap.size + 1) (by omega) (by omega)).trans ((hB26.block (w.heap.size + 1) (by omega)).trans he2)
      have hBV : Below w.heap.size w V := (hB2.trans (hB26.mono (by omega))).trans (hSV.below (by omega) (fun q hq h => by omega))
      have hput : ∀ X, Below w.heap.size w X → Below w.heap.size w (X.putObj w6.heap.size (.deferred none)) := fun X hX =>
        (((Same.of_below (fun q => w.heap.size ≤ q) hX).putObj (.inl (by omega)) _).below (Nat.le_refl _) (fun q hq h => by omega))
      by_cases hE0 : E = []
      · subst hE0
        have hL0 : L = [] := by simpa using hEL.symm
        have hM0 : M = [] := List.eq_nil_iff_forall_not_mem.2 (fun p hp => by have := (hL p).1 hp; rw [hL0] at this; simp at this)
        have ht := (map_empty hM hl).1 hM0
        rw [show (![].isEmpty : Bool) = false from rfl]
        refine (need_no _ _).mono ?_
        rintro e w7 ⟨rfl, rfl⟩
        have eP : (V.putObj w6.heap.size (.deferred none)).heap[w.heap.size + 1]? = some (.cells #[.int .i64 0] 28 (0, 0)) := (World.putObj_heap_other (by omega)).trans eV
        have hcP : (V.putObj w6.heap.size (.deferred none)).cell? ⟨w.heap.size + 1, 0, none⟩ = some (.int .i64 0) := by rw [cell_of_heap eP]; rfl
        have hBP := hput V hBV
        have hb3 : Below w.heap.size w (((V.putObj w6.heap.size (.deferred none)).alloc (.cells #[.int .i64 4] 105)).setCell ⟨w.heap.size + 1, 0, none⟩ (.int .i64 4)) := (hBP.alloc hBP.size _).setCell (by simp) _
        have hcell := World.cell?_setCell_same ((V.putObj w6.heap.size (.deferred none)).alloc (.cells #[.int .i64 4] 105)) ⟨w.heap.size + 1, 0, none⟩ (.int .i64 4) (cell_stays ((Below.refl _ _).alloc (Nat.le_refl _) _) hcP)
        refine ⟨[w6.heap.size], _, rfl, by simp, _, run_takeDeferred hopen, leaves_no (recov63_no 4 hcP (frozen_of_heap eP)) rfl cf63 (res_tc rfl _ rfl hcell) ⟨?_, hb3⟩⟩
        unfold wrongsE
        simp only [hv, ht]
        rfl
      · have hM0 : M ≠ [] := by
          intro h
          apply hE0
          have hL0 : L = [] := List.eq_nil_iff_forall_not_mem.2 (fun p hp => by have := (hL p).2 hp; rw [h] at this; simp at this)
          rw [hEL, hL0]; rfl
        have ht : truthsBy c anyRule c.loans c.loans.length ≠ [] := fun e => hM0 ((map_empty hM hl).2 e)
        have hmin := min_reach hM hl hL hM0
        rw [← hEL] at hmin
        have HMIN := Lib.hid hmin
        clear hmin hEL hD
        rw [show (!E.isEmpty) = true from by cases E with | nil => exact absurd rfl hE0 | cons _ _ => rfl]
        refine (need_yes _ _).mono ?_
        rintro e w7 ⟨rfl, rfl⟩
        have cV : V.cell? ⟨w.heap.size + 1, 0, none⟩ = some (.int .i64 0) := by rw [cell_of_heap eV]; rfl
        have fV : V.frozen? ⟨w.heap.size + 1, 0, none⟩ = false := frozen_of_heap eV
        have hop := hopen
        clear hopen
        go_wp2_with fail
        have hop1 : (V.setCell ⟨w.heap.size + 1, 0, none⟩ (.int .i64 0)).heap[w6.heap.size]? = some (.deferred (some [])) := (Below.heap_setCell _ _ _ _ (by simp; omega)).trans hop
        have hcell := World.cell?_setCell_same V ⟨w.heap.size + 1, 0, none⟩ (.int .i64 0) cV
        have hoth : ((V.setCell ⟨w.heap.size + 1, 0, none⟩ (.int .i64 0)).putObj w6.heap.size (.deferred none)).heap[w.heap.size + 1]? = (V.setCell ⟨w.heap.size + 1, 0, none⟩ (.int .i64 0)).heap[w.heap.size + 1]? := World.putObj_heap_other (by omega)
        have hcP : ((V.setCell ⟨w.heap.size + 1, 0, none⟩ (.int .i64 0)).putObj w6.heap.size (.deferred none)).cell? ⟨w.heap.size + 1, 0, none⟩ = some (.int .i64 0) := (World.cell?_of_block (w := V.setCell ⟨w.heap.size + 1, 0, none⟩ (.int .i64 0)) hoth).trans hcell
        refine ⟨[w6.heap.size], _, rfl, by simp, _, run_takeDeferred hop1, leaves_ok (recov63_ok _ _) cf63 (res_tc rfl _ rfl hcP) ⟨?_, hput _ (hBV.setCell (by simp) _)⟩⟩
        unfold wrongsE
        simp only [hv]
        rw [if_neg (by simp), if_neg (by simpa using ht), ← HMIN.out]
        rfl
end Go.Proofs.Ytlhobddaojdnoaa
