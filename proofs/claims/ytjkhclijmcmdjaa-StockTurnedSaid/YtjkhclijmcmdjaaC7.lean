/- Some deals, one after another. The drawn regions of Play and On. The program's Play. The drawn regions of On. The program's On. The program's On: the walk. The drawn region of Starts, and its laws. -/
import Derived.Test.YtjkhclijmcmdjaaC6
namespace Go.Proofs.Ytjkhclijmcmdjaa
open Go.RowKit
set_option linter.unusedVariables false
set_option linter.unusedSimpArgs false
/-- How some deals are answered. -/
def AfterE (sa : Option Addr) (B : Nat) (r : Shf × Nat × Bool) (e : Ending) (w' : World) : Prop :=
  if r.2.2 then ∃ a c, e = .returned (.tuple #[.agg #[.int .i64 r.1.paper, .int .i64 r.1.money, .slice a r.1.cards.length c], .int .i64 (r.2.1 : Int), .int .i64 0]) ∧ IsSpns w' a r.1.cards ∧ (a = sa ∨ ∃ gb off, a = some ⟨gb, off, none⟩ ∧ B ≤ gb)
  else e = .returned (.tuple #[.agg #[.int .i64 0, .int .i64 0, .slice none 0 0], .int .i64 (r.2.1 : Int), .int .i64 10])
/-- Three cells of a block are set. -/
abbrev set3 (w : World) (b : Nat) (x y z : Value) : World := ((w.setCell ⟨b, 0, none⟩ x).setCell ⟨b, 1, none⟩ y).setCell ⟨b, 2, none⟩ z
theorem set3_at {w : World} {b : Nat} {x y z x0 y0 z0 : Value} {t : TypeId} (h : w.heap[b]? = some (.cells #[x0, y0, z0] t (0, 0))) : (set3 w b x y z).heap[b]? = some (.cells #[x, y, z] t (0, 0)) := by
  simpa [set3] using heap_setCell_at (k := 2) (heap_setCell_at (k := 1) (heap_setCell_at (k := 0) h x) y) z
theorem set3_other {w : World} {b k : Nat} {x y z : Value} (h : k ≠ b) : (set3 w b x y z).heap[k]? = w.heap[k]? :=
  (Below.heap_setCell _ _ _ _ h).trans ((Below.heap_setCell _ _ _ _ h).trans (Below.heap_setCell _ _ _ _ h))
theorem set3_below {B b : Nat} {A w : World} {x y z : Value} (h : Below B A w) (hb : B ≤ b) : Below B A (set3 w b x y z) :=
  ((h.setCell (p := ⟨b, 0, none⟩) hb _).setCell (p := ⟨b, 1, none⟩) hb _).setCell (p := ⟨b, 2, none⟩) hb _
theorem set3_spns {w : World} {gb off b : Nat} {l : List Spn} {x y z : Value} (h : IsSpns w (some ⟨gb, off, none⟩) l) (hne : gb ≠ b) : IsSpns (set3 w b x y z) (some ⟨gb, off, none⟩) l :=
  fun i hi => by
    obtain ⟨b', off', he, h0, h1⟩ := h i hi
    cases he
    exact ⟨gb, off, rfl, (cell_eq (set3_other hne)).trans h0, (cell_eq (set3_other hne)).trans h1⟩
theorem set3_size {w : World} {b : Nat} {x y z : Value} : (set3 w b x y z).heap.size = w.heap.size := by simp [set3]
set_option maxRecDepth 100000 in
set_option maxHeartbeats 4000000 in
theorem after57 {p : Prs} {A : PrsA} {s : Shf} {l : List Dl} {sa ad : Option Addr} {cs cd bq : Nat} {w : World} (hP : IsPress w p A bq) (hV : p.valid = true) (hs : IsSpns w sa s.cards) (ha : IsDls w ad l) (hd : ∀ d ∈ l, dealOk p d = true)
    (hll : l.length ≤ 1000) (hlf : ∀ d ∈ l, d.forme.slots.length ≤ 1000) (hn : s.cards.length = p.wanted.length) (hS : SBd s 2251799813685248) :
    Calls Try.prog 57 #[.pointer (some ⟨bq, 0, none⟩), .agg #[.int .i64 s.paper, .int .i64 s.money, .slice sa s.cards.length cs], .slice ad l.length cd] w fun e w' => AfterE sa w.heap.size (p.runF s l 0) e w' ∧ Below w.heap.size w w' := by
  have hw4 : 1 ≤ s.cards.length ∧ s.cards.length ≤ 4 := by rw [hn]; exact wanted_of hV
  obtain ⟨gb, off, rfl, hc0, hc1⟩ := hs 0 (by omega)
  have hgb : gb < w.heap.size := by
    rcases Nat.lt_or_ge gb w.heap.size with h | h
    · exact h
    · simp [World.cell?, Array.getElem?_eq_none h] at hc0
  have hX := alloc2 w #[.int .i64 s.paper, .int .i64 s.money, .slice (some ⟨gb, off, none⟩) s.cards.length cs] #[.int .i64 0, .int .i64 0, .slice none 0 0] 48 48
  have HX : Hid (AftI w (some ⟨gb, off, none⟩) 2251799813685248 w.heap.size (w.heap.size + 1) p s l 0 s gb off cs ((w.alloc (.cells #[.int .i64 s.paper, .int .i64 s.money, .slice (some ⟨gb, off, none⟩) s.cards.length cs] 48)).alloc (.cells #[.int .i64 0, .int .i64 0, .slice none 0 0] 48))) :=
    ⟨hX.1, hX.2.1, hs.mono hX.2.2, by omega, by omega, Or.inl rfl, hX.2.2, by simp, hn, hS.le (by omega)⟩
  have HM : Hid (∀ w', Below w.heap.size w w' → IsPress w' p A bq ∧ IsDls w' ad l) := fun w' hb => ⟨hP.mono hb, ha.mono hb⟩
  have HD := Lib.hid (And.intro hV (And.intro hd hlf))
  clear hX hP hs ha hd hlf hV hS hc0 hc1 hgb hn
  go_enter Try.func57, Try.ntmps57
  refine wp_seq_hid ?_
  intro K0 HK0
  go_wp2_with fail
  refine HK0.out _ _ ?_
  clear HK0 K0
  revert HX
  generalize (w.alloc (.cells #[.int .i64 s.paper, .int .i64 s.money, .slice (some ⟨gb, off, none⟩) s.cards.length cs] 48)).alloc (.cells #[.int .i64 0, .int .i64 0, .slice none 0 0] 48) = w1
  generalize hb6 : w.heap.size + 1 = b6
  generalize hb4 : w.heap.size = b4
  intro HX
  have HBE : Hid (w.heap.size = b4 ∧ b4 < b6) := ⟨hb4, by omega⟩
  clear hb6 hb4
  refine wp_seq_hid ?_
  intro K1 HK1
  go_wp2_with fail
  go_loopw [15] (fun i wr => ∃ (k : Nat) (sk : Shf) (gb' off' cg : Nat), k ≤ l.length ∧ i = .int .i64 k ∧ Hid (AftI w (some ⟨gb, off, none⟩) 2251799813685248 b4 b6 p s l k sk gb' off' cg wr)) (fun i _ => l.length - (intOf i).toNat)
  case atStart => exact ⟨0, s, gb, off, cs, by omega, rfl, HX.out⟩
  case round =>
    obtain ⟨k, sk, gb', off', cg, hk, rfl, HW⟩ := hrel
    by_cases hlk : k < l.length
    · obtain ⟨b, o', hab, ai, ci, c0, c1, c2, c3, c4, c5, c6⟩ := (HM.out wr HW.out.le).2 k hlk
      rw [hab]
      have HAB := Lib.hid hab
      have HLK := Lib.hid hlk
      have HDR := Lib.hid (drop_gd hlk)
      have hmem : gd l k ∈ l := by simp [gd, hlk]
      have HDO := Lib.hid (And.intro (HD.out.2.1 _ hmem) (HD.out.2.2 _ hmem))
      have hb5 : Below wr.heap.size wr (wr.alloc (.cells ((gd l k).arr ai ci) 62)) := (Below.refl _ wr).alloc (Nat.le_refl _) _
      have q5 := World.alloc_heap_new wr (.cells ((gd l k).arr ai ci) 62)
      have H5 : Hid ((wr.alloc (.cells ((gd l k).arr ai ci) 62)).heap[wr.heap.size]? = some (.cells ((gd l k).arr ai ci) 62 (0, 0)) ∧ AftI w (some ⟨gb, off, none⟩) 2251799813685248 b4 b6 p s l k sk gb' off' cg (wr.alloc (.cells ((gd l k).arr ai ci) 62)) ∧ IsInts (wr.alloc (.cells ((gd l k).arr ai ci) 62)) ai (gd l k).forme.slots ∧ b4 < wr.heap.size ∧ b6 < wr.heap.size) :=
        ⟨q5, ⟨(hb5.block _ (heap_lt HW.out.h4)).trans HW.out.h4, (hb5.block _ (heap_lt HW.out.h6)).trans HW.out.h6, HW.out.sp.mono hb5, HW.out.ne, HW.out.ne6, HW.out.src, HW.out.le.trans (hb5.mono HW.out.le.size), HW.out.run, HW.out.len, HW.out.bd⟩, c6.mono hb5, heap_lt HW.out.h4, heap_lt HW.out.h6⟩
      clear hab q5 hb5 c6 hmem HW
      revert c0 c1 c2 c3 c4 c5 HDR HDO H5
      generalize gd l k = d
      intro c0 c1 c2 c3 c4 c5 HDR HDO H5
      go_upto_region 4 with fail
      clear c0 c1 c2 c3 c4 c5
      revert H5
      generalize wr.alloc (.cells (d.arr ai ci) 62) = w5
      generalize wr.heap.size = bd
      intro H5
      have x0 : w5.cell? ⟨b4, 0, none⟩ = some (.int .i64 sk.paper) := by rw [cell_of_heap H5.out.2.1.h4]; rfl
      have x1 : w5.cell? ⟨b4, 1, none⟩ = some (.int .i64 sk.money) := by rw [cell_of_heap H5.out.2.1.h4]; rfl
      have x2 : w5.cell? ⟨b4, 2, none⟩ = some (.slice (some ⟨gb', off', none⟩) sk.cards.length cg) := by rw [cell_of_heap H5.out.2.1.h4]; rfl
      obtain ⟨k0, k1, k2, k3, k4, k5⟩ := dl_cells H5.out.1
      have HC := Lib.hid (done62 (A := A) (cs := cg) (c := ci) (HM.out w5 H5.out.2.1.le).1 HD.out.1 H5.out.2.1.sp H5.out.2.2.1 HDO.out.2 HDO.out.1 H5.out.2.1.len (H5.out.2.1.bd.le (by omega)))
      go_wp2_with fail
      refine HC.out.mono ?_
      clear HC x0 x1 x2 k0 k1 k2 k3 k4 k5
      rintro e w6 ⟨he, hb6⟩
      have HB6 := Lib.hid (And.intro ((hb6.block _ (heap_lt H5.out.2.1.h4)).trans H5.out.2.1.h4) (And.intro ((hb6.block _ (heap_lt H5.out.2.1.h6)).trans H5.out.2.1.h6) (And.intro (H5.out.2.1.le.trans (hb6.mono H5.out.2.1.le.size)) (And.intro hb6.size (And.intro (heap_lt H5.out.2.1.h4) (heap_lt H5.out.2.1.h6))))))
      clear hb6
      cases hdl : p.deal sk d with
      | none =>
        rw [hdl] at he
        have hrun := H5.out.2.1.run
        rw [HDR.out, runF_none hdl] at hrun
        have HR := Lib.hid hrun
        obtain ⟨s', g, he⟩ := he
        subst he
        clear hdl hrun H5
        have y0 : w6.cell? ⟨b6, 0, none⟩ = some (.int .i64 0) := by rw [cell_of_heap HB6.out.2.1]; rfl
        have y1 : w6.cell? ⟨b6, 1, none⟩ = some (.int .i64 0) := by rw [cell_of_heap HB6.out.2.1]; rfl
        have y2 : w6.cell? ⟨b6, 2, none⟩ = some (.slice none 0 0) := by rw [cell_of_heap HB6.out.2.1]; rfl
        have f0 : w6.frozen? ⟨b6, 0, none⟩ = false := frozen_of_heap HB6.out.2.1
        have f1 : w6.frozen? ⟨b6, 1, none⟩ = false := frozen_of_heap HB6.out.2.1
        have f2 : w6.frozen? ⟨b6, 2, none⟩ = false := frozen_of_heap HB6.out.2.1
        have hl6 := heap_lt HB6.out.2.1
        go_wp2_with fail
        have hba : Below w6.heap.size (set3 w6 b6 (.int .i64 0) (.int .i64 0) (.slice none 0 0)) ((set3 w6 b6 (.int .i64 0) (.int .i64 0) (.slice none 0 0)).alloc (.cells #[.int .i64 s'.paper, .int .i64 s'.money, .slice (some ⟨g, 0, none⟩) s'.cards.length s'.cards.length] 48)) := (Below.refl _ _).alloc (by rw [set3_size]; exact Nat.le_refl _) _
        have hq : ((set3 w6 b6 (.int .i64 0) (.int .i64 0) (.slice none 0 0)).alloc (.cells #[.int .i64 s'.paper, .int .i64 s'.money, .slice (some ⟨g, 0, none⟩) s'.cards.length s'.cards.length] 48)).heap[b6]? = some (.cells #[.int .i64 0, .int .i64 0, .slice none 0 0] 48 (0, 0)) := (hba.block _ (heap_lt HB6.out.2.1)).trans (set3_at HB6.out.2.1)
        refine bodyPost_ret (v := .tuple #[.agg #[.int .i64 0, .int .i64 0, .slice none 0 0], .int .i64 (k : Int), .int .i64 10]) (res57 (y0 := .int .i64 0) (y1 := .int .i64 0) (y2 := .slice none 0 0) rfl _ rfl rfl rfl (by rw [cell_of_heap hq]; rfl) (by rw [cell_of_heap hq]; rfl) (by rw [cell_of_heap hq]; rfl)) rfl ⟨?_, ?_⟩
        · rw [HR.out]; rfl
        · have hle : b4 ≤ b6 := by have := HBE.out; omega
          exact (set3_below (by rw [← HBE.out.1]; exact HB6.out.2.2.1) hle).trans (hba.mono (by have := HB6.out.2.2.2.2.1; have := HB6.out.2.2.2.1; omega))
      | some t =>
        rw [hdl] at he
        have hrun := H5.out.2.1.run
        rw [HDR.out, runF_some hdl] at hrun
        have HR := Lib.hid (And.intro hrun (And.intro ((deal_len hdl).trans H5.out.2.1.len) (deal_bd HD.out.1 HDO.out.1 H5.out.2.1.len H5.out.2.1.bd hdl)))
        obtain ⟨g, hg, he, hsp⟩ := he
        subst he
        have HSP := Lib.hid (And.intro hsp (And.intro hg (deal_len hdl)))
        clear hdl hrun hsp hg
        have y0 : w6.cell? ⟨b4, 0, none⟩ = some (.int .i64 sk.paper) := by rw [cell_of_heap HB6.out.1]; rfl
        have y1 : w6.cell? ⟨b4, 1, none⟩ = some (.int .i64 sk.money) := by rw [cell_of_heap HB6.out.1]; rfl
        have y2 : w6.cell? ⟨b4, 2, none⟩ = some (.slice (some ⟨gb', off', none⟩) sk.cards.length cg) := by rw [cell_of_heap HB6.out.1]; rfl
        have f0 : w6.frozen? ⟨b4, 0, none⟩ = false := frozen_of_heap HB6.out.1
        have f1 : w6.frozen? ⟨b4, 1, none⟩ = false := frozen_of_heap HB6.out.1
        have f2 : w6.frozen? ⟨b4, 2, none⟩ = false := frozen_of_heap HB6.out.1
        have hl4 := heap_lt HB6.out.1
        go_wp2_with fail
        have hne : g ≠ b4 := by have := HSP.out.2.1; have := HB6.out.2.2.2.2.1; omega
        have hbe : b6 ≠ b4 := by have := HBE.out.2; omega
        have hba : ∀ o, Below w6.heap.size (set3 w6 b4 (.int .i64 t.paper) (.int .i64 t.money) (.slice (some ⟨g, 0, none⟩) t.cards.length t.cards.length)) ((set3 w6 b4 (.int .i64 t.paper) (.int .i64 t.money) (.slice (some ⟨g, 0, none⟩) t.cards.length t.cards.length)).alloc o) := fun o => (Below.refl _ _).alloc (by rw [set3_size]; exact Nat.le_refl _) _
        have hba2 : ∀ o, Below (set3 w6 b4 (.int .i64 t.paper) (.int .i64 t.money) (.slice (some ⟨g, 0, none⟩) t.cards.length t.cards.length)).heap.size (set3 w6 b4 (.int .i64 t.paper) (.int .i64 t.money) (.slice (some ⟨g, 0, none⟩) t.cards.length t.cards.length)) ((set3 w6 b4 (.int .i64 t.paper) (.int .i64 t.money) (.slice (some ⟨g, 0, none⟩) t.cards.length t.cards.length)).alloc o) := fun o => (Below.refl _ _).alloc (Nat.le_refl _) _
        refine ⟨⟨k + 1, t, g, 0, t.cards.length, HLK.out, by go_num, ?_⟩, by simp [intOf]; have := HLK.out; omega⟩
        refine ⟨((hba _).block _ (heap_lt HB6.out.1)).trans (set3_at HB6.out.1), ((hba _).block _ (heap_lt HB6.out.2.1)).trans ((set3_other hbe).trans HB6.out.2.1), (set3_spns HSP.out.1 hne).mono (hba2 _), hne, by have := HSP.out.2.1; have := HB6.out.2.2.2.2.2; omega, Or.inr (by have h1 := HSP.out.2.1; have h2 := HB6.out.2.2.2.2.1; rw [HBE.out.1]; omega), ?_, HR.out.1, HR.out.2.1, HR.out.2.2.le (by omega)⟩
        exact (set3_below HB6.out.2.2.1 (by rw [HBE.out.1]; exact Nat.le_refl _)).trans ((hba _).mono (by have := HB6.out.2.2.1.size; have := HB6.out.2.2.2.1; omega))
    · have hke : k = l.length := by omega
      subst hke
      have x0 : wr.cell? ⟨b4, 0, none⟩ = some (.int .i64 sk.paper) := by rw [cell_of_heap HW.out.h4]; rfl
      have x1 : wr.cell? ⟨b4, 1, none⟩ = some (.int .i64 sk.money) := by rw [cell_of_heap HW.out.h4]; rfl
      have x2 : wr.cell? ⟨b4, 2, none⟩ = some (.slice (some ⟨gb', off', none⟩) sk.cards.length cg) := by rw [cell_of_heap HW.out.h4]; rfl
      have y0 : wr.cell? ⟨b6, 0, none⟩ = some (.int .i64 0) := by rw [cell_of_heap HW.out.h6]; rfl
      have y1 : wr.cell? ⟨b6, 1, none⟩ = some (.int .i64 0) := by rw [cell_of_heap HW.out.h6]; rfl
      have y2 : wr.cell? ⟨b6, 2, none⟩ = some (.slice none 0 0) := by rw [cell_of_heap HW.out.h6]; rfl
      have f0 : wr.frozen? ⟨b6, 0, none⟩ = false := frozen_of_heap HW.out.h6
      have f1 : wr.frozen? ⟨b6, 1, none⟩ = false := frozen_of_heap HW.out.h6
      have f2 : wr.frozen? ⟨b6, 2, none⟩ = false := frozen_of_heap HW.out.h6
      go_wp2_with fail
      refine HK1.out _ _ ?_
      go_wp2_with fail
      have hne : gb' ≠ b6 := HW.out.ne6
      have hq : (set3 wr b6 (.int .i64 sk.paper) (.int .i64 sk.money) (.slice (some ⟨gb', off', none⟩) sk.cards.length cg)).heap[b6]? = some (.cells #[.int .i64 sk.paper, .int .i64 sk.money, .slice (some ⟨gb', off', none⟩) sk.cards.length cg] 48 (0, 0)) := set3_at HW.out.h6
      have hrun := HW.out.run
      rw [List.drop_length] at hrun
      refine bodyPost_ret (v := .tuple #[.agg #[.int .i64 sk.paper, .int .i64 sk.money, .slice (some ⟨gb', off', none⟩) sk.cards.length cg], .int .i64 (l.length : Int), .int .i64 0])
        (res57 (y0 := .int .i64 sk.paper) (y1 := .int .i64 sk.money) (y2 := .slice (some ⟨gb', off', none⟩) sk.cards.length cg) rfl _ rfl rfl rfl (by rw [cell_of_heap hq]; rfl) (by rw [cell_of_heap hq]; rfl) (by rw [cell_of_heap hq]; rfl)) rfl ⟨?_, ?_⟩
      · rw [hrun]; exact ⟨_, _, rfl, set3_spns HW.out.sp hne, HW.out.src.imp id fun h => ⟨_, _, rfl, by rw [← HBE.out.1]; exact h⟩⟩
      · exact set3_below (by rw [← HBE.out.1]; exact HW.out.le) (by have := HBE.out; omega)
end Go.Proofs.Ytjkhclijmcmdjaa
namespace Go.Proofs.Ytjkhclijmcmdjaa
open Go.RowKit
set_option linter.unusedVariables false
set_option linter.unusedSimpArgs false
theorem pk_no {b : Bool} (h : b = false) (v s : Value) : pk b v s = s := by rw [h]; rfl
/-- A world at one of 4 stages, by which ones are passed. -/
def ch3 (P0 P1 P2 P3 : World → Prop) : Bool → Bool → Bool → World → Prop
  | false, false, false, w => P0 w
  | true, false, false, w => P1 w
  | true, true, false, w => P2 w
  | true, true, true, w => P3 w
  | _, _, _, _ => False
theorem ch3_or {P0 P1 P2 P3 : World → Prop} {f1 f2 f3 : Bool} {w : World} (h : ch3 P0 P1 P2 P3 f1 f2 f3 w) : P0 w ∨ P1 w ∨ P2 w ∨ P3 w := by
  cases f1 <;> cases f2 <;> cases f3 <;> first | exact False.elim h | exact .inl h | exact .inr (.inl h) | exact .inr (.inr (.inl h)) | exact .inr (.inr (.inr h))
theorem ch3_s1 {P0 P1 P2 P3 : World → Prop} {f1 f2 f3 : Bool} {w : World} (h : ch3 P0 P1 P2 P3 f1 f2 f3 w) (e2 : f1 = false) : P0 w ∧ ∀ w' : World, P1 w' → ch3 P0 P1 P2 P3 true f2 f3 w' := by
  subst e2
  cases f2 <;> cases f3 <;> first | exact False.elim h | exact ⟨h, fun _ x => x⟩
theorem ch3_s2 {P0 P1 P2 P3 : World → Prop} {f1 f2 f3 : Bool} {w : World} (h : ch3 P0 P1 P2 P3 f1 f2 f3 w) (e1 : f1 = true) (e2 : f2 = false) : P1 w ∧ ∀ w' : World, P2 w' → ch3 P0 P1 P2 P3 f1 true f3 w' := by
  subst e1 e2
  cases f3 <;> first | exact False.elim h | exact ⟨h, fun _ x => x⟩
theorem ch3_s3 {P0 P1 P2 P3 : World → Prop} {f1 f2 f3 : Bool} {w : World} (h : ch3 P0 P1 P2 P3 f1 f2 f3 w) (e1 : f2 = true) (e2 : f3 = false) : P2 w ∧ ∀ w' : World, P3 w' → ch3 P0 P1 P2 P3 f1 f2 true w' := by
  subst e1 e2
  cases f1 <;> first | exact False.elim h | exact ⟨h, fun _ x => x⟩
noncomputable def pla3C : Code := (Try.f26.body.bind (regionAt 3)).getD .skip
set_option maxRecDepth 100000 in
set_option maxHeartbeats 8000000 in
theorem pla3 {bq be g m n cd k : Nat} {ad : Option Addr} {q mo er : Int} {P0 P1 P2 P3 : World → Prop} {Q : Exit → Act → World → Prop} {W1 : World}  (h0 : P0 W1.drew)
    (kc2 : Hid (∀ w : World, P0 w → Calls Try.prog 58 #[.pointer (some ⟨bq, 0, none⟩)] w fun e w' => e = .returned (.agg #[.int .i64 (q), .int .i64 (mo), .slice (some ⟨g, 0, none⟩) m m]) ∧ P1 w'))
    (kl7 : Hid (∀ w : World, (P0 w ∨ P1 w ∨ P2 w ∨ P3 w) → w.cell? ⟨bq, 9, none⟩ = some (.slice ad n cd)))
    (kc8 : Hid (∀ w : World, P1 w → Calls Try.prog 57 #[.pointer (some ⟨bq, 0, none⟩), .agg #[.int .i64 (q), .int .i64 (mo), .slice (some ⟨g, 0, none⟩) m m], .slice ad n cd] w fun e w' => ∃ gX : Value, e = .returned (.tuple #[gX, .int .i64 (k : Int), .int .i64 (er)]) ∧ P2 w'))
    (ks14 : Hid (∀ w : World, P2 w → (∃ u, w.cell? ⟨be, 0, none⟩ = some u) ∧ w.frozen? ⟨be, 0, none⟩ = false ∧ P3 (w.setCell ⟨be, 0, none⟩ (.int .i64 (er)))))
    {s0 s1 s5 s6 s7 s8 s9 s10 s11 s12 s13 s14 s15 s16 s17 s18 s19 s20 s21 : Value} {dd : List Deferred}
    (hQ : ∀ (gX : Value) (w' : World), P3 w' → Q .normal { tmps := #[s0,s1,.int .i64 (k : Int),.pointer (some ⟨be, 0, none⟩),.pointer (some ⟨bq, 0, none⟩),s5,s6,.tuple #[gX, .int .i64 (k : Int), .int .i64 (er)],.pointer (some ⟨bq, 0, none⟩),.pointer (some ⟨bq, 0, none⟩),.agg #[.int .i64 (q), .int .i64 (mo), .slice (some ⟨g, 0, none⟩) m m],.pointer (some ⟨bq, 0, none⟩),.pointer (some ⟨bq, 0, none⟩),.pointer (some ⟨bq, 0, none⟩),.pointer (some ⟨bq, 9, none⟩),.slice ad n cd,.tuple #[gX, .int .i64 (k : Int), .int .i64 (er)],gX,.int .i64 (k : Int),.int .i64 (er),s20,s21],defers := dd } w') :
    Code.wpIn (wideAt none) 0 Try.prog pla3C Q { tmps := #[s0,s1,.int .i64 (0),.pointer (some ⟨be, 0, none⟩),.pointer (some ⟨bq, 0, none⟩),s5,s6,s7,s8,s9,s10,s11,s12,s13,s14,s15,s16,s17,s18,s19,s20,s21],defers := dd } W1 := by
  have HQ := Lib.hid hQ
  clear hQ
  conv => arg 4; whnf
  refine wpIn_region_invG mixed (by kernel_rfl) (fun d_ a_ w' => ∃ gX : Value, a_ = { tmps := #[s0,s1,pk (d_ 13) (.int .i64 (k : Int)) (.int .i64 (0)),.pointer (some ⟨be, 0, none⟩),.pointer (some ⟨bq, 0, none⟩),s5,s6,pk (d_ 9) (.tuple #[gX, .int .i64 (k : Int), .int .i64 (er)]) s7,pk (d_ 0) (.pointer (some ⟨bq, 0, none⟩)) s8,pk (d_ 1) (.pointer (some ⟨bq, 0, none⟩)) s9,pk (d_ 2) (.agg #[.int .i64 (q), .int .i64 (mo), .slice (some ⟨g, 0, none⟩) m m]) s10,pk (d_ 3) (.pointer (some ⟨bq, 0, none⟩)) s11,pk (d_ 4) (.pointer (some ⟨bq, 0, none⟩)) s12,pk (d_ 5) (.pointer (some ⟨bq, 0, none⟩)) s13,pk (d_ 6) (.pointer (some ⟨bq, 9, none⟩)) s14,pk (d_ 7) (.slice ad n cd) s15,pk (d_ 8) (.tuple #[gX, .int .i64 (k : Int), .int .i64 (er)]) s16,pk (d_ 10) (gX) s17,pk (d_ 11) (.int .i64 (k : Int)) s18,pk (d_ 12) (.int .i64 (er)) s19,s20,s21],defers := dd } ∧ ch3 P0 P1 P2 P3 (d_ 2) (d_ 8) (d_ 14) w' ∧ OrdP [[], [], [1], [], [3], [4], [5], [6], [0, 2, 7], [8], [9], [9], [9], [0, 1, 2, 3, 4, 5, 6, 7, 8, 9, 10, 11], [0, 1, 2, 3, 4, 5, 6, 7, 8, 9, 10, 11, 12, 13]] d_) ?_ ?_ ?_
  · exact ⟨undef, rfl, h0, fun k h => by cases h⟩
  · refine ⟨?_,?_,?_,?_,?_,?_,?_,?_,?_,?_,?_,?_,?_,?_,?_, trivial⟩
    all_goals
      rintro d_ a_ w1 K hd_ hdep ⟨gX, rfl, F, O⟩ HK
      simp [Region.binds] at hdep
    · have HO : Hid (OrdP [[], [], [1], [], [3], [4], [5], [6], [0, 2, 7], [8], [9], [9], [9], [0, 1, 2, 3, 4, 5, 6, 7, 8, 9, 10, 11], [0, 1, 2, 3, 4, 5, 6, 7, 8, 9, 10, 11, 12, 13]] (upd d_ 0)) := O.step (show ∀ e ∈ ([] : List Nat), d_ e = true by simp [hdep])
      clear O
      have HF := Lib.hid F
      clear F hdep
      go_simp
      refine HK.out _ _ ⟨gX, ?_, HF.out, HO.out⟩
      all_goals rfl
    · have HO : Hid (OrdP [[], [], [1], [], [3], [4], [5], [6], [0, 2, 7], [8], [9], [9], [9], [0, 1, 2, 3, 4, 5, 6, 7, 8, 9, 10, 11], [0, 1, 2, 3, 4, 5, 6, 7, 8, 9, 10, 11, 12, 13]] (upd d_ 1)) := O.step (show ∀ e ∈ ([] : List Nat), d_ e = true by simp [hdep])
      clear O
      have HF := Lib.hid F
      clear F hdep
      go_simp
      refine HK.out _ _ ⟨gX, ?_, HF.out, HO.out⟩
      all_goals rfl
    · have HO : Hid (OrdP [[], [], [1], [], [3], [4], [5], [6], [0, 2, 7], [8], [9], [9], [9], [0, 1, 2, 3, 4, 5, 6, 7, 8, 9, 10, 11], [0, 1, 2, 3, 4, 5, 6, 7, 8, 9, 10, 11, 12, 13]] (upd d_ 2)) := O.step (show ∀ e ∈ ([1] : List Nat), d_ e = true by simp [hdep])
      have q1 : d_ 1 = true := by simp [hdep]
      clear O
      rw [pk_of q1]
      obtain ⟨hP, hN⟩ := ch3_s1 F hd_
      have hc := kc2.out w1 hP
      have HN := Lib.hid hN
      clear F hP hN hdep
      go_simp
      refine ⟨trivial, rfl, wideAt_calls (hc.mono ?_)⟩
      rintro e w5 ⟨rfl, hR⟩
      have HG := HN.out w5 hR
      refine HK.out _ _ ⟨gX, ?_, HG, HO.out⟩
      rw [pk_of (show upd d_ 2 1 = true from q1)]
      all_goals rfl
    · have HO : Hid (OrdP [[], [], [1], [], [3], [4], [5], [6], [0, 2, 7], [8], [9], [9], [9], [0, 1, 2, 3, 4, 5, 6, 7, 8, 9, 10, 11], [0, 1, 2, 3, 4, 5, 6, 7, 8, 9, 10, 11, 12, 13]] (upd d_ 3)) := O.step (show ∀ e ∈ ([] : List Nat), d_ e = true by simp [hdep])
      clear O
      have HF := Lib.hid F
      clear F hdep
      go_simp
      refine HK.out _ _ ⟨gX, ?_, HF.out, HO.out⟩
      all_goals rfl
    · have HO : Hid (OrdP [[], [], [1], [], [3], [4], [5], [6], [0, 2, 7], [8], [9], [9], [9], [0, 1, 2, 3, 4, 5, 6, 7, 8, 9, 10, 11], [0, 1, 2, 3, 4, 5, 6, 7, 8, 9, 10, 11, 12, 13]] (upd d_ 4)) := O.step (show ∀ e ∈ ([3] : List Nat), d_ e = true by simp [hdep])
      have q3 : d_ 3 = true := by simp [hdep]
      clear O
      rw [pk_of q3]
      have HF := Lib.hid F
      clear F hdep
      go_simp
      refine HK.out _ _ ⟨gX, ?_, HF.out, HO.out⟩
      rw [pk_of (show upd d_ 4 3 = true from q3)]
      all_goals rfl
    · have HO : Hid (OrdP [[], [], [1], [], [3], [4], [5], [6], [0, 2, 7], [8], [9], [9], [9], [0, 1, 2, 3, 4, 5, 6, 7, 8, 9, 10, 11], [0, 1, 2, 3, 4, 5, 6, 7, 8, 9, 10, 11, 12, 13]] (upd d_ 5)) := O.step (show ∀ e ∈ ([4] : List Nat), d_ e = true by simp [hdep])
      have q4 : d_ 4 = true := by simp [hdep]
      clear O
      rw [pk_of q4]
      have HF := Lib.hid F
      clear F hdep
      go_simp
      refine HK.out _ _ ⟨gX, ?_, HF.out, HO.out⟩
      rw [pk_of (show upd d_ 5 4 = true from q4)]
      all_goals rfl
    · have HO : Hid (OrdP [[], [], [1], [], [3], [4], [5], [6], [0, 2, 7], [8], [9], [9], [9], [0, 1, 2, 3, 4, 5, 6, 7, 8, 9, 10, 11], [0, 1, 2, 3, 4, 5, 6, 7, 8, 9, 10, 11, 12, 13]] (upd d_ 6)) := O.step (show ∀ e ∈ ([5] : List Nat), d_ e = true by simp [hdep])
      have q5 : d_ 5 = true := by simp [hdep]
      clear O
      rw [pk_of q5]
      have HF := Lib.hid F
      clear F hdep
      go_simp
      refine HK.out _ _ ⟨gX, ?_, HF.out, HO.out⟩
      rw [pk_of (show upd d_ 6 5 = true from q5)]
      all_goals rfl
    · have HO : Hid (OrdP [[], [], [1], [], [3], [4], [5], [6], [0, 2, 7], [8], [9], [9], [9], [0, 1, 2, 3, 4, 5, 6, 7, 8, 9, 10, 11], [0, 1, 2, 3, 4, 5, 6, 7, 8, 9, 10, 11, 12, 13]] (upd d_ 7)) := O.step (show ∀ e ∈ ([6] : List Nat), d_ e = true by simp [hdep])
      have q6 : d_ 6 = true := by simp [hdep]
      have kk := kl7.out w1 (ch3_or F)
      clear O
      rw [pk_of q6]
      have HF := Lib.hid F
      clear F hdep
      go_simp
      refine HK.out _ _ ⟨gX, ?_, HF.out, HO.out⟩
      rw [pk_of (show upd d_ 7 6 = true from q6)]
      all_goals rfl
    · have O0 := Lib.hid O
      have HO : Hid (OrdP [[], [], [1], [], [3], [4], [5], [6], [0, 2, 7], [8], [9], [9], [9], [0, 1, 2, 3, 4, 5, 6, 7, 8, 9, 10, 11], [0, 1, 2, 3, 4, 5, 6, 7, 8, 9, 10, 11, 12, 13]] (upd d_ 8)) := O.step (show ∀ e ∈ ([0, 2, 7] : List Nat), d_ e = true by simp [hdep])
      have q0 : d_ 0 = true := by simp [hdep]
      have q2 : d_ 2 = true := by simp [hdep]
      have q7 : d_ 7 = true := by simp [hdep]
      have n9_ : d_ 9 = false := by
        cases e_ : d_ 9 with
        | false => rfl
        | true => have h2 := (O0.out 9 e_ 8 (by decide)); rw [show d_ 8 = false from hd_] at h2; cases h2
      have n10_ : d_ 10 = false := by
        cases e_ : d_ 10 with
        | false => rfl
        | true => have h2 := (O0.out 9 (O0.out 10 e_ 9 (by decide)) 8 (by decide)); rw [show d_ 8 = false from hd_] at h2; cases h2
      clear O0
      clear O
      rw [pk_of q0, pk_of q2, pk_of q7]
      obtain ⟨hP, hN⟩ := ch3_s2 F (show d_ 2 = true by simp [hdep]) hd_
      have hc := kc8.out w1 hP
      have HN := Lib.hid hN
      clear F hP hN hdep
      have n9_ := Lib.hid n9_
      have n10_ := Lib.hid n10_
      go_simp
      refine ⟨trivial, rfl, wideAt_calls (hc.mono ?_)⟩
      rintro e w5 ⟨gY, rfl, hR⟩
      have HG := HN.out w5 hR
      refine HK.out _ _ ⟨gY, ?_, HG, HO.out⟩
      rw [pk_no (show upd d_ 8 9 = false from n9_.out), pk_no (show upd d_ 8 10 = false from n10_.out)]
      rw [pk_of (show upd d_ 8 0 = true from q0), pk_of (show upd d_ 8 2 = true from q2), pk_of (show upd d_ 8 7 = true from q7)]
      all_goals rfl
    · have HO : Hid (OrdP [[], [], [1], [], [3], [4], [5], [6], [0, 2, 7], [8], [9], [9], [9], [0, 1, 2, 3, 4, 5, 6, 7, 8, 9, 10, 11], [0, 1, 2, 3, 4, 5, 6, 7, 8, 9, 10, 11, 12, 13]] (upd d_ 9)) := O.step (show ∀ e ∈ ([8] : List Nat), d_ e = true by simp [hdep])
      have q8 : d_ 8 = true := by simp [hdep]
      clear O
      rw [pk_of q8]
      have HF := Lib.hid F
      clear F hdep
      go_simp
      refine HK.out _ _ ⟨gX, ?_, HF.out, HO.out⟩
      rw [pk_of (show upd d_ 9 8 = true from q8)]
      all_goals rfl
    · have HO : Hid (OrdP [[], [], [1], [], [3], [4], [5], [6], [0, 2, 7], [8], [9], [9], [9], [0, 1, 2, 3, 4, 5, 6, 7, 8, 9, 10, 11], [0, 1, 2, 3, 4, 5, 6, 7, 8, 9, 10, 11, 12, 13]] (upd d_ 10)) := O.step (show ∀ e ∈ ([9] : List Nat), d_ e = true by simp [hdep])
      have q9 : d_ 9 = true := by simp [hdep]
      clear O
      rw [pk_of q9]
      have HF := Lib.hid F
      clear F hdep
      go_simp
      refine HK.out _ _ ⟨gX, ?_, HF.out, HO.out⟩
      rw [pk_of (show upd d_ 10 9 = true from q9)]
      all_goals rfl
    · have HO : Hid (OrdP [[], [], [1], [], [3], [4], [5], [6], [0, 2, 7], [8], [9], [9], [9], [0, 1, 2, 3, 4, 5, 6, 7, 8, 9, 10, 11], [0, 1, 2, 3, 4, 5, 6, 7, 8, 9, 10, 11, 12, 13]] (upd d_ 11)) := O.step (show ∀ e ∈ ([9] : List Nat), d_ e = true by simp [hdep])
      have q9 : d_ 9 = true := by simp [hdep]
      clear O
      rw [pk_of q9]
      have HF := Lib.hid F
      clear F hdep
      go_simp
      refine HK.out _ _ ⟨gX, ?_, HF.out, HO.out⟩
      rw [pk_of (show upd d_ 11 9 = true from q9)]
      all_goals rfl
    · have HO : Hid (OrdP [[], [], [1], [], [3], [4], [5], [6], [0, 2, 7], [8], [9], [9], [9], [0, 1, 2, 3, 4, 5, 6, 7, 8, 9, 10, 11], [0, 1, 2, 3, 4, 5, 6, 7, 8, 9, 10, 11, 12, 13]] (upd d_ 12)) := O.step (show ∀ e ∈ ([9] : List Nat), d_ e = true by simp [hdep])
      have q9 : d_ 9 = true := by simp [hdep]
      clear O
      rw [pk_of q9]
      have HF := Lib.hid F
      clear F hdep
      go_simp
      refine HK.out _ _ ⟨gX, ?_, HF.out, HO.out⟩
      rw [pk_of (show upd d_ 12 9 = true from q9)]
      all_goals rfl
    · have HO : Hid (OrdP [[], [], [1], [], [3], [4], [5], [6], [0, 2, 7], [8], [9], [9], [9], [0, 1, 2, 3, 4, 5, 6, 7, 8, 9, 10, 11], [0, 1, 2, 3, 4, 5, 6, 7, 8, 9, 10, 11, 12, 13]] (upd d_ 13)) := O.step (show ∀ e ∈ ([0, 1, 2, 3, 4, 5, 6, 7, 8, 9, 10, 11] : List Nat), d_ e = true by simp [hdep])
      have q11 : d_ 11 = true := by simp [hdep]
      clear O
      rw [pk_of q11]
      have HF := Lib.hid F
      clear F hdep
      go_simp
      refine HK.out _ _ ⟨gX, ?_, HF.out, HO.out⟩
      rw [pk_of (show upd d_ 13 11 = true from q11)]
      all_goals rfl
    · have HO : Hid (OrdP [[], [], [1], [], [3], [4], [5], [6], [0, 2, 7], [8], [9], [9], [9], [0, 1, 2, 3, 4, 5, 6, 7, 8, 9, 10, 11], [0, 1, 2, 3, 4, 5, 6, 7, 8, 9, 10, 11, 12, 13]] (upd d_ 14)) := O.step (show ∀ e ∈ ([0, 1, 2, 3, 4, 5, 6, 7, 8, 9, 10, 11, 12, 13] : List Nat), d_ e = true by simp [hdep])
      have q12 : d_ 12 = true := by simp [hdep]
      clear O
      rw [pk_of q12]
      obtain ⟨hP, hN⟩ := ch3_s3 F (show d_ 8 = true by simp [hdep]) hd_
      obtain ⟨⟨u0, c0⟩, z0, hR⟩ := ks14.out w1 hP
      have HF := Lib.hid (hN _ hR)
      clear F hP hR hN hdep
      go_simp
      have HG := HF.out
      refine HK.out _ _ ⟨gX, ?_, HG, HO.out⟩
      rw [pk_of (show upd d_ 14 12 = true from q12)]
      all_goals rfl
  · rintro d_ a_ w1 hall ⟨gX, rfl, F, O⟩
    have hall' : ∀ k, k < 15 → d_ k = true := hall
    rw [hall' 2 (by decide), hall' 8 (by decide), hall' 14 (by decide)] at F
    have HF := Lib.hid F
    clear F
    rw [pk_of (hall' 0 (by decide)), pk_of (hall' 1 (by decide)), pk_of (hall' 2 (by decide)), pk_of (hall' 3 (by decide)), pk_of (hall' 4 (by decide)), pk_of (hall' 5 (by decide)), pk_of (hall' 6 (by decide)), pk_of (hall' 7 (by decide)), pk_of (hall' 8 (by decide)), pk_of (hall' 9 (by decide)), pk_of (hall' 10 (by decide)), pk_of (hall' 11 (by decide)), pk_of (hall' 12 (by decide)), pk_of (hall' 13 (by decide))]
    exact HQ.out gX w1 HF.out
noncomputable def pla4C : Code := (Try.f26.body.bind (regionAt 4)).getD .skip
set_option maxRecDepth 100000 in
set_option maxHeartbeats 8000000 in
theorem pla4 {be k : Nat} {er : Int} {P0 P1 : World → Prop} {Q : Exit → Act → World → Prop} {W1 : World}  (h0 : P0 W1.drew)
    (kl1 : Hid (∀ w : World, (P0 w ∨ P1 w) → w.cell? ⟨be, 0, none⟩ = some (.int .i64 (er))))
    (ks3 : Hid (∀ w : World, P0 w → (∃ u, w.cell? ⟨be, 0, none⟩ = some u) ∧ w.frozen? ⟨be, 0, none⟩ = false ∧ P1 (w.setCell ⟨be, 0, none⟩ (.int .i64 (er)))))
    {s0 s1 s4 s5 s6 s7 s8 s9 s10 s11 s12 s13 s14 s15 s16 s17 s18 s19 s20 s21 : Value} {dd : List Deferred}
    (hQ : ∀ w' : World, P1 w' → Q .normal { tmps := #[s0,s1,.int .i64 (k : Int),.pointer (some ⟨be, 0, none⟩),s4,s5,s6,s7,s8,s9,s10,s11,s12,s13,s14,s15,s16,s17,s18,s19,.int .i64 (k : Int),.int .i64 (er)],defers := dd } w') :
    Code.wpIn (wideAt none) 0 Try.prog pla4C Q { tmps := #[s0,s1,.int .i64 (k : Int),.pointer (some ⟨be, 0, none⟩),s4,s5,s6,s7,s8,s9,s10,s11,s12,s13,s14,s15,s16,s17,s18,s19,s20,s21],defers := dd } W1 := by
  have HQ := Lib.hid hQ
  clear hQ
  conv => arg 4; whnf
  refine wpIn_region_invG mixed (by kernel_rfl) (fun d_ a_ w' => a_ = { tmps := #[s0,s1,.int .i64 (k : Int),.pointer (some ⟨be, 0, none⟩),s4,s5,s6,s7,s8,s9,s10,s11,s12,s13,s14,s15,s16,s17,s18,s19,pk (d_ 0) (.int .i64 (k : Int)) s20,pk (d_ 1) (.int .i64 (er)) s21],defers := dd } ∧ ch1 P0 P1 (d_ 3) w') ?_ ?_ ?_
  · exact ⟨rfl, h0⟩
  · refine ⟨?_,?_,?_,?_, trivial⟩
    all_goals
      rintro d_ a_ w1 K hd_ hdep ⟨rfl, F⟩ HK
      simp [Region.binds] at hdep
    · have HF := Lib.hid F
      clear F hdep
      go_simp
      refine HK.out _ _ ⟨?_, HF.out⟩
      all_goals rfl
    · have kk := kl1.out w1 (ch1_or F)
      have HF := Lib.hid F
      clear F hdep
      go_simp
      refine HK.out _ _ ⟨?_, HF.out⟩
      all_goals rfl
    · have q0 : d_ 0 = true := by simp [hdep]
      rw [pk_of q0]
      have HF := Lib.hid F
      clear F hdep
      go_simp
      refine HK.out _ _ ⟨?_, HF.out⟩
      rw [pk_of (show upd d_ 2 0 = true from q0)]
      all_goals rfl
    · have q1 : d_ 1 = true := by simp [hdep]
      rw [pk_of q1]
      obtain ⟨hP, hN⟩ := ch1_s1 F hd_
      obtain ⟨⟨u0, c0⟩, z0, hR⟩ := ks3.out w1 hP
      have HF := Lib.hid (hN _ hR)
      clear F hP hR hN hdep
      go_simp
      have HG := HF.out
      refine HK.out _ _ ⟨?_, HG⟩
      rw [pk_of (show upd d_ 3 1 = true from q1)]
      all_goals rfl
  · rintro d_ a_ w1 hall ⟨rfl, F⟩
    have hall' : ∀ k, k < 4 → d_ k = true := hall
    rw [hall' 3 (by decide)] at F
    have HF := Lib.hid F
    clear F
    rw [pk_of (hall' 0 (by decide)), pk_of (hall' 1 (by decide))]
    exact HQ.out w1 HF.out
end Go.Proofs.Ytjkhclijmcmdjaa
namespace Go.Proofs.Ytjkhclijmcmdjaa
open Go.RowKit
set_option linter.unusedVariables false
set_option linter.unusedSimpArgs false
/-- What is known while Play deals. -/
structure PlX (W : World) (p : Prs) (A : PrsA) (bq be : Nat) (er : Int) (w : World) : Prop where
  be : w.heap[be]? = some (.cells #[.int .i64 er] 34 (0, 0))
  pr : IsPress w p A bq
  le : Below W.heap.size W w
theorem PlX.mono {W : World} {p : Prs} {A : PrsA} {bq be : Nat} {er : Int} {w w' : World} (h : PlX W p A bq be er w) (hb : Below w.heap.size w w') : PlX W p A bq be er w' :=
  ⟨(hb.block _ (heap_lt h.be)).trans h.be, h.pr.mono hb, h.le.trans (hb.mono h.le.size)⟩
theorem PlX.set {W : World} {p : Prs} {A : PrsA} {bq be : Nat} {er : Int} {w : World} (h : PlX W p A bq be er w) (hP : IsPrs W p A) (hB : W.heap.size ≤ be) (x : Int) : PlX W p A bq be x (w.setCell ⟨be, 0, none⟩ (.int .i64 x)) := by
  have hle : Below W.heap.size W (w.setCell ⟨be, 0, none⟩ (.int .i64 x)) := h.le.setCell (p := ⟨be, 0, none⟩) hB _
  have hne : bq ≠ be := fun e => by have h1 := h.pr.h; rw [e, h.be] at h1; simp at h1
  exact ⟨by simpa using heap_setCell_at (k := 0) h.be (.int .i64 x), ⟨(Below.heap_setCell _ _ _ _ hne).trans h.pr.h, hP.mono hle⟩, hle⟩
theorem deals_of {p : Prs} (hv : p.valid = true) : (∀ d ∈ p.deals, dealOk p d = true) := by
  unfold Prs.valid at hv
  simp only [Bool.and_eq_true, List.all_eq_true] at hv
  exact hv.2
theorem first_len (p : Prs) : p.first.cards.length = p.wanted.length := by simp [Prs.first]
theorem first_bd {p : Prs} (hv : p.valid = true) : SBd p.first 2251799813685248 := by
  have h := pence_of hv
  refine ⟨by show _ ∧ _; simp only [Prs.first]; omega, by show _ ∧ _; simp only [Prs.first]; omega, ?_⟩
  intro v hv2
  have e : gs p.first.cards v = ⟨0, 0⟩ := by rw [gs_get hv2]; simp [Prs.first]
  rw [e]
  simp only
  omega
/-- Deals from the press's own shelf. -/
theorem first57 {p : Prs} {A : PrsA} {l : List Dl} {ad : Option Addr} {cd bq g : Nat} {v : World} (hP : IsPress v p A bq) (hV : p.valid = true) (hS : p.Small) (hs : IsSpns v (some ⟨g, 0, none⟩) (List.replicate p.wanted.length ⟨0, 0⟩)) (ha : IsDls v ad l) (hsub : ∀ d ∈ l, d ∈ p.deals) (hl : l.length ≤ 1000) :
    Calls Try.prog 57 #[.pointer (some ⟨bq, 0, none⟩), .agg #[.int .i64 p.paper, .int .i64 p.money, .slice (some ⟨g, 0, none⟩) p.wanted.length p.wanted.length], .slice ad l.length cd] v fun e w' => AfterE (some ⟨g, 0, none⟩) v.heap.size (p.runF p.first l 0) e w' ∧ Below v.heap.size v w' := by
  have h := after57 (A := A) (s := p.first) (cs := p.wanted.length) (cd := cd) hP hV hs ha (fun d hd => deals_of hV d (hsub d hd)) hl (fun d hd => by have := hS.slots d (hsub d hd); omega) (first_len p) (first_bd hV)
  rw [first_len p] at h
  exact h
set_option maxRecDepth 100000 in
set_option maxHeartbeats 4000000 in
theorem play26 {p : Prs} {A : PrsA} {w : World} (hP : IsPrs w p A) (hS : p.Small) :
    Calls Try.prog 26 #[p.v A] w fun e w' => e = .returned (.tuple #[.int .i64 (playE p).1, .int .i64 (playE p).2]) ∧ Below w.heap.size w w' := by
  have HX := Lib.hid (alloc2 w (p.arr A) #[.int .i64 0] 27 34)
  have HF := Lib.hid (hP.mono (alloc2 w (p.arr A) #[.int .i64 0] 27 34).2.2)
  have HS := Lib.hid hS
  have HP0 := Lib.hid hP
  clear hP hS
  refine calls_of_wp_x Try.func26 rfl ?_
  simp only [Try.ntmps26, List.size_toArray, List.length_cons, List.length_nil, Nat.reduceAdd, Nat.reduceSub, Array.replicate_succ, Array.replicate_zero, List.push_toArray, List.append_toArray, List.nil_append, List.cons_append]
  conv => arg 2; whnf
  refine wp_seq_hid ?_
  intro K0 HK0
  go_wp2_with fail
  refine HK0.out _ _ ?_
  clear HK0 K0
  revert HX HF
  generalize (w.alloc (.cells (p.arr A) 27)).alloc (.cells #[.int .i64 0] 34) = w1
  generalize hbe : w.heap.size + 1 = be
  generalize hbp : w.heap.size = bp
  intro HX HF
  have HBE : Hid (w.heap.size = bp ∧ bp < be) := ⟨hbp, by omega⟩
  clear hbe hbp
  refine wp_seq_hid ?_
  intro K1 HK1
  go_wp2_with fail
  refine HK1.out _ _ ?_
  clear HK1 K1
  obtain ⟨m0, m1, m2, m3, m4, m5, m6, m7, m8, m9⟩ := prs_cells HX.out.1
  cases hv : p.valid with
  | false =>
    go_wp2_with fail
    refine (open_no HF.out HS.out hv).mono ?_
    rintro e w2 ⟨rfl, hb⟩
    have HB := Lib.hid hb
    clear hb
    go_wp2_with fail
    have hq := (HB.out.block _ (heap_lt HX.out.2.1)).trans HX.out.2.1
    have hE : p.openE true = 1 := by unfold Prs.openE; rw [hv]; rfl
    have HE : playE p = (0, 1) := by unfold playE; simp only; rw [hE]; rfl
    have hlt := heap_lt HX.out.1
    have hsz := HB.out.size
    refine door_no hq (res_t34 rfl _ rfl (by rw [cell_of_heap (caught_heap hq)]; rfl)) ⟨by rw [HE]; rfl, caught_below (HX.out.2.2.trans (HB.out.mono (by omega))) (by have := HBE.out; omega) (by omega)⟩
  | true =>
    have HV := Lib.hid hv
    refine wp_seq_hid ?_
    intro K2 HK2
    go_wp2_with fail
    refine (open_yes HF.out HS.out hv).mono ?_
    rintro e w2 ⟨bq, rfl, hPR, hbq, hb⟩
    have HB : Hid (PlX w p A bq be 0 w2) := ⟨(hb.block _ (heap_lt HX.out.2.1)).trans HX.out.2.1, hPR, by have h2 := HX.out.2.2.trans (hb.mono (Nat.le_of_lt (heap_lt HX.out.1))); rw [HBE.out.1]; exact h2⟩
    clear hb hPR hbq hv m0 m1 m2 m3 m4 m5 m6 m7 m8 m9 HX HF
    go_wp2_with fail
    refine HK2.out _ _ ?_
    clear HK2 K2
    obtain ⟨r, hr⟩ : ∃ r, p.runF p.first p.deals 0 = r := ⟨_, rfl⟩
    obtain ⟨er, her⟩ : ∃ er : Int, (if r.2.2 then 0 else 10) = er := ⟨_, rfl⟩
    have HE : Hid (playE p = ((r.2.1 : Int), er)) := by
      have hE : p.openE true = 0 := by unfold Prs.openE; rw [HV.out]; rfl
      show playE p = _; unfold playE; simp only; rw [if_pos hE, hr, ← her]
    have HER := Lib.hid her
    clear her
    have HR := Lib.hid hr
    clear hr
    refine wp_seq_hid ?_
    intro K3 HK3
    refine wpIn_wide.1 (pla3 (bq := bq) (be := be) (g := w2.heap.size + 1) (m := p.wanted.length) (n := p.deals.length) (cd := A.cd) (k := r.2.1) (ad := A.ad) (q := p.paper) (mo := p.money) (er := er)
      (P0 := fun v => v.heap.size = w2.heap.size ∧ PlX w p A bq be 0 v)
      (P1 := fun v => IsSpns v (some ⟨w2.heap.size + 1, 0, none⟩) (List.replicate p.wanted.length ⟨0, 0⟩) ∧ PlX w p A bq be 0 v)
      (P2 := fun v => PlX w p A bq be 0 v) (P3 := fun v => PlX w p A bq be er v) ?h0 ?c2 ?l7 ?c8 ?s14 ?hQ)
    case h0 => exact ⟨rfl, HB.out.mono (Below.refl _ _).drew⟩
    case c2 =>
      intro v hv
      have hc := shelf58 hv.2.pr (by have := wanted_of HV.out; omega)
      rw [hv.1] at hc
      exact hc.mono fun e w' ⟨he, hk, hb⟩ => ⟨he, hk, hv.2.mono (by rw [hv.1]; exact hb)⟩
    case l7 => rintro v (h | h | h | h) <;> first | exact h.2.pr.c.c9 | exact h.pr.c.c9
    case c8 =>
      intro v h
      have hc := first57 (cd := A.cd) h.2.pr HV.out HS.out h.1 h.2.pr.prs.deals (fun d hd => hd) (by have := HS.out.deals; omega)
      rw [HR.out] at hc
      refine hc.mono ?_
      rintro e w' ⟨he, hb⟩
      unfold AfterE at he
      have her := HER.out
      cases hr2 : r.2.2 with
      | true => rw [hr2] at he her; simp only [if_true] at her; rw [← her]; obtain ⟨a, c, he, _⟩ := he; exact ⟨_, he, h.2.mono hb⟩
      | false => rw [hr2] at he her; simp only [if_false, Bool.false_eq_true] at her; rw [← her]; exact ⟨_, he, h.2.mono hb⟩
    case s14 =>
      intro v h
      have hq := frozen_of_heap (k := 0) h.be
      exact ⟨⟨_, by rw [cell_of_heap h.be]; rfl⟩, hq, h.set HP0.out (by have := HBE.out; omega) _⟩
    intro gX v hv
    have HV3 := Lib.hid hv
    clear hv
    refine HK3.out _ _ ?_
    clear HK3 K3
    refine wp_seq_hid ?_
    intro K4 HK4
    refine wpIn_wide.1 (pla4 (be := be) (k := r.2.1) (er := er)
      (P0 := fun v => PlX w p A bq be er v) (P1 := fun v => PlX w p A bq be er v) ?h0_1 ?l1 ?s3 ?hQ1)
    case h0_1 => exact HV3.out.mono (Below.refl _ _).drew
    case l1 => rintro v (h | h) <;> (rw [cell_of_heap h.be]; rfl)
    case s3 =>
      intro v h
      have hq := frozen_of_heap (k := 0) h.be
      exact ⟨⟨_, by rw [cell_of_heap h.be]; rfl⟩, hq, h.set HP0.out (by have := HBE.out; omega) _⟩
    intro v2 hv2
    have HV4 := Lib.hid hv2
    clear hv2
    refine HK4.out _ _ ?_
    clear HK4 K4
    go_wp2_with fail
    refine door_ok (res_t34 rfl _ rfl (by rw [cell_of_heap HV4.out.be]; rfl)) ⟨by rw [HE.out]; rfl, by rw [← HBE.out.1]; exact HV4.out.le⟩
end Go.Proofs.Ytjkhclijmcmdjaa
namespace Go.Proofs.Ytjkhclijmcmdjaa
open Go.RowKit
set_option linter.unusedVariables false
set_option linter.unusedSimpArgs false
/-- A world at one of 5 stages, by which ones are passed. -/
def ch4 (P0 P1 P2 P3 P4 : World → Prop) : Bool → Bool → Bool → Bool → World → Prop
  | false, false, false, false, w => P0 w
  | true, false, false, false, w => P1 w
  | true, true, false, false, w => P2 w
  | true, true, true, false, w => P3 w
  | true, true, true, true, w => P4 w
  | _, _, _, _, _ => False
theorem ch4_or {P0 P1 P2 P3 P4 : World → Prop} {f1 f2 f3 f4 : Bool} {w : World} (h : ch4 P0 P1 P2 P3 P4 f1 f2 f3 f4 w) : P0 w ∨ P1 w ∨ P2 w ∨ P3 w ∨ P4 w := by
  cases f1 <;> cases f2 <;> cases f3 <;> cases f4 <;> first | exact False.elim h | exact .inl h | exact .inr (.inl h) | exact .inr (.inr (.inl h)) | exact .inr (.inr (.inr (.inl h))) | exact .inr (.inr (.inr (.inr h)))
theorem ch4_s1 {P0 P1 P2 P3 P4 : World → Prop} {f1 f2 f3 f4 : Bool} {w : World} (h : ch4 P0 P1 P2 P3 P4 f1 f2 f3 f4 w) (e2 : f1 = false) : P0 w ∧ ∀ w' : World, P1 w' → ch4 P0 P1 P2 P3 P4 true f2 f3 f4 w' := by
  subst e2
  cases f2 <;> cases f3 <;> cases f4 <;> first | exact False.elim h | exact ⟨h, fun _ x => x⟩
theorem ch4_s2 {P0 P1 P2 P3 P4 : World → Prop} {f1 f2 f3 f4 : Bool} {w : World} (h : ch4 P0 P1 P2 P3 P4 f1 f2 f3 f4 w) (e1 : f1 = true) (e2 : f2 = false) : P1 w ∧ ∀ w' : World, P2 w' → ch4 P0 P1 P2 P3 P4 f1 true f3 f4 w' := by
  subst e1 e2
  cases f3 <;> cases f4 <;> first | exact False.elim h | exact ⟨h, fun _ x => x⟩
theorem ch4_s3 {P0 P1 P2 P3 P4 : World → Prop} {f1 f2 f3 f4 : Bool} {w : World} (h : ch4 P0 P1 P2 P3 P4 f1 f2 f3 f4 w) (e1 : f2 = true) (e2 : f3 = false) : P2 w ∧ ∀ w' : World, P3 w' → ch4 P0 P1 P2 P3 P4 f1 f2 true f4 w' := by
  subst e1 e2
  cases f1 <;> cases f4 <;> first | exact False.elim h | exact ⟨h, fun _ x => x⟩
theorem ch4_s4 {P0 P1 P2 P3 P4 : World → Prop} {f1 f2 f3 f4 : Bool} {w : World} (h : ch4 P0 P1 P2 P3 P4 f1 f2 f3 f4 w) (e1 : f3 = true) (e2 : f4 = false) : P3 w ∧ ∀ w' : World, P4 w' → ch4 P0 P1 P2 P3 P4 f1 f2 f3 true w' := by
  subst e1 e2
  cases f1 <;> cases f2 <;> first | exact False.elim h | exact ⟨h, fun _ x => x⟩
theorem ch4_x2 {P0 P1 P2 P3 P4 : World → Prop} {R2 R3 R4 : World → Prop} {f1 f2 f3 f4 : Bool} {w : World} (h : ch4 P0 P1 P2 P3 P4 f1 f2 f3 f4 w) (e : f2 = false) : ch4 P0 P1 R2 R3 R4 f1 false f3 f4 w := by
  subst e
  cases f1 <;> cases f3 <;> cases f4 <;> first | exact False.elim h | exact h
noncomputable def onn4C : Code := (Try.f28.body.bind (regionAt 4)).getD .skip
set_option maxRecDepth 100000 in
set_option maxHeartbeats 8000000 in
theorem onn4 {bq b4 be g m m2 n cd cd2 k kr : Nat} {ad : Option Addr} {q mo q2 mo2 er : Int} {P0 P1 : World → Prop} {P2 P3 P4 : Option Addr × Nat → World → Prop} {Q : Exit → Act → World → Prop} {W1 : World} (hslc : Hid (∀ w : World, (Instr.slice 25 (.slice ad n cd) none (some (.int .i64 (k : Int))) none).run Try.prog w = .ok (.slice ad k cd2) w)) (h0 : P0 W1.drew)
    (kc2 : Hid (∀ (gX : Option Addr × Nat) (w : World), P0 w → Calls Try.prog 58 #[.pointer (some ⟨bq, 0, none⟩)] w fun e w' => e = .returned (.agg #[.int .i64 (q), .int .i64 (mo), .slice (some ⟨g, 0, none⟩) m m]) ∧ P1 w'))
    (kl7 : Hid (∀ (gX : Option Addr × Nat) (w : World), (P0 w ∨ P1 w ∨ P2 gX w ∨ P3 gX w ∨ P4 gX w) → w.cell? ⟨bq, 9, none⟩ = some (.slice ad n cd)))
    (kc10 : Hid (∀ (gX : Option Addr × Nat) (w : World), P1 w → Calls Try.prog 57 #[.pointer (some ⟨bq, 0, none⟩), .agg #[.int .i64 (q), .int .i64 (mo), .slice (some ⟨g, 0, none⟩) m m], .slice ad k cd2] w fun e w' => ∃ gX : Option Addr × Nat, e = .returned (.tuple #[.agg #[.int .i64 (q2), .int .i64 (mo2), .slice gX.1 m2 gX.2], .int .i64 (kr : Int), .int .i64 (er)]) ∧ P2 gX w'))
    (ks15 : Hid (∀ (gX : Option Addr × Nat) (w : World), P2 gX w → (∃ u, w.cell? ⟨b4, 0, none⟩ = some u) ∧ w.frozen? ⟨b4, 0, none⟩ = false ∧ (∃ u, w.cell? ⟨b4, 1, none⟩ = some u) ∧ w.frozen? ⟨b4, 1, none⟩ = false ∧ (∃ u, w.cell? ⟨b4, 2, none⟩ = some u) ∧ w.frozen? ⟨b4, 2, none⟩ = false ∧ P3 gX (((w.setCell ⟨b4, 0, none⟩ (.int .i64 (q2))).setCell ⟨b4, 1, none⟩ (.int .i64 (mo2))).setCell ⟨b4, 2, none⟩ (.slice gX.1 m2 gX.2))))
    (ks16 : Hid (∀ (gX : Option Addr × Nat) (w : World), P3 gX w → (∃ u, w.cell? ⟨be, 0, none⟩ = some u) ∧ w.frozen? ⟨be, 0, none⟩ = false ∧ P4 gX (w.setCell ⟨be, 0, none⟩ (.int .i64 (er)))))
    {s0 s2 s3 s7 s8 s9 s10 s11 s12 s13 s14 s15 s16 s17 s18 s19 s20 s21 s22 s23 s24 s25 s26 s27 s28 s29 s30 s31 s32 s33 s34 : Value} {dd : List Deferred}
    (hQ : ∀ (gX : Option Addr × Nat) (w' : World), P4 gX w' → Q .normal { tmps := #[s0,.int .i64 (k : Int),s2,s3,.pointer (some ⟨b4, 0, none⟩),.pointer (some ⟨be, 0, none⟩),.pointer (some ⟨bq, 0, none⟩),s7,s8,s9,s10,s11,s12,s13,s14,s15,s16,s17,.tuple #[.agg #[.int .i64 (q2), .int .i64 (mo2), .slice gX.1 m2 gX.2], .int .i64 (kr : Int), .int .i64 (er)],.pointer (some ⟨bq, 0, none⟩),.pointer (some ⟨bq, 0, none⟩),.agg #[.int .i64 (q), .int .i64 (mo), .slice (some ⟨g, 0, none⟩) m m],.pointer (some ⟨bq, 0, none⟩),.pointer (some ⟨bq, 0, none⟩),.pointer (some ⟨bq, 0, none⟩),.pointer (some ⟨bq, 9, none⟩),.slice ad n cd,.int .i64 (k : Int),.slice ad k cd2,.tuple #[.agg #[.int .i64 (q2), .int .i64 (mo2), .slice gX.1 m2 gX.2], .int .i64 (kr : Int), .int .i64 (er)],.agg #[.int .i64 (q2), .int .i64 (mo2), .slice gX.1 m2 gX.2],.int .i64 (kr : Int),.int .i64 (er),s33,s34],defers := dd } w') :
    Code.wpIn (wideAt none) 0 Try.prog onn4C Q { tmps := #[s0,.int .i64 (k : Int),s2,s3,.pointer (some ⟨b4, 0, none⟩),.pointer (some ⟨be, 0, none⟩),.pointer (some ⟨bq, 0, none⟩),s7,s8,s9,s10,s11,s12,s13,s14,s15,s16,s17,s18,s19,s20,s21,s22,s23,s24,s25,s26,s27,s28,s29,s30,s31,s32,s33,s34],defers := dd } W1 := by
  have HQ := Lib.hid hQ
  clear hQ
  conv => arg 4; whnf
  refine wpIn_region_invG mixed (by kernel_rfl) (fun d_ a_ w' => ∃ gX : Option Addr × Nat, a_ = { tmps := #[s0,.int .i64 (k : Int),s2,s3,.pointer (some ⟨b4, 0, none⟩),.pointer (some ⟨be, 0, none⟩),.pointer (some ⟨bq, 0, none⟩),s7,s8,s9,s10,s11,s12,s13,s14,s15,s16,s17,pk (d_ 11) (.tuple #[.agg #[.int .i64 (q2), .int .i64 (mo2), .slice gX.1 m2 gX.2], .int .i64 (kr : Int), .int .i64 (er)]) s18,pk (d_ 0) (.pointer (some ⟨bq, 0, none⟩)) s19,pk (d_ 1) (.pointer (some ⟨bq, 0, none⟩)) s20,pk (d_ 2) (.agg #[.int .i64 (q), .int .i64 (mo), .slice (some ⟨g, 0, none⟩) m m]) s21,pk (d_ 3) (.pointer (some ⟨bq, 0, none⟩)) s22,pk (d_ 4) (.pointer (some ⟨bq, 0, none⟩)) s23,pk (d_ 5) (.pointer (some ⟨bq, 0, none⟩)) s24,pk (d_ 6) (.pointer (some ⟨bq, 9, none⟩)) s25,pk (d_ 7) (.slice ad n cd) s26,pk (d_ 8) (.int .i64 (k : Int)) s27,pk (d_ 9) (.slice ad k cd2) s28,pk (d_ 10) (.tuple #[.agg #[.int .i64 (q2), .int .i64 (mo2), .slice gX.1 m2 gX.2], .int .i64 (kr : Int), .int .i64 (er)]) s29,pk (d_ 12) (.agg #[.int .i64 (q2), .int .i64 (mo2), .slice gX.1 m2 gX.2]) s30,pk (d_ 13) (.int .i64 (kr : Int)) s31,pk (d_ 14) (.int .i64 (er)) s32,s33,s34],defers := dd } ∧ ch4 P0 P1 (P2 gX) (P3 gX) (P4 gX) (d_ 2) (d_ 10) (d_ 15) (d_ 16) w' ∧ OrdP [[], [], [1], [], [3], [4], [5], [6], [], [7, 8], [0, 2, 9], [10], [11], [11], [11], [0, 1, 2, 3, 4, 5, 6, 7, 8, 9, 10, 11, 12], [0, 1, 2, 3, 4, 5, 6, 7, 8, 9, 10, 11, 12, 13, 14, 15]] d_) ?_ ?_ ?_
  · exact ⟨(none, 0), rfl, h0, fun k h => by cases h⟩
  · refine ⟨?_,?_,?_,?_,?_,?_,?_,?_,?_,?_,?_,?_,?_,?_,?_,?_,?_, trivial⟩
    all_goals
      rintro d_ a_ w1 K hd_ hdep ⟨gX, rfl, F, O⟩ HK
      simp [Region.binds] at hdep
    · have HO : Hid (OrdP [[], [], [1], [], [3], [4], [5], [6], [], [7, 8], [0, 2, 9], [10], [11], [11], [11], [0, 1, 2, 3, 4, 5, 6, 7, 8, 9, 10, 11, 12], [0, 1, 2, 3, 4, 5, 6, 7, 8, 9, 10, 11, 12, 13, 14, 15]] (upd d_ 0)) := O.step (show ∀ e ∈ ([] : List Nat), d_ e = true by simp [hdep])
      clear O
      have HF := Lib.hid F
      clear F hdep
      go_simp
      refine HK.out _ _ ⟨gX, ?_, HF.out, HO.out⟩
      all_goals rfl
    · have HO : Hid (OrdP [[], [], [1], [], [3], [4], [5], [6], [], [7, 8], [0, 2, 9], [10], [11], [11], [11], [0, 1, 2, 3, 4, 5, 6, 7, 8, 9, 10, 11, 12], [0, 1, 2, 3, 4, 5, 6, 7, 8, 9, 10, 11, 12, 13, 14, 15]] (upd d_ 1)) := O.step (show ∀ e ∈ ([] : List Nat), d_ e = true by simp [hdep])
      clear O
      have HF := Lib.hid F
      clear F hdep
      go_simp
      refine HK.out _ _ ⟨gX, ?_, HF.out, HO.out⟩
      all_goals rfl
    · have HO : Hid (OrdP [[], [], [1], [], [3], [4], [5], [6], [], [7, 8], [0, 2, 9], [10], [11], [11], [11], [0, 1, 2, 3, 4, 5, 6, 7, 8, 9, 10, 11, 12], [0, 1, 2, 3, 4, 5, 6, 7, 8, 9, 10, 11, 12, 13, 14, 15]] (upd d_ 2)) := O.step (show ∀ e ∈ ([1] : List Nat), d_ e = true by simp [hdep])
      have q1 : d_ 1 = true := by simp [hdep]
      clear O
      rw [pk_of q1]
      obtain ⟨hP, hN⟩ := ch4_s1 F hd_
      have hc := kc2.out gX w1 hP
      have HN := Lib.hid hN
      clear F hP hN hdep
      go_simp
      refine ⟨trivial, rfl, wideAt_calls (hc.mono ?_)⟩
      rintro e w5 ⟨rfl, hR⟩
      have HG := HN.out w5 hR
      refine HK.out _ _ ⟨gX, ?_, HG, HO.out⟩
      rw [pk_of (show upd d_ 2 1 = true from q1)]
      all_goals rfl
    · have HO : Hid (OrdP [[], [], [1], [], [3], [4], [5], [6], [], [7, 8], [0, 2, 9], [10], [11], [11], [11], [0, 1, 2, 3, 4, 5, 6, 7, 8, 9, 10, 11, 12], [0, 1, 2, 3, 4, 5, 6, 7, 8, 9, 10, 11, 12, 13, 14, 15]] (upd d_ 3)) := O.step (show ∀ e ∈ ([] : List Nat), d_ e = true by simp [hdep])
      clear O
      have HF := Lib.hid F
      clear F hdep
      go_simp
      refine HK.out _ _ ⟨gX, ?_, HF.out, HO.out⟩
      all_goals rfl
    · have HO : Hid (OrdP [[], [], [1], [], [3], [4], [5], [6], [], [7, 8], [0, 2, 9], [10], [11], [11], [11], [0, 1, 2, 3, 4, 5, 6, 7, 8, 9, 10, 11, 12], [0, 1, 2, 3, 4, 5, 6, 7, 8, 9, 10, 11, 12, 13, 14, 15]] (upd d_ 4)) := O.step (show ∀ e ∈ ([3] : List Nat), d_ e = true by simp [hdep])
      have q3 : d_ 3 = true := by simp [hdep]
      clear O
      rw [pk_of q3]
      have HF := Lib.hid F
      clear F hdep
      go_simp
      refine HK.out _ _ ⟨gX, ?_, HF.out, HO.out⟩
      rw [pk_of (show upd d_ 4 3 = true from q3)]
      all_goals rfl
    · have HO : Hid (OrdP [[], [], [1], [], [3], [4], [5], [6], [], [7, 8], [0, 2, 9], [10], [11], [11], [11], [0, 1, 2, 3, 4, 5, 6, 7, 8, 9, 10, 11, 12], [0, 1, 2, 3, 4, 5, 6, 7, 8, 9, 10, 11, 12, 13, 14, 15]] (upd d_ 5)) := O.step (show ∀ e ∈ ([4] : List Nat), d_ e = true by simp [hdep])
      have q4 : d_ 4 = true := by simp [hdep]
      clear O
      rw [pk_of q4]
      have HF := Lib.hid F
      clear F hdep
      go_simp
      refine HK.out _ _ ⟨gX, ?_, HF.out, HO.out⟩
      rw [pk_of (show upd d_ 5 4 = true from q4)]
      all_goals rfl
    · have HO : Hid (OrdP [[], [], [1], [], [3], [4], [5], [6], [], [7, 8], [0, 2, 9], [10], [11], [11], [11], [0, 1, 2, 3, 4, 5, 6, 7, 8, 9, 10, 11, 12], [0, 1, 2, 3, 4, 5, 6, 7, 8, 9, 10, 11, 12, 13, 14, 15]] (upd d_ 6)) := O.step (show ∀ e ∈ ([5] : List Nat), d_ e = true by simp [hdep])
      have q5 : d_ 5 = true := by simp [hdep]
      clear O
      rw [pk_of q5]
      have HF := Lib.hid F
      clear F hdep
      go_simp
      refine HK.out _ _ ⟨gX, ?_, HF.out, HO.out⟩
      rw [pk_of (show upd d_ 6 5 = true from q5)]
      all_goals rfl
    · have HO : Hid (OrdP [[], [], [1], [], [3], [4], [5], [6], [], [7, 8], [0, 2, 9], [10], [11], [11], [11], [0, 1, 2, 3, 4, 5, 6, 7, 8, 9, 10, 11, 12], [0, 1, 2, 3, 4, 5, 6, 7, 8, 9, 10, 11, 12, 13, 14, 15]] (upd d_ 7)) := O.step (show ∀ e ∈ ([6] : List Nat), d_ e = true by simp [hdep])
      have q6 : d_ 6 = true := by simp [hdep]
      have kk := kl7.out gX w1 (ch4_or F)
      clear O
      rw [pk_of q6]
      have HF := Lib.hid F
      clear F hdep
      go_simp
      refine HK.out _ _ ⟨gX, ?_, HF.out, HO.out⟩
      rw [pk_of (show upd d_ 7 6 = true from q6)]
      all_goals rfl
    · have HO : Hid (OrdP [[], [], [1], [], [3], [4], [5], [6], [], [7, 8], [0, 2, 9], [10], [11], [11], [11], [0, 1, 2, 3, 4, 5, 6, 7, 8, 9, 10, 11, 12], [0, 1, 2, 3, 4, 5, 6, 7, 8, 9, 10, 11, 12, 13, 14, 15]] (upd d_ 8)) := O.step (show ∀ e ∈ ([] : List Nat), d_ e = true by simp [hdep])
      clear O
      have HF := Lib.hid F
      clear F hdep
      go_simp
      refine HK.out _ _ ⟨gX, ?_, HF.out, HO.out⟩
      all_goals rfl
    · have HO : Hid (OrdP [[], [], [1], [], [3], [4], [5], [6], [], [7, 8], [0, 2, 9], [10], [11], [11], [11], [0, 1, 2, 3, 4, 5, 6, 7, 8, 9, 10, 11, 12], [0, 1, 2, 3, 4, 5, 6, 7, 8, 9, 10, 11, 12, 13, 14, 15]] (upd d_ 9)) := O.step (show ∀ e ∈ ([7, 8] : List Nat), d_ e = true by simp [hdep])
      have q7 : d_ 7 = true := by simp [hdep]
      have q8 : d_ 8 = true := by simp [hdep]
      clear O
      have hsl := hslc.out
      rw [pk_of q7, pk_of q8]
      have HF := Lib.hid F
      clear F hdep
      go_simp
      refine HK.out _ _ ⟨gX, ?_, HF.out, HO.out⟩
      rw [pk_of (show upd d_ 9 7 = true from q7), pk_of (show upd d_ 9 8 = true from q8)]
      all_goals rfl
    · have O0 := Lib.hid O
      have HO : Hid (OrdP [[], [], [1], [], [3], [4], [5], [6], [], [7, 8], [0, 2, 9], [10], [11], [11], [11], [0, 1, 2, 3, 4, 5, 6, 7, 8, 9, 10, 11, 12], [0, 1, 2, 3, 4, 5, 6, 7, 8, 9, 10, 11, 12, 13, 14, 15]] (upd d_ 10)) := O.step (show ∀ e ∈ ([0, 2, 9] : List Nat), d_ e = true by simp [hdep])
      have q0 : d_ 0 = true := by simp [hdep]
      have q2 : d_ 2 = true := by simp [hdep]
      have q9 : d_ 9 = true := by simp [hdep]
      have n11_ : d_ 11 = false := by
        cases e_ : d_ 11 with
        | false => rfl
        | true => have h2 := (O0.out 11 e_ 10 (by decide)); rw [show d_ 10 = false from hd_] at h2; cases h2
      have n12_ : d_ 12 = false := by
        cases e_ : d_ 12 with
        | false => rfl
        | true => have h2 := (O0.out 11 (O0.out 12 e_ 11 (by decide)) 10 (by decide)); rw [show d_ 10 = false from hd_] at h2; cases h2
      clear O0
      clear O
      rw [pk_of q0, pk_of q2, pk_of q9]
      obtain ⟨hP, _⟩ := ch4_s2 F (show d_ 2 = true by simp [hdep]) hd_
      have hN := fun (gZ : Option Addr × Nat) => (ch4_s2 (ch4_x2 (R2 := P2 gZ) (R3 := P3 gZ) (R4 := P4 gZ) F hd_) (show d_ 2 = true by simp [hdep]) rfl).2
      have hc := kc10.out gX w1 hP
      have HN := Lib.hid hN
      clear F hP hN hdep
      have n11_ := Lib.hid n11_
      have n12_ := Lib.hid n12_
      go_simp
      refine ⟨trivial, rfl, wideAt_calls (hc.mono ?_)⟩
      rintro e w5 ⟨gY, rfl, hR⟩
      have HG := HN.out gY w5 hR
      refine HK.out _ _ ⟨gY, ?_, HG, HO.out⟩
      rw [pk_no (show upd d_ 10 11 = false from n11_.out), pk_no (show upd d_ 10 12 = false from n12_.out)]
      rw [pk_of (show upd d_ 10 0 = true from q0), pk_of (show upd d_ 10 2 = true from q2), pk_of (show upd d_ 10 9 = true from q9)]
      all_goals rfl
    · have HO : Hid (OrdP [[], [], [1], [], [3], [4], [5], [6], [], [7, 8], [0, 2, 9], [10], [11], [11], [11], [0, 1, 2, 3, 4, 5, 6, 7, 8, 9, 10, 11, 12], [0, 1, 2, 3, 4, 5, 6, 7, 8, 9, 10, 11, 12, 13, 14, 15]] (upd d_ 11)) := O.step (show ∀ e ∈ ([10] : List Nat), d_ e = true by simp [hdep])
      have q10 : d_ 10 = true := by simp [hdep]
      clear O
      rw [pk_of q10]
      have HF := Lib.hid F
      clear F hdep
      go_simp
      refine HK.out _ _ ⟨gX, ?_, HF.out, HO.out⟩
      rw [pk_of (show upd d_ 11 10 = true from q10)]
      all_goals rfl
    · have HO : Hid (OrdP [[], [], [1], [], [3], [4], [5], [6], [], [7, 8], [0, 2, 9], [10], [11], [11], [11], [0, 1, 2, 3, 4, 5, 6, 7, 8, 9, 10, 11, 12], [0, 1, 2, 3, 4, 5, 6, 7, 8, 9, 10, 11, 12, 13, 14, 15]] (upd d_ 12)) := O.step (show ∀ e ∈ ([11] : List Nat), d_ e = true by simp [hdep])
      have q11 : d_ 11 = true := by simp [hdep]
      clear O
      rw [pk_of q11]
      have HF := Lib.hid F
      clear F hdep
      go_simp
      refine HK.out _ _ ⟨gX, ?_, HF.out, HO.out⟩
      rw [pk_of (show upd d_ 12 11 = true from q11)]
      all_goals rfl
    · have HO : Hid (OrdP [[], [], [1], [], [3], [4], [5], [6], [], [7, 8], [0, 2, 9], [10], [11], [11], [11], [0, 1, 2, 3, 4, 5, 6, 7, 8, 9, 10, 11, 12], [0, 1, 2, 3, 4, 5, 6, 7, 8, 9, 10, 11, 12, 13, 14, 15]] (upd d_ 13)) := O.step (show ∀ e ∈ ([11] : List Nat), d_ e = true by simp [hdep])
      have q11 : d_ 11 = true := by simp [hdep]
      clear O
      rw [pk_of q11]
      have HF := Lib.hid F
      clear F hdep
      go_simp
      refine HK.out _ _ ⟨gX, ?_, HF.out, HO.out⟩
      rw [pk_of (show upd d_ 13 11 = true from q11)]
      all_goals rfl
    · have HO : Hid (OrdP [[], [], [1], [], [3], [4], [5], [6], [], [7, 8], [0, 2, 9], [10], [11], [11], [11], [0, 1, 2, 3, 4, 5, 6, 7, 8, 9, 10, 11, 12], [0, 1, 2, 3, 4, 5, 6, 7, 8, 9, 10, 11, 12, 13, 14, 15]] (upd d_ 14)) := O.step (show ∀ e ∈ ([11] : List Nat), d_ e = true by simp [hdep])
      have q11 : d_ 11 = true := by simp [hdep]
      clear O
      rw [pk_of q11]
      have HF := Lib.hid F
      clear F hdep
      go_simp
      refine HK.out _ _ ⟨gX, ?_, HF.out, HO.out⟩
      rw [pk_of (show upd d_ 14 11 = true from q11)]
      all_goals rfl
    · have HO : Hid (OrdP [[], [], [1], [], [3], [4], [5], [6], [], [7, 8], [0, 2, 9], [10], [11], [11], [11], [0, 1, 2, 3, 4, 5, 6, 7, 8, 9, 10, 11, 12], [0, 1, 2, 3, 4, 5, 6, 7, 8, 9, 10, 11, 12, 13, 14, 15]] (upd d_ 15)) := O.step (show ∀ e ∈ ([0, 1, 2, 3, 4, 5, 6, 7, 8, 9, 10, 11, 12] : List Nat), d_ e = true by simp [hdep])
      have q12 : d_ 12 = true := by simp [hdep]
      clear O
      rw [pk_of q12]
      obtain ⟨hP, hN⟩ := ch4_s3 F (show d_ 10 = true by simp [hdep]) hd_
      obtain ⟨⟨u0, c0⟩, z0, ⟨u1, c1⟩, z1, ⟨u2, c2⟩, z2, hR⟩ := ks15.out gX w1 hP
      have HF := Lib.hid (hN _ hR)
      clear F hP hR hN hdep
      go_simp
      have HG := HF.out
      refine HK.out _ _ ⟨gX, ?_, HG, HO.out⟩
      rw [pk_of (show upd d_ 15 12 = true from q12)]
      all_goals rfl
    · have HO : Hid (OrdP [[], [], [1], [], [3], [4], [5], [6], [], [7, 8], [0, 2, 9], [10], [11], [11], [11], [0, 1, 2, 3, 4, 5, 6, 7, 8, 9, 10, 11, 12], [0, 1, 2, 3, 4, 5, 6, 7, 8, 9, 10, 11, 12, 13, 14, 15]] (upd d_ 16)) := O.step (show ∀ e ∈ ([0, 1, 2, 3, 4, 5, 6, 7, 8, 9, 10, 11, 12, 13, 14, 15] : List Nat), d_ e = true by simp [hdep])
      have q14 : d_ 14 = true := by simp [hdep]
      clear O
      rw [pk_of q14]
      obtain ⟨hP, hN⟩ := ch4_s4 F (show d_ 15 = true by simp [hdep]) hd_
      obtain ⟨⟨u0, c0⟩, z0, hR⟩ := ks16.out gX w1 hP
      have HF := Lib.hid (hN _ hR)
      clear F hP hR hN hdep
      go_simp
      have HG := HF.out
      refine HK.out _ _ ⟨gX, ?_, HG, HO.out⟩
      rw [pk_of (show upd d_ 16 14 = true from q14)]
      all_goals rfl
  · rintro d_ a_ w1 hall ⟨gX, rfl, F, O⟩
    have hall' : ∀ k, k < 17 → d_ k = true := hall
    rw [hall' 2 (by decide), hall' 10 (by decide), hall' 15 (by decide), hall' 16 (by decide)] at F
    have HF := Lib.hid F
    clear F
    rw [pk_of (hall' 0 (by decide)), pk_of (hall' 1 (by decide)), pk_of (hall' 2 (by decide)), pk_of (hall' 3 (by decide)), pk_of (hall' 4 (by decide)), pk_of (hall' 5 (by decide)), pk_of (hall' 6 (by decide)), pk_of (hall' 7 (by decide)), pk_of (hall' 8 (by decide)), pk_of (hall' 9 (by decide)), pk_of (hall' 10 (by decide)), pk_of (hall' 11 (by decide)), pk_of (hall' 12 (by decide)), pk_of (hall' 13 (by decide)), pk_of (hall' 14 (by decide))]
    exact HQ.out gX w1 HF.out
noncomputable def onn5C : Code := (Try.f28.body.bind (regionAt 5)).getD .skip
set_option maxRecDepth 100000 in
set_option maxHeartbeats 8000000 in
theorem onn5 {b4 be n c : Nat} {a : Option Addr} {q m er : Int} {P0 P1 P2 : World → Prop} {Q : Exit → Act → World → Prop} {W1 : World}  (h0 : P0 W1.drew)
    (kl0 : Hid (∀ w : World, (P0 w ∨ P1 w ∨ P2 w) → w.cell? ⟨b4, 0, none⟩ = some (.int .i64 (q)) ∧ w.cell? ⟨b4, 1, none⟩ = some (.int .i64 (m)) ∧ w.cell? ⟨b4, 2, none⟩ = some (.slice a n c)))
    (kl1 : Hid (∀ w : World, (P0 w ∨ P1 w ∨ P2 w) → w.cell? ⟨be, 0, none⟩ = some (.int .i64 (er))))
    (ks2 : Hid (∀ w : World, P0 w → (∃ u, w.cell? ⟨b4, 0, none⟩ = some u) ∧ w.frozen? ⟨b4, 0, none⟩ = false ∧ (∃ u, w.cell? ⟨b4, 1, none⟩ = some u) ∧ w.frozen? ⟨b4, 1, none⟩ = false ∧ (∃ u, w.cell? ⟨b4, 2, none⟩ = some u) ∧ w.frozen? ⟨b4, 2, none⟩ = false ∧ P1 (((w.setCell ⟨b4, 0, none⟩ (.int .i64 (q))).setCell ⟨b4, 1, none⟩ (.int .i64 (m))).setCell ⟨b4, 2, none⟩ (.slice a n c))))
    (ks3 : Hid (∀ w : World, P1 w → (∃ u, w.cell? ⟨be, 0, none⟩ = some u) ∧ w.frozen? ⟨be, 0, none⟩ = false ∧ P2 (w.setCell ⟨be, 0, none⟩ (.int .i64 (er)))))
    {s0 s1 s2 s3 s6 s7 s8 s9 s10 s11 s12 s13 s14 s15 s16 s17 s18 s19 s20 s21 s22 s23 s24 s25 s26 s27 s28 s29 s30 s31 s32 s33 s34 : Value} {dd : List Deferred}
    (hQ : ∀ w' : World, P2 w' → Q .normal { tmps := #[s0,s1,s2,s3,.pointer (some ⟨b4, 0, none⟩),.pointer (some ⟨be, 0, none⟩),s6,s7,s8,s9,s10,s11,s12,s13,s14,s15,s16,s17,s18,s19,s20,s21,s22,s23,s24,s25,s26,s27,s28,s29,s30,s31,s32,.agg #[.int .i64 (q), .int .i64 (m), .slice a n c],.int .i64 (er)],defers := dd } w') :
    Code.wpIn (wideAt none) 0 Try.prog onn5C Q { tmps := #[s0,s1,s2,s3,.pointer (some ⟨b4, 0, none⟩),.pointer (some ⟨be, 0, none⟩),s6,s7,s8,s9,s10,s11,s12,s13,s14,s15,s16,s17,s18,s19,s20,s21,s22,s23,s24,s25,s26,s27,s28,s29,s30,s31,s32,s33,s34],defers := dd } W1 := by
  have HQ := Lib.hid hQ
  clear hQ
  conv => arg 4; whnf
  refine wpIn_region_invG mixed (by kernel_rfl) (fun d_ a_ w' => a_ = { tmps := #[s0,s1,s2,s3,.pointer (some ⟨b4, 0, none⟩),.pointer (some ⟨be, 0, none⟩),s6,s7,s8,s9,s10,s11,s12,s13,s14,s15,s16,s17,s18,s19,s20,s21,s22,s23,s24,s25,s26,s27,s28,s29,s30,s31,s32,pk (d_ 0) (.agg #[.int .i64 (q), .int .i64 (m), .slice a n c]) s33,pk (d_ 1) (.int .i64 (er)) s34],defers := dd } ∧ ch2 P0 P1 P2 (d_ 2) (d_ 3) w') ?_ ?_ ?_
  · exact ⟨rfl, h0⟩
  · refine ⟨?_,?_,?_,?_, trivial⟩
    all_goals
      rintro d_ a_ w1 K hd_ hdep ⟨rfl, F⟩ HK
      simp [Region.binds] at hdep
    · have kk := kl0.out w1 (ch2_or F)
      obtain ⟨kk0, kk1, kk2⟩ := kk
      have HF := Lib.hid F
      clear F hdep
      go_simp
      refine HK.out _ _ ⟨?_, HF.out⟩
      all_goals rfl
    · have kk := kl1.out w1 (ch2_or F)
      have HF := Lib.hid F
      clear F hdep
      go_simp
      refine HK.out _ _ ⟨?_, HF.out⟩
      all_goals rfl
    · have q0 : d_ 0 = true := by simp [hdep]
      rw [pk_of q0]
      obtain ⟨hP, hN⟩ := ch2_s1 F hd_
      obtain ⟨⟨u0, c0⟩, z0, ⟨u1, c1⟩, z1, ⟨u2, c2⟩, z2, hR⟩ := ks2.out w1 hP
      have HF := Lib.hid (hN _ hR)
      clear F hP hR hN hdep
      go_simp
      have HG := HF.out
      refine HK.out _ _ ⟨?_, HG⟩
      rw [pk_of (show upd d_ 2 0 = true from q0)]
      all_goals rfl
    · have q1 : d_ 1 = true := by simp [hdep]
      rw [pk_of q1]
      obtain ⟨hP, hN⟩ := ch2_s2 F (show d_ 2 = true by simp [hdep]) hd_
      obtain ⟨⟨u0, c0⟩, z0, hR⟩ := ks3.out w1 hP
      have HF := Lib.hid (hN _ hR)
      clear F hP hR hN hdep
      go_simp
      have HG := HF.out
      refine HK.out _ _ ⟨?_, HG⟩
      rw [pk_of (show upd d_ 3 1 = true from q1)]
      all_goals rfl
  · rintro d_ a_ w1 hall ⟨rfl, F⟩
    have hall' : ∀ k, k < 4 → d_ k = true := hall
    rw [hall' 2 (by decide), hall' 3 (by decide)] at F
    have HF := Lib.hid F
    clear F
    rw [pk_of (hall' 0 (by decide)), pk_of (hall' 1 (by decide))]
    exact HQ.out w1 HF.out
end Go.Proofs.Ytjkhclijmcmdjaa
namespace Go.Proofs.Ytjkhclijmcmdjaa
open Go.RowKit
set_option linter.unusedVariables false
set_option linter.unusedSimpArgs false
theorem info25 : (Try.prog.info? 62).isSome = true := by kernel_rfl
theorem slice25 {a : Option Addr} {n c k : Nat} (h : k ≤ c) (w : World) : (Instr.slice 25 (.slice a n c) none (some (.int .i64 (k : Int))) none).run Try.prog w = .ok (.slice a k c) w := by
  have ha : a.map (·.add 0) = a := by
    cases a with
    | none => rfl
    | some x => simp [Addr.add]
  cases hq : Try.prog.info? 62 with
  | none => have := info25; rw [hq] at this; cases this
  | some i =>
    simp [Instr.slice, run_underlying Try.underlying25, Instr.sliceBounds, sizeOf, typeInfo, hq, go_sem, h, ha]
    try (by_cases h0 : c = 0 <;> simp_all)
/-- What is known while On deals. -/
structure OnX (W : World) (p : Prs) (A : PrsA) (bq be b4 : Nat) (c : Array Value) (er : Int) (w : World) : Prop where
  x : PlX W p A bq be er w
  h4 : w.heap[b4]? = some (.cells c 48 (0, 0))
theorem OnX.mono {W : World} {p : Prs} {A : PrsA} {bq be b4 : Nat} {c : Array Value} {er : Int} {w w' : World} (h : OnX W p A bq be b4 c er w) (hb : Below w.heap.size w w') : OnX W p A bq be b4 c er w' :=
  ⟨h.x.mono hb, (hb.block _ (heap_lt h.h4)).trans h.h4⟩
theorem OnX.ne {W : World} {p : Prs} {A : PrsA} {bq be b4 : Nat} {c : Array Value} {er : Int} {w : World} (h : OnX W p A bq be b4 c er w) : be ≠ b4 ∧ bq ≠ b4 := by
  constructor <;> intro e
  · have h1 := h.x.be; rw [e, h.h4] at h1; simp at h1
  · have h1 := h.x.pr.h; rw [e, h.h4] at h1; simp at h1
theorem OnX.err {W : World} {p : Prs} {A : PrsA} {bq be b4 : Nat} {c : Array Value} {er : Int} {w : World} (h : OnX W p A bq be b4 c er w) (hP : IsPrs W p A) (hB : W.heap.size ≤ be) (x : Int) : OnX W p A bq be b4 c x (w.setCell ⟨be, 0, none⟩ (.int .i64 x)) :=
  ⟨h.x.set hP hB x, (Below.heap_setCell _ _ _ _ (Ne.symm h.ne.1)).trans h.h4⟩
theorem OnX.cells {W : World} {p : Prs} {A : PrsA} {bq be b4 : Nat} {x0 y0 z0 x y z : Value} {er : Int} {w : World} (h : OnX W p A bq be b4 #[x0, y0, z0] er w) (hP : IsPrs W p A) (hB : W.heap.size ≤ b4) : OnX W p A bq be b4 #[x, y, z] er (set3 w b4 x y z) :=
  ⟨⟨(set3_other h.ne.1).trans h.x.be, ⟨(set3_other h.ne.2).trans h.x.pr.h, hP.mono (set3_below h.x.le hB)⟩, set3_below h.x.le hB⟩, set3_at h.h4⟩
end Go.Proofs.Ytjkhclijmcmdjaa
namespace Go.Proofs.Ytjkhclijmcmdjaa
open Go.RowKit
set_option linter.unusedVariables false
set_option linter.unusedSimpArgs false
theorem spns_other {v v' : World} {a : Option Addr} {l : List Spn} (h : IsSpns v a l) (hh : ∀ gb off, a = some ⟨gb, off, none⟩ → v'.heap[gb]? = v.heap[gb]?) : IsSpns v' a l := fun i hi => by
  obtain ⟨b, off, he, h0, h1⟩ := h i hi
  exact ⟨b, off, he, (cell_eq (hh _ _ he)).trans h0, (cell_eq (hh _ _ he)).trans h1⟩
/-- Spans behind a block. -/
def SpA (be : Nat) (l : List Spn) (g : Option Addr × Nat) (v : World) : Prop := IsSpns v g.1 l ∧ ∀ gb off, g.1 = some ⟨gb, off, none⟩ → be < gb
theorem SpA.set {be b k : Nat} {l : List Spn} {g : Option Addr × Nat} {v : World} (h : SpA be l g v) (hb : b ≤ be) (x : Value) : SpA be l g (v.setCell ⟨b, k, none⟩ x) :=
  ⟨spns_other h.1 fun gb off e => Below.heap_setCell _ _ _ _ (by have := h.2 gb off e; show gb ≠ b; omega), h.2⟩
set_option maxRecDepth 100000 in
set_option maxHeartbeats 4000000 in
theorem on28 {p : Prs} {A : PrsA} {n : Int} {w : World} (hP : IsPrs w p A) (hS : p.Small) (hcap : p.deals.length ≤ A.cd) :
    Calls Try.prog 28 #[p.v A, .int .i64 n] w fun e w' => ∃ a c, e = .returned (.tuple #[.agg #[.int .i64 (onE p n).1.paper, .int .i64 (onE p n).1.money, .slice a (onE p n).1.cards.length c], .int .i64 (onE p n).2]) ∧ IsSpns w' a (onE p n).1.cards ∧ Below w.heap.size w w' := by
  have HX := Lib.hid (alloc3 w (p.arr A) #[.int .i64 0, .int .i64 0, .slice none 0 0] #[.int .i64 0] 27 48 34)
  have HF := Lib.hid (hP.mono (alloc3 w (p.arr A) #[.int .i64 0, .int .i64 0, .slice none 0 0] #[.int .i64 0] 27 48 34).2.2.2)
  have HS := Lib.hid (And.intro hS hcap)
  have HP0 := Lib.hid hP
  clear hP hS hcap
  refine calls_of_wp_x Try.func28 rfl ?_
  simp only [Try.ntmps28, List.size_toArray, List.length_cons, List.length_nil, Nat.reduceAdd, Nat.reduceSub, Array.replicate_succ, Array.replicate_zero, List.push_toArray, List.append_toArray, List.nil_append, List.cons_append]
  conv => arg 2; whnf
  refine wp_seq_hid ?_
  intro K0 HK0
  go_wp2_with fail
  refine HK0.out _ _ ?_
  clear HK0 K0
  revert HX HF
  generalize ((w.alloc (.cells (p.arr A) 27)).alloc (.cells #[.int .i64 0, .int .i64 0, .slice none 0 0] 48)).alloc (.cells #[.int .i64 0] 34) = w1
  generalize hbe : w.heap.size + 2 = be
  generalize hb4 : w.heap.size + 1 = b4
  generalize hbp : w.heap.size = bp
  intro HX HF
  have HBE : Hid (w.heap.size = bp ∧ bp < b4 ∧ b4 < be) := ⟨hbp, by omega, by omega⟩
  clear hbe hbp hb4
  refine wp_seq_hid ?_
  intro K1 HK1
  go_wp2_with fail
  refine HK1.out _ _ ?_
  clear HK1 K1
  obtain ⟨m0, m1, m2, m3, m4, m5, m6, m7, m8, m9⟩ := prs_cells HX.out.1
  cases hv : p.valid with
  | false =>
    go_wp2_with fail
    refine (open_no HF.out HS.out.1 hv).mono ?_
    rintro e w2 ⟨rfl, hb⟩
    have HB := Lib.hid hb
    clear hb
    go_wp2_with fail
    have hq := (HB.out.block _ (heap_lt HX.out.2.2.1)).trans HX.out.2.2.1
    have hq4 := (caught_other (x := 1) (HB.out.size |> Nat.lt_of_lt_of_le (heap_lt HX.out.2.1)) (by have := HBE.out; omega : b4 ≠ be)).trans ((HB.out.block _ (heap_lt HX.out.2.1)).trans HX.out.2.1)
    have hE : p.openE (inR n 0 p.deals.length) = 1 := by unfold Prs.openE; rw [hv]; rfl
    have HE : onE p n = (⟨0, 0, []⟩, 1) := by unfold onE; simp only; rw [hE]; rfl
    have hlt := heap_lt HX.out.1
    have hsz := HB.out.size
    refine door_no hq (res48 rfl _ rfl rfl (by rw [cell_of_heap hq4]; rfl) (by rw [cell_of_heap hq4]; rfl) (by rw [cell_of_heap hq4]; rfl) (by rw [cell_of_heap (caught_heap hq)]; rfl)) ⟨none, 0, by rw [HE]; rfl, by rw [HE]; exact fun i hi => by simp at hi, caught_below (HX.out.2.2.2.trans (HB.out.mono (by omega))) (by have := HBE.out; omega) (by omega)⟩
  | true =>
    have HV := Lib.hid hv
    refine wp_seq_hid ?_
    intro K2 HK2
    go_wp2_with fail
    refine (open_yes HF.out HS.out.1 hv).mono ?_
    rintro e w2 ⟨bq, rfl, hPR, hbq, hb⟩
    have HB : Hid (OnX w p A bq be b4 #[.int .i64 0, .int .i64 0, .slice none 0 0] 0 w2) := ⟨⟨(hb.block _ (heap_lt HX.out.2.2.1)).trans HX.out.2.2.1, hPR, by have h2 := HX.out.2.2.2.trans (hb.mono (Nat.le_of_lt (heap_lt HX.out.1))); rw [HBE.out.1]; exact h2⟩, (hb.block _ (heap_lt HX.out.2.1)).trans HX.out.2.1⟩
    clear hb hPR hbq hv m0 m1 m2 m3 m4 m5 m6 m7 m8 m9 HX HF
    go_wp2_with fail
    refine HK2.out _ _ ?_
    clear HK2 K2
    obtain ⟨m0, m1, m2, m3, m4, m5, m6, m7, m8, m9⟩ := HB.out.x.pr.c
    clear m0 m1 m2 m3 m4 m5 m6 m7 m8
    obtain ⟨q, hq⟩ : ∃ q, inR n 0 p.deals.length = q := ⟨_, rfl⟩
    have C := within_any n 0 p.deals.length w2
    rw [hq] at C
    have HC := Lib.hid C
    clear C
    refine wp_seq_hid ?_
    intro K3 HK3
    cases q with
    | false =>
      have HQ := Lib.hid hq
      clear hq
      go_wp2_with fail
      refine HC.out.mono ?_
      rintro e w3 ⟨rfl, rfl⟩
      go_wp2_with fail
      refine (need_no _ _).mono ?_
      rintro e w3 ⟨rfl, rfl⟩
      go_wp2_with fail
      have hq := HB.out.x.be
      have hq4 := (caught_other (x := 2) (heap_lt HB.out.h4) (Ne.symm HB.out.ne.1)).trans HB.out.h4
      have hE : p.openE (inR n 0 p.deals.length) = 2 := by unfold Prs.openE; rw [HV.out, HQ.out]; rfl
      have HE : onE p n = (⟨0, 0, []⟩, 2) := by unfold onE; simp only; rw [hE]; rfl
      refine door_no hq (res48 rfl _ rfl rfl (by rw [cell_of_heap hq4]; rfl) (by rw [cell_of_heap hq4]; rfl) (by rw [cell_of_heap hq4]; rfl) (by rw [cell_of_heap (caught_heap hq)]; rfl)) ⟨none, 0, by rw [HE]; rfl, by rw [HE]; exact fun i hi => by simp at hi, by rw [← HBE.out.1]; exact caught_below HB.out.x.le (by have := HBE.out; omega) HB.out.x.le.size⟩
    | true =>
      have HQ := Lib.hid hq
      clear hq
      go_wp2_with fail
      refine HC.out.mono ?_
      rintro e w3 ⟨rfl, rfl⟩
      go_wp2_with fail
      refine (need_yes _ _).mono ?_
      rintro e w3 ⟨rfl, rfl⟩
      go_wp2_with fail
      refine HK3.out _ _ ?_
      clear HK3 K3 m9 HC
      obtain ⟨k, hk⟩ : ∃ k : Nat, n = (k : Int) := ⟨n.toNat, by have := HQ.out; simp [inR] at this; omega⟩
      have hkl : k ≤ p.deals.length := by have := HQ.out; rw [hk] at this; simp [inR] at this; omega
      obtain ⟨r, hr⟩ : ∃ r, p.runF p.first (p.deals.take k) 0 = r := ⟨_, rfl⟩
      obtain ⟨sh, hsh⟩ : ∃ sh : Shf, (if r.2.2 then r.1 else ⟨0, 0, []⟩) = sh := ⟨_, rfl⟩
      obtain ⟨er, her⟩ : ∃ er : Int, (if r.2.2 then 0 else 10) = er := ⟨_, rfl⟩
      have HE : Hid (onE p n = (sh, er)) := by
        have hE : p.openE (inR n 0 p.deals.length) = 0 := by unfold Prs.openE; rw [HV.out, HQ.out]; rfl
        show onE p n = _; unfold onE; simp only; rw [if_pos hE, show n.toNat = k by omega, hr, ← hsh, ← her]
        cases r.2.2 <;> rfl
      have HR := Lib.hid (And.intro hr (And.intro hsh her))
      have HKL := Lib.hid hkl
      clear hr hsh her hkl
      subst hk
      refine wp_seq_hid ?_
      intro K4 HK4
      refine wpIn_wide.1 (onn4 (bq := bq) (b4 := b4) (be := be) (g := w2.heap.size + 1) (m := p.wanted.length) (m2 := sh.cards.length) (n := p.deals.length) (cd := A.cd) (cd2 := A.cd) (k := k) (kr := r.2.1) (ad := A.ad) (q := p.paper) (mo := p.money) (q2 := sh.paper) (mo2 := sh.money) (er := er)
        (P0 := fun v => v.heap.size = w2.heap.size ∧ OnX w p A bq be b4 #[.int .i64 0, .int .i64 0, .slice none 0 0] 0 v)
        (P1 := fun v => (IsSpns v (some ⟨w2.heap.size + 1, 0, none⟩) (List.replicate p.wanted.length ⟨0, 0⟩) ∧ w2.heap.size ≤ v.heap.size) ∧ OnX w p A bq be b4 #[.int .i64 0, .int .i64 0, .slice none 0 0] 0 v)
        (P2 := fun gX v => SpA be sh.cards gX v ∧ OnX w p A bq be b4 #[.int .i64 0, .int .i64 0, .slice none 0 0] 0 v)
        (P3 := fun gX v => SpA be sh.cards gX v ∧ OnX w p A bq be b4 #[.int .i64 sh.paper, .int .i64 sh.money, .slice gX.1 sh.cards.length gX.2] 0 v)
        (P4 := fun gX v => SpA be sh.cards gX v ∧ OnX w p A bq be b4 #[.int .i64 sh.paper, .int .i64 sh.money, .slice gX.1 sh.cards.length gX.2] er v)
        (Lib.hid fun v => slice25 (Nat.le_trans HKL.out HS.out.2) v) ?h0 ?c2 ?l7 ?c10 ?s15 ?s16 ?hQ)
      case h0 => exact ⟨rfl, HB.out.mono (Below.refl _ _).drew⟩
      case c2 =>
        intro gX v hv
        have hc := shelf58 hv.2.x.pr (by have := wanted_of HV.out; omega)
        rw [hv.1] at hc
        exact hc.mono fun e w' ⟨he, hk, hb⟩ => ⟨he, ⟨hk, by rw [← hv.1]; exact hb.size⟩, hv.2.mono (by rw [hv.1]; exact hb)⟩
      case l7 => rintro gX v (h | h | h | h | h) <;> exact h.2.x.pr.c.c9
      case c10 =>
        intro gX v h
        have hbe : be < w2.heap.size := heap_lt HB.out.x.be
        have ha : IsDls v A.ad (p.deals.take k) := fun i hi => by
          have hi2 : i < k ∧ i < p.deals.length := by simp at hi; omega
          have := h.2.x.pr.prs.deals i hi2.2
          have e : gd (p.deals.take k) i = gd p.deals i := by simp [gd, List.getElem?_take, hi2.1]
          rw [e]; exact this
        have hlen : (p.deals.take k).length = k := by rw [List.length_take]; have := HKL.out; omega
        have hc := first57 (cd := A.cd) h.2.x.pr HV.out HS.out.1 h.1.1 ha (fun d hd => List.mem_of_mem_take hd) (by have := HS.out.1.deals; rw [hlen]; have := HKL.out; omega)
        rw [hlen, HR.out.1] at hc
        refine hc.mono ?_
        rintro e w' ⟨he, hb⟩
        unfold AfterE at he
        have hsh := HR.out.2.1
        have her := HR.out.2.2
        cases hr2 : r.2.2 with
        | true =>
          rw [hr2] at he her hsh
          simp only [if_true] at her hsh
          rw [← her, ← hsh]
          obtain ⟨a, c, he, hsp, hsrc⟩ := he
          refine ⟨(a, c), he, ⟨hsp, ?_⟩, h.2.mono hb⟩
          intro gb off e2
          rcases hsrc with h5 | ⟨gb', off', h5, h6⟩
          · rw [show a = some ⟨gb, off, none⟩ from e2] at h5; cases h5; omega
          · rw [show a = some ⟨gb, off, none⟩ from e2] at h5; cases h5; have := h.1.2; omega
        | false =>
          rw [hr2] at he her hsh
          simp only [if_false, Bool.false_eq_true] at her hsh
          rw [← her, ← hsh]
          exact ⟨(none, 0), he, ⟨fun i hi => by simp at hi, fun gb off e2 => by cases e2⟩, h.2.mono hb⟩
      case s15 =>
        intro gX v h
        have fz : ∀ j, v.frozen? ⟨b4, j, none⟩ = false := fun j => frozen_of_heap h.2.h4
        exact ⟨⟨_, by rw [cell_of_heap h.2.h4]; rfl⟩, fz 0, ⟨_, by rw [cell_of_heap h.2.h4]; rfl⟩, fz 1, ⟨_, by rw [cell_of_heap h.2.h4]; rfl⟩, fz 2,
          ((h.1.set (by have := HBE.out; omega) _).set (by have := HBE.out; omega) _).set (by have := HBE.out; omega) _, h.2.cells HP0.out (by have := HBE.out; omega)⟩
      case s16 =>
        intro gX v h
        exact ⟨⟨_, by rw [cell_of_heap h.2.x.be]; rfl⟩, frozen_of_heap h.2.x.be, h.1.set (Nat.le_refl _) _, h.2.err HP0.out (by have := HBE.out; omega) _⟩
      intro gX v hv
      have HV4 := Lib.hid hv
      clear hv
      refine HK4.out _ _ ?_
      clear HK4 K4
      refine wp_seq_hid ?_
      intro K5 HK5
      refine wpIn_wide.1 (onn5 (b4 := b4) (be := be) (n := sh.cards.length) (c := gX.2) (a := gX.1) (q := sh.paper) (m := sh.money) (er := er)
        (P0 := fun v => SpA be sh.cards gX v ∧ OnX w p A bq be b4 #[.int .i64 sh.paper, .int .i64 sh.money, .slice gX.1 sh.cards.length gX.2] er v)
        (P1 := fun v => SpA be sh.cards gX v ∧ OnX w p A bq be b4 #[.int .i64 sh.paper, .int .i64 sh.money, .slice gX.1 sh.cards.length gX.2] er v)
        (P2 := fun v => SpA be sh.cards gX v ∧ OnX w p A bq be b4 #[.int .i64 sh.paper, .int .i64 sh.money, .slice gX.1 sh.cards.length gX.2] er v) ?h0_1 ?l0 ?l1 ?s2 ?s3 ?hQ1)
      case h0_1 => exact ⟨⟨HV4.out.1.1.mono (Below.refl _ _).drew, HV4.out.1.2⟩, HV4.out.2.mono (Below.refl _ _).drew⟩
      case l0 => rintro v (h | h | h) <;> exact ⟨by rw [cell_of_heap h.2.h4]; rfl, by rw [cell_of_heap h.2.h4]; rfl, by rw [cell_of_heap h.2.h4]; rfl⟩
      case l1 => rintro v (h | h | h) <;> (rw [cell_of_heap h.2.x.be]; rfl)
      case s2 =>
        intro v h
        have fz : ∀ j, v.frozen? ⟨b4, j, none⟩ = false := fun j => frozen_of_heap h.2.h4
        exact ⟨⟨_, by rw [cell_of_heap h.2.h4]; rfl⟩, fz 0, ⟨_, by rw [cell_of_heap h.2.h4]; rfl⟩, fz 1, ⟨_, by rw [cell_of_heap h.2.h4]; rfl⟩, fz 2,
          ((h.1.set (by have := HBE.out; omega) _).set (by have := HBE.out; omega) _).set (by have := HBE.out; omega) _, h.2.cells HP0.out (by have := HBE.out; omega)⟩
      case s3 =>
        intro v h
        exact ⟨⟨_, by rw [cell_of_heap h.2.x.be]; rfl⟩, frozen_of_heap h.2.x.be, h.1.set (Nat.le_refl _) _, h.2.err HP0.out (by have := HBE.out; omega) _⟩
      intro v2 hv2
      have HV5 := Lib.hid hv2
      clear hv2 HV4
      refine HK5.out _ _ ?_
      clear HK5 K5
      go_wp2_with fail
      have hq4 := HV5.out.2.h4
      refine door_ok (res48 rfl _ rfl rfl (by rw [cell_of_heap hq4]; rfl) (by rw [cell_of_heap hq4]; rfl) (by rw [cell_of_heap hq4]; rfl) (by rw [cell_of_heap HV5.out.2.x.be]; rfl)) ⟨gX.1, ⟨gX.2, by rw [HE.out]; rfl⟩, by rw [HE.out]; exact HV5.out.1.1, by rw [← HBE.out.1]; exact HV5.out.2.x.le⟩
end Go.Proofs.Ytjkhclijmcmdjaa
namespace Go.Proofs.Ytjkhclijmcmdjaa
open Go.RowKit
set_option linter.unusedVariables false
set_option linter.unusedSimpArgs false
def startsE (p : Prs) : (Int × Int) × Int :=
  let e := p.openE true
  if e = 0 then (match p.lows 1125899906842624 with
    | some x => ((1125899906842624 - x.1, 1125899906842624 - x.2), 0)
    | none => ((0, 0), 10)) else ((0, 0), e)
theorem lowF_some {p : Prs} {s t : Shf} {d : Dl} {r : List Dl} {a b : Int} (h : p.deal s d = some t) : p.lowF s (d :: r) a b = p.lowF t r (min a t.paper) (min b t.money) := by simp [Prs.lowF, h]
theorem lowF_none {p : Prs} {s : Shf} {d : Dl} {r : List Dl} {a b : Int} (h : p.deal s d = none) : p.lowF s (d :: r) a b = none := by simp [Prs.lowF, h]
/-- While deals are done with more than enough. -/
structure StaI (W : World) (b6 b7 be : Nat) (p : Prs) (A : PrsA) (bq : Nat) (l : List Dl) (R : Option (Int × Int)) (k : Nat) (s : Shf) (a b : Int) (g : Nat) (cg : Nat) (w : World) : Prop where
  h6 : w.heap[b6]? = some (.cells #[.int .i64 s.paper, .int .i64 s.money, .slice (some ⟨g, 0, none⟩) s.cards.length cg] 48 (0, 0))
  h7 : w.heap[b7]? = some (.cells #[.int .i64 a, .int .i64 b] 96 (0, 0))
  x : PlX W p A bq be 0 w
  sp : IsSpns w (some ⟨g, 0, none⟩) s.cards
  n6 : g ≠ b6
  n7 : g ≠ b7
  ne : g ≠ be
  run : R = p.lowF s (l.drop k) a b
  len : s.cards.length = p.wanted.length
  bd : SBd s (2251799813685248 + k * 2199023255552)
  lo : (-4611686018427387904 ≤ a ∧ a ≤ 1125899906842624) ∧ -4611686018427387904 ≤ b ∧ b ≤ 1125899906842624
theorem res30 {fn : Func} {u v x : Tmp} (h : fn.results = #[.tmp u, .tmp v, .cell x 34]) (tmps : Array Value) {w : World} {b : Nat} {y0 y1 e : Value} (hp : tmps.getD x undef = .pointer (some ⟨b, 0, none⟩))
    (hu : tmps.getD u undef = y0) (hv : tmps.getD v undef = y1) (hx : w.cell? ⟨b, 0, none⟩ = some e) :
    (results fn tmps).run Try.prog w = .ok (.tuple #[y0, y1, e]) w := by
  subst hu hv
  have hp' : tmps[x]?.getD undef = .pointer (some ⟨b, 0, none⟩) := by simpa using hp
  simp [results, h, hp', hx, go_sem]
noncomputable def sta14C : Code := (Try.f30.body.bind (regionAt 14)).getD .skip
set_option maxRecDepth 100000 in
set_option maxHeartbeats 8000000 in
theorem sta14 {b7 be : Nat} {a b er : Int} {P0 P1 : World → Prop} {Q : Exit → Act → World → Prop} {W1 : World}  (h0 : P0 W1.drew)
    (kl1 : Hid (∀ w : World, (P0 w ∨ P1 w) → w.cell? ⟨b7, 0, none⟩ = some (.int .i64 (a))))
    (kl4 : Hid (∀ w : World, (P0 w ∨ P1 w) → w.cell? ⟨b7, 1, none⟩ = some (.int .i64 (b))))
    (ks8 : Hid (∀ w : World, P0 w → (∃ u, w.cell? ⟨be, 0, none⟩ = some u) ∧ w.frozen? ⟨be, 0, none⟩ = false ∧ P1 (w.setCell ⟨be, 0, none⟩ (.int .i64 (0)))))
    {s0 s1 s5 s6 s8 s9 s10 s11 s12 s13 s14 s15 s16 s17 s18 s19 s20 s21 s22 s23 s24 s25 s26 s27 s28 s29 s30 s31 s32 s33 s34 s35 s36 s37 s38 s39 s40 s41 s42 s43 s44 s45 s46 s47 s48 s49 s50 s51 s52 s53 s54 s55 s56 s57 : Value} {dd : List Deferred}
    (hQ : ∀ w' : World, P1 w' → Q .normal { tmps := #[s0,s1,.int .i64 (IntKind.i64.wrap (1125899906842624 - a)),.int .i64 (IntKind.i64.wrap (1125899906842624 - b)),.pointer (some ⟨be, 0, none⟩),s5,s6,.pointer (some ⟨b7, 0, none⟩),s8,s9,s10,s11,s12,s13,s14,s15,s16,s17,s18,s19,s20,s21,s22,s23,s24,s25,s26,s27,s28,s29,s30,s31,s32,s33,s34,s35,s36,s37,s38,s39,s40,s41,s42,s43,s44,s45,s46,s47,s48,s49,s50,s51,.pointer (some ⟨b7, 0, none⟩),.int .i64 (a),.int .i64 (IntKind.i64.wrap (1125899906842624 - a)),.pointer (some ⟨b7, 1, none⟩),.int .i64 (b),.int .i64 (IntKind.i64.wrap (1125899906842624 - b))],defers := dd } w') :
    Code.wpIn (wideAt none) 0 Try.prog sta14C Q { tmps := #[s0,s1,.int .i64 (0),.int .i64 (0),.pointer (some ⟨be, 0, none⟩),s5,s6,.pointer (some ⟨b7, 0, none⟩),s8,s9,s10,s11,s12,s13,s14,s15,s16,s17,s18,s19,s20,s21,s22,s23,s24,s25,s26,s27,s28,s29,s30,s31,s32,s33,s34,s35,s36,s37,s38,s39,s40,s41,s42,s43,s44,s45,s46,s47,s48,s49,s50,s51,s52,s53,s54,s55,s56,s57],defers := dd } W1 := by
  have HQ := Lib.hid hQ
  clear hQ
  conv => arg 4; whnf
  refine wpIn_region_invG mixed (by kernel_rfl) (fun d_ a_ w' => a_ = { tmps := #[s0,s1,pk (d_ 6) (.int .i64 (IntKind.i64.wrap (1125899906842624 - a))) (.int .i64 (0)),pk (d_ 7) (.int .i64 (IntKind.i64.wrap (1125899906842624 - b))) (.int .i64 (0)),.pointer (some ⟨be, 0, none⟩),s5,s6,.pointer (some ⟨b7, 0, none⟩),s8,s9,s10,s11,s12,s13,s14,s15,s16,s17,s18,s19,s20,s21,s22,s23,s24,s25,s26,s27,s28,s29,s30,s31,s32,s33,s34,s35,s36,s37,s38,s39,s40,s41,s42,s43,s44,s45,s46,s47,s48,s49,s50,s51,pk (d_ 0) (.pointer (some ⟨b7, 0, none⟩)) s52,pk (d_ 1) (.int .i64 (a)) s53,pk (d_ 2) (.int .i64 (IntKind.i64.wrap (1125899906842624 - a))) s54,pk (d_ 3) (.pointer (some ⟨b7, 1, none⟩)) s55,pk (d_ 4) (.int .i64 (b)) s56,pk (d_ 5) (.int .i64 (IntKind.i64.wrap (1125899906842624 - b))) s57],defers := dd } ∧ ch1 P0 P1 (d_ 8) w') ?_ ?_ ?_
  · exact ⟨rfl, h0⟩
  · refine ⟨?_,?_,?_,?_,?_,?_,?_,?_,?_, trivial⟩
    all_goals
      rintro d_ a_ w1 K hd_ hdep ⟨rfl, F⟩ HK
      simp [Region.binds] at hdep
    · have HF := Lib.hid F
      clear F hdep
      go_simp
      refine HK.out _ _ ⟨?_, HF.out⟩
      all_goals rfl
    · have q0 : d_ 0 = true := by simp [hdep]
      have kk := kl1.out w1 (ch1_or F)
      rw [pk_of q0]
      have HF := Lib.hid F
      clear F hdep
      go_simp
      refine HK.out _ _ ⟨?_, HF.out⟩
      rw [pk_of (show upd d_ 1 0 = true from q0)]
      all_goals rfl
    · have q1 : d_ 1 = true := by simp [hdep]
      rw [pk_of q1]
      have HF := Lib.hid F
      clear F hdep
      go_simp
      refine HK.out _ _ ⟨?_, HF.out⟩
      rw [pk_of (show upd d_ 2 1 = true from q1)]
      all_goals rfl
    · have HF := Lib.hid F
      clear F hdep
      go_simp
      refine HK.out _ _ ⟨?_, HF.out⟩
      all_goals rfl
    · have q3 : d_ 3 = true := by simp [hdep]
      have kk := kl4.out w1 (ch1_or F)
      rw [pk_of q3]
      have HF := Lib.hid F
      clear F hdep
      go_simp
      refine HK.out _ _ ⟨?_, HF.out⟩
      rw [pk_of (show upd d_ 4 3 = true from q3)]
      all_goals rfl
    · have q4 : d_ 4 = true := by simp [hdep]
      rw [pk_of q4]
      have HF := Lib.hid F
      clear F hdep
      go_simp
      refine HK.out _ _ ⟨?_, HF.out⟩
      rw [pk_of (show upd d_ 5 4 = true from q4)]
      all_goals rfl
    · have q2 : d_ 2 = true := by simp [hdep]
      rw [pk_of q2]
      have HF := Lib.hid F
      clear F hdep
      go_simp
      refine HK.out _ _ ⟨?_, HF.out⟩
      rw [pk_of (show upd d_ 6 2 = true from q2)]
      all_goals rfl
    · have q5 : d_ 5 = true := by simp [hdep]
      rw [pk_of q5]
      have HF := Lib.hid F
      clear F hdep
      go_simp
      refine HK.out _ _ ⟨?_, HF.out⟩
      rw [pk_of (show upd d_ 7 5 = true from q5)]
      all_goals rfl
    · obtain ⟨hP, hN⟩ := ch1_s1 F hd_
      obtain ⟨⟨u0, c0⟩, z0, hR⟩ := ks8.out w1 hP
      have HF := Lib.hid (hN _ hR)
      clear F hP hR hN hdep
      go_simp
      have HG := HF.out
      refine HK.out _ _ ⟨?_, HG⟩
      all_goals rfl
  · rintro d_ a_ w1 hall ⟨rfl, F⟩
    have hall' : ∀ k, k < 9 → d_ k = true := hall
    rw [hall' 8 (by decide)] at F
    have HF := Lib.hid F
    clear F
    rw [pk_of (hall' 0 (by decide)), pk_of (hall' 1 (by decide)), pk_of (hall' 2 (by decide)), pk_of (hall' 3 (by decide)), pk_of (hall' 4 (by decide)), pk_of (hall' 5 (by decide)), pk_of (hall' 6 (by decide)), pk_of (hall' 7 (by decide))]
    exact HQ.out w1 HF.out
end Go.Proofs.Ytjkhclijmcmdjaa
