/- What is on the shelf, in memory; paper is bought. Cards are sold. A forme is printed. The drawn region of done. A deal is done. A deal is done: the walk. The shelf at first. Some deals, one after another: laws of the shelf. -/
import Derived.Test.YtjkhclijmcmdjaaC5
import Derived.Laws.CopyRow
namespace Go.Proofs.Ytjkhclijmcmdjaa
open Go.RowKit
set_option linter.unusedVariables false
set_option linter.unusedSimpArgs false
/-- A shelf of one's own: its block and its cards' block. -/
structure ShM (w : World) (bs g be : Nat) (s : Shf) : Prop where
  h : w.heap[bs]? = some (.cells #[.int .i64 s.paper, .int .i64 s.money, .slice (some ⟨g, 0, none⟩) s.cards.length s.cards.length] 48 (0, 0))
  k : w.heap[g]? = some (.cells (spV s.cards).toArray 23 (0, 0))
  e : w.heap[be]? = some (.cells #[.int .i64 0] 34 (0, 0))
theorem ShM.mono {w w' : World} {bs g be : Nat} {s : Shf} (h : ShM w bs g be s) (hb : Below w.heap.size w w') : ShM w' bs g be s := ⟨(hb.block _ (heap_lt h.h)).trans h.h, (hb.block _ (heap_lt h.k)).trans h.k, (hb.block _ (heap_lt h.e)).trans h.e⟩
theorem ShM.ne {w : World} {bs g be : Nat} {s : Shf} (h : ShM w bs g be s) : bs ≠ g := fun e => by
  have h1 := h.h; rw [e, h.k] at h1; simp at h1
theorem ShM.nb {w : World} {bs g be : Nat} {s : Shf} (h : ShM w bs g be s) : be ≠ bs := fun e => by
  have h1 := h.h; rw [← e, h.e] at h1; simp at h1
theorem ShM.ng {w : World} {bs g be : Nat} {s : Shf} (h : ShM w bs g be s) : be ≠ g := fun e => by
  have h1 := h.k; rw [← e, h.e] at h1; simp at h1
/-- No number is far too great. -/
structure SBd (s : Shf) (B : Int) : Prop where
  paper : -B ≤ s.paper ∧ s.paper ≤ B
  money : -B ≤ s.money ∧ s.money ≤ B
  cards : ∀ v, v < s.cards.length → (-B ≤ (gs s.cards v).lo ∧ (gs s.cards v).lo ≤ B) ∧ -B ≤ (gs s.cards v).hi ∧ (gs s.cards v).hi ≤ B
/-- How a deal ends. -/
def DealE (W : World) (B bs g be : Nat) : Option Shf → Ending → World → Prop
  | some t, e, w' => e = .returned (.tuple #[]) ∧ ShM w' bs g be t ∧ Below B W w'
  | none, e, w' => e = .panicked [{ v := .iface 103 (.agg #[.int .i64 10]), recovered := false }] ∧ (∃ s, ShM w' bs g be s) ∧ Below B W w'
/-- A shelf and a deal that is looked at. -/
structure DlX (W : World) (B bs g be bd : Nat) (d : Dl) (a : Option Addr) (c : Nat) (s : Shf) (w : World) : Prop where
  sh : ShM w bs g be s
  bd : w.heap[bd]? = some (.cells (d.arr a c) 62 (0, 0))
  le : Below B W w
theorem DlX.mono {W : World} {B bs g be bd : Nat} {d : Dl} {a : Option Addr} {c : Nat} {s : Shf} {w w' : World} (h : DlX W B bs g be bd d a c s w) (hB : B ≤ w.heap.size) (hb : Below w.heap.size w w') : DlX W B bs g be bd d a c s w' :=
  ⟨h.sh.mono hb, (hb.block _ (heap_lt h.bd)).trans h.bd, h.le.trans (hb.mono hB)⟩
theorem DlX.ne {W : World} {B bs g be bd : Nat} {d : Dl} {a : Option Addr} {c : Nat} {s : Shf} {w : World} (h : DlX W B bs g be bd d a c s w) : bs ≠ bd ∧ g ≠ bd := by
  constructor <;> intro e
  · have h1 := h.sh.h; rw [e, h.bd] at h1; simp at h1
  · have h1 := h.sh.k; rw [e, h.bd] at h1; simp at h1
theorem ShM.money {w : World} {bs g be : Nat} {s : Shf} (h : ShM w bs g be s) (x : Int) : ShM (w.setCell ⟨bs, 1, none⟩ (.int .i64 x)) bs g be { s with money := x } :=
  ⟨by simpa using heap_setCell_at (k := 1) h.h (.int .i64 x), (Below.heap_setCell _ _ _ _ (Ne.symm h.ne)).trans h.k, (Below.heap_setCell _ _ _ _ h.nb).trans h.e⟩
theorem ShM.paper {w : World} {bs g be : Nat} {s : Shf} (h : ShM w bs g be s) (x : Int) : ShM (w.setCell ⟨bs, 0, none⟩ (.int .i64 x)) bs g be { s with paper := x } :=
  ⟨by simpa using heap_setCell_at (k := 0) h.h (.int .i64 x), (Below.heap_setCell _ _ _ _ (Ne.symm h.ne)).trans h.k, (Below.heap_setCell _ _ _ _ h.nb).trans h.e⟩
theorem DlX.money {W : World} {B bs g be bd : Nat} {d : Dl} {a : Option Addr} {c : Nat} {s : Shf} {w : World} (h : DlX W B bs g be bd d a c s w) (hB : B ≤ bs) (x : Int) : DlX W B bs g be bd d a c { s with money := x } (w.setCell ⟨bs, 1, none⟩ (.int .i64 x)) :=
  ⟨h.sh.money x, (Below.heap_setCell _ _ _ _ (Ne.symm h.ne.1)).trans h.bd, h.le.setCell (p := ⟨bs, 1, none⟩) hB _⟩
theorem DlX.paper {W : World} {B bs g be bd : Nat} {d : Dl} {a : Option Addr} {c : Nat} {s : Shf} {w : World} (h : DlX W B bs g be bd d a c s w) (hB : B ≤ bs) (x : Int) : DlX W B bs g be bd d a c { s with paper := x } (w.setCell ⟨bs, 0, none⟩ (.int .i64 x)) :=
  ⟨h.sh.paper x, (Below.heap_setCell _ _ _ _ (Ne.symm h.ne.1)).trans h.bd, h.le.setCell (p := ⟨bs, 0, none⟩) hB _⟩
theorem ShM.c0 {w : World} {bs g be : Nat} {s : Shf} (h : ShM w bs g be s) : w.cell? ⟨bs, 0, none⟩ = some (.int .i64 s.paper) := by rw [cell_of_heap h.h]; rfl
theorem ShM.c1 {w : World} {bs g be : Nat} {s : Shf} (h : ShM w bs g be s) : w.cell? ⟨bs, 1, none⟩ = some (.int .i64 s.money) := by rw [cell_of_heap h.h]; rfl
theorem ShM.c2 {w : World} {bs g be : Nat} {s : Shf} (h : ShM w bs g be s) : w.cell? ⟨bs, 2, none⟩ = some (.slice (some ⟨g, 0, none⟩) s.cards.length s.cards.length) := by rw [cell_of_heap h.h]; rfl
theorem dlx_of {w : World} {B bs g be : Nat} {d : Dl} {a : Option Addr} {c : Nat} {s : Shf} (h : ShM w bs g be s) (hB : B ≤ bs) : DlX w B bs g be w.heap.size d a c s (w.alloc (.cells (d.arr a c) 62)) := by
  have hb0 : Below w.heap.size w (w.alloc (.cells (d.arr a c) 62)) := (Below.refl _ w).alloc (Nat.le_refl _) _
  have hlt := heap_lt h.h
  exact ⟨h.mono hb0, World.alloc_heap_new w _, hb0.mono (by omega)⟩
set_option maxHeartbeats 2000000 in
theorem buy104 {p : Prs} {d : Dl} {s : Shf} {pp : Value} {a : Option Addr} {c B bs g be : Nat} {w : World} (h : ShM w bs g be s) (hB : B ≤ bs) (hk : d.kind = 0) (hd : dealOk p d = true) (hS : SBd s 4611686018427387904) :
    Calls Try.prog 104 #[pp, .pointer (some ⟨bs, 0, none⟩), d.v a c] w (DealE w B bs g be (p.deal s d)) := by
  have HX := Lib.hid (dlx_of (d := d) (a := a) (c := c) h hB)
  have HBs := Lib.hid hB
  have hbd : (1 ≤ d.many ∧ d.many ≤ 1048576) ∧ 0 ≤ d.pence ∧ d.pence ≤ 1099511627776 := by
    unfold dealOk at hd; rw [if_pos hk] at hd; simpa [inR] using hd
  have hsB := hS
  have HE : Hid (p.deal s d = if s.money < d.pence then none else some ⟨s.paper + d.many, s.money - d.pence, s.cards⟩) := by
    show p.deal s d = _; unfold Prs.deal; rw [if_pos hk]
  clear h hd hS hB hk
  go_enter Try.func104, Try.ntmps104
  refine wp_seq_hid ?_
  intro K0 HK0
  go_wp2_with fail
  refine HK0.out _ _ ?_
  clear HK0 K0
  revert HX
  generalize w.alloc (.cells (d.arr a c) 62) = w1
  generalize w.heap.size = b1
  intro HX
  have k5 := fun y : Aft w1.heap.size w1 => cell_stays y.h (dl_cells HX.out.bd).c5
  have c1 := fun y : Aft w1.heap.size w1 => cell_stays y.h HX.out.sh.c1
  refine wp_seq_hid ?_
  intro K1 HK1
  by_cases hm : s.money < d.pence
  · have hd : decide (d.pence ≤ s.money) = false := by simpa using hm
    have HM := Lib.hid hm
    clear hm
    refine wp_region_aft_tail 7 mixed (by kernel_rfl) ?_
    simp only [List.take_succ_cons, List.take_zero, List.drop_succ_cons, List.drop_zero]
    repeat (go_big_quiet_step (fail))
    refine wpQuiet_nil ?_
    rintro _ ⟨y, rfl⟩
    have HY := Lib.hid (HX.out.mono (Nat.le_trans HBs.out (Nat.le_of_lt (heap_lt HX.out.sh.h))) y.h)
    go_wp2_with fail
    refine (need_no _ _).mono ?_
    rintro e w3 ⟨rfl, rfl⟩
    go_wp2_with fail
    rw [HE.out, if_pos HM.out]
    exact ⟨rfl, And.intro rfl (And.intro ⟨_, HY.out.sh⟩ HY.out.le)⟩
  · have hd : decide (d.pence ≤ s.money) = true := by simpa using hm
    have HM := Lib.hid hm
    clear hm
    refine wp_region_aft mixed (by kernel_rfl) ?_
    repeat (go_big_quiet_step ((go_at_call 43; exact calls_aft_same (need_yes _ _))))
    refine wpQuiet_nil ?_
    rintro _ ⟨y, rfl⟩
    have HY := Lib.hid (HX.out.mono (Nat.le_trans HBs.out (Nat.le_of_lt (heap_lt HX.out.sh.h))) y.h)
    refine HK1.out _ _ ?_
    clear HK1 K1 c1 k5 HX hd
    revert HY
    generalize y.v = w2
    intro HY
    have hp := hsB.paper
    have hm2 := hsB.money
    have e1 : IntKind.i64.wrap (s.money - d.pence) = s.money - d.pence := IntWalk.i64_in _ (by omega)
    have e2 : IntKind.i64.wrap (s.paper + d.many) = s.paper + d.many := IntWalk.i64_in _ (by omega)
    have dc : ∀ (t : Shf) (v : World), DlX w B bs g be b1 d a c t v → DlC v b1 d a c := fun t v h => dl_cells h.bd
    refine wpIn_wide.1 (buy2 (bs := bs) (bd := b1) (q := s.paper) (m := s.money) (c := d.pence) (k := d.many) (P0 := DlX w B bs g be b1 d a c s) (P1 := DlX w B bs g be b1 d a c { s with money := s.money - d.pence }) (P2 := DlX w B bs g be b1 d a c { s with money := s.money - d.pence, paper := s.paper + d.many }) ?h0 ?l5 ?l7 ?l12 ?l14 ?s18 ?s21 ?hQ)
    case h0 => exact HY.out.mono (Nat.le_trans HBs.out (Nat.le_of_lt (heap_lt HY.out.sh.h))) (Below.refl _ _).drew
    case l5 => exact fun v h => h.sh.c1
    case l7 => rintro v (h | h | h) <;> exact (dc _ _ h).c5
    case l12 => exact fun v h => h.sh.c0
    case l14 => rintro v (h | h | h) <;> exact (dc _ _ h).c4
    case s18 => exact fun v h => ⟨⟨_, h.sh.c1⟩, frozen_of_heap h.sh.h, by rw [e1]; exact h.money HBs.out _⟩
    case s21 => exact fun v h => ⟨⟨_, h.sh.c0⟩, frozen_of_heap h.sh.h, by rw [e2]; exact h.paper HBs.out _⟩
    intro w5 h5
    have H5 := Lib.hid h5
    clear h5 e1 e2 dc
    go_end0
    rw [HE.out, if_neg HM.out]
    exact And.intro rfl (And.intro H5.out.sh H5.out.le)
end Go.Proofs.Ytjkhclijmcmdjaa
namespace Go.Proofs.Ytjkhclijmcmdjaa
open Go.RowKit
set_option linter.unusedVariables false
set_option linter.unusedSimpArgs false
theorem spV_set : ∀ (l : List Spn) (i : Nat) (x y : Int), i < l.length → ((spV l).set (i * 2) (.int .i64 x)).set (i * 2 + 1) (.int .i64 y) = spV (l.set i ⟨x, y⟩)
  | [], i, x, y, h => by simp at h
  | z :: r, 0, x, y, h => by simp [spV_cons]
  | z :: r, i + 1, x, y, h => by
    have e1 : (i + 1) * 2 = i * 2 + 1 + 1 := by omega
    have ih := spV_set r i x y (by simpa using h)
    rw [e1, spV_cons, List.set_cons_succ, List.set_cons_succ, List.set_cons_succ, List.set_cons_succ, ih, List.set_cons_succ, spV_cons]
theorem set_same {α : Type} {l : List α} {k : Nat} {v : α} (h : l[k]? = some v) : l.set k v = l := by
  apply List.ext_getElem?
  intro j
  rw [List.getElem?_set]
  split
  · next e => subst e; split
              · exact h.symm
              · next h2 => rw [List.getElem?_eq_none (by omega)] at h; cases h
  · rfl
theorem spV_lo {l : List Spn} {i : Nat} (h : i < l.length) (x : Int) : (spV l).set (i * 2) (.int .i64 x) = spV (l.set i ⟨x, (gs l i).hi⟩) := by
  have e : ((spV l).set (i * 2) (.int .i64 x))[i * 2 + 1]? = some (.int .i64 (gs l i).hi) := by
    rw [List.getElem?_set, if_neg (by omega)]; exact (spV_at h).2
  rw [← spV_set l i x (gs l i).hi h]; exact (set_same e).symm
theorem spV_hi {l : List Spn} {i : Nat} (h : i < l.length) (y : Int) : (spV l).set (i * 2 + 1) (.int .i64 y) = spV (l.set i ⟨(gs l i).lo, y⟩) := by
  rw [← spV_set l i (gs l i).lo y h, set_same (spV_at h).1]
theorem gs_set {l : List Spn} {i : Nat} (h : i < l.length) (x : Spn) : gs (l.set i x) i = x := by
  unfold gs; rw [List.getD_eq_getElem?_getD, List.getElem?_set]; simp [h]
theorem gs_set_ne {l : List Spn} {i j : Nat} (h : i ≠ j) (x : Spn) : gs (l.set i x) j = gs l j := by
  unfold gs; rw [List.getD_eq_getElem?_getD, List.getElem?_set, if_neg h, ← List.getD_eq_getElem?_getD]
theorem ShM.clo {w : World} {bs g be : Nat} {s : Shf} (h : ShM w bs g be s) {v : Nat} (hv : v < s.cards.length) : w.cell? ⟨g, v * 2, none⟩ = some (.int .i64 (gs s.cards v).lo) := by
  rw [cell_of_heap h.k]; simpa using (spV_at hv).1
theorem ShM.chi {w : World} {bs g be : Nat} {s : Shf} (h : ShM w bs g be s) {v : Nat} (hv : v < s.cards.length) : w.cell? ⟨g, v * 2 + 1, none⟩ = some (.int .i64 (gs s.cards v).hi) := by
  rw [cell_of_heap h.k]; simpa using (spV_at hv).2
theorem ShM.lo {w : World} {bs g be : Nat} {s : Shf} (h : ShM w bs g be s) {v : Nat} (hv : v < s.cards.length) (x : Int) : ShM (w.setCell ⟨g, v * 2, none⟩ (.int .i64 x)) bs g be { s with cards := s.cards.set v ⟨x, (gs s.cards v).hi⟩ } :=
  ⟨(Below.heap_setCell _ _ _ _ h.ne).trans (by simpa using h.h), by
    have := heap_setCell_at (k := v * 2) h.k (.int .i64 x)
    rw [List.setIfInBounds_toArray, spV_lo hv] at this
    exact this, (Below.heap_setCell _ _ _ _ h.ng).trans h.e⟩
theorem ShM.hi {w : World} {bs g be : Nat} {s : Shf} (h : ShM w bs g be s) {v : Nat} (hv : v < s.cards.length) (x : Int) : ShM (w.setCell ⟨g, v * 2 + 1, none⟩ (.int .i64 x)) bs g be { s with cards := s.cards.set v ⟨(gs s.cards v).lo, x⟩ } :=
  ⟨(Below.heap_setCell _ _ _ _ h.ne).trans (by simpa using h.h), by
    have := heap_setCell_at (k := v * 2 + 1) h.k (.int .i64 x)
    rw [List.setIfInBounds_toArray, spV_hi hv] at this
    exact this, (Below.heap_setCell _ _ _ _ h.ng).trans h.e⟩
theorem DlX.lo {W : World} {B bs g be bd : Nat} {d : Dl} {a : Option Addr} {c : Nat} {s : Shf} {w : World} (h : DlX W B bs g be bd d a c s w) (hB : B ≤ g) {v : Nat} (hv : v < s.cards.length) (x : Int) : DlX W B bs g be bd d a c { s with cards := s.cards.set v ⟨x, (gs s.cards v).hi⟩ } (w.setCell ⟨g, v * 2, none⟩ (.int .i64 x)) :=
  ⟨h.sh.lo hv x, (Below.heap_setCell _ _ _ _ (Ne.symm h.ne.2)).trans h.bd, h.le.setCell (p := ⟨g, v * 2, none⟩) hB _⟩
theorem DlX.hi {W : World} {B bs g be bd : Nat} {d : Dl} {a : Option Addr} {c : Nat} {s : Shf} {w : World} (h : DlX W B bs g be bd d a c s w) (hB : B ≤ g) {v : Nat} (hv : v < s.cards.length) (x : Int) : DlX W B bs g be bd d a c { s with cards := s.cards.set v ⟨(gs s.cards v).lo, x⟩ } (w.setCell ⟨g, v * 2 + 1, none⟩ (.int .i64 x)) :=
  ⟨h.sh.hi hv x, (Below.heap_setCell _ _ _ _ (Ne.symm h.ne.2)).trans h.bd, h.le.setCell (p := ⟨g, v * 2 + 1, none⟩) hB _⟩
set_option maxHeartbeats 2000000 in
theorem sell108 {p : Prs} {d : Dl} {s : Shf} {pp : Value} {a : Option Addr} {c B bs g be : Nat} {w : World} (h : ShM w bs g be s) (hB : B ≤ bs) (hG : B ≤ g) (h0 : d.kind ≠ 0) (h1 : d.kind ≠ 1) (hd : dealOk p d = true) (hn : s.cards.length = p.wanted.length) (hn4 : s.cards.length ≤ 1000) (hS : SBd s 4611686018427387904) :
    Calls Try.prog 108 #[pp, .pointer (some ⟨bs, 0, none⟩), d.v a c] w (DealE w B bs g be (p.deal s d)) := by
  have HX := Lib.hid (dlx_of (d := d) (a := a) (c := c) h hB)
  have HBs := Lib.hid (And.intro hB hG)
  have hbd : ((0 ≤ d.view ∧ d.view ≤ (p.wanted.length : Int) - 1) ∧ (1 ≤ d.many ∧ d.many ≤ 1048576)) ∧ 0 ≤ d.pence ∧ d.pence ≤ 1099511627776 := by
    unfold dealOk at hd; rw [if_neg h0, if_neg h1] at hd; split at hd
    · simpa [inR, and_assoc] using hd
    · cases hd
  obtain ⟨v, hv⟩ : ∃ v : Nat, d.view = (v : Int) := ⟨d.view.toNat, by omega⟩
  have hv2 : d.view.toNat = v := by omega
  have HE : Hid (p.deal s d = if (gs s.cards v).lo < d.many then none
      else some ⟨s.paper, s.money + d.pence, s.cards.set v ⟨(gs s.cards v).lo - d.many, (gs s.cards v).hi - d.many⟩⟩) := by
    show p.deal s d = _; unfold Prs.deal; rw [if_neg h0, if_neg h1, hv2]
  have hlt : v < s.cards.length := by omega
  have hc := hS.cards v hlt
  have hm2 := hS.money
  have HV := Lib.hid hv
  clear h hd hS hB hG h0 h1 hv2
  go_enter Try.func108, Try.ntmps108
  refine wp_seq_hid ?_
  intro K0 HK0
  go_wp2_with fail
  refine HK0.out _ _ ?_
  clear HK0 K0
  revert HX
  generalize w.alloc (.cells (d.arr a c) 62) = w1
  generalize w.heap.size = b1
  intro HX
  have dc : ∀ (t : Shf) (v : World), DlX w B bs g be b1 d a c t v → DlC v b1 d a c := fun t v h => dl_cells h.bd
  have bsz : ∀ (t : Shf) (v : World), DlX w B bs g be b1 d a c t v → B ≤ v.heap.size := fun t v h => Nat.le_trans HBs.out.1 (Nat.le_of_lt (heap_lt h.sh.h))
  have HDC := Lib.hid dc
  have HSZ := Lib.hid bsz
  clear dc bsz
  have k3 := fun y : Aft w1.heap.size w1 => cell_stays y.h (dl_cells HX.out.bd).c3
  rw [hv] at k3
  have c2 := fun y : Aft w1.heap.size w1 => cell_stays y.h HX.out.sh.c2
  have HBD := Lib.hid (And.intro hbd.1.2 hbd.2)
  clear hv hbd
  refine wp_seq_hid ?_
  intro K1 HK1
  refine wp_region_aft mixed (by kernel_rfl) ?_
  repeat (go_big_quiet_step (fail))
  refine wpQuiet_nil ?_
  rintro _ ⟨y, rfl⟩
  have HY := Lib.hid (HX.out.mono (HSZ.out _ _ HX.out) y.h)
  refine HK1.out _ _ ?_
  clear HK1 K1 k3 c2 HX
  revert HY
  generalize y.v = w2
  intro HY
  have HLT := Lib.hid hlt
  have k4 := fun y : Aft w2.heap.size w2 => cell_stays y.h (dl_cells HY.out.bd).c4
  have c6 := fun y : Aft w2.heap.size w2 => cell_stays y.h (HY.out.sh.clo hlt)
  refine wp_seq_hid ?_
  intro K2 HK2
  by_cases hm : (gs s.cards v).lo < d.many
  · have hd : decide (d.many ≤ (gs s.cards v).lo) = false := by simpa using hm
    have HM := Lib.hid hm
    clear hm
    refine wp_region_aft_tail 7 mixed (by kernel_rfl) ?_
    simp only [List.take_succ_cons, List.take_zero, List.drop_succ_cons, List.drop_zero]
    repeat (go_big_quiet_step (fail))
    refine wpQuiet_nil ?_
    rintro _ ⟨y, rfl⟩
    have HY2 := Lib.hid (HY.out.mono (HSZ.out _ _ HY.out) y.h)
    go_wp2_with fail
    refine (need_no _ _).mono ?_
    rintro e w3 ⟨rfl, rfl⟩
    go_wp2_with fail
    rw [HE.out, if_pos HM.out]
    exact ⟨rfl, And.intro rfl (And.intro ⟨_, HY2.out.sh⟩ HY2.out.le)⟩
  · have hd : decide (d.many ≤ (gs s.cards v).lo) = true := by simpa using hm
    have HM := Lib.hid hm
    clear hm
    refine wp_region_aft mixed (by kernel_rfl) ?_
    repeat (go_big_quiet_step ((go_at_call 43; exact calls_aft_same (need_yes _ _))))
    refine wpQuiet_nil ?_
    rintro _ ⟨y, rfl⟩
    have HY2 := Lib.hid (HY.out.mono (HSZ.out _ _ HY.out) y.h)
    refine HK2.out _ _ ?_
    clear HK2 K2 k4 c6 HY hd
    revert HY2
    generalize y.v = w3
    intro HY
    obtain ⟨hb1, hb2⟩ := HBD.out
    have e1 : IntKind.i64.wrap ((gs s.cards v).lo - d.many) = (gs s.cards v).lo - d.many := IntWalk.i64_in _ (by omega)
    have e2 : IntKind.i64.wrap ((gs s.cards v).hi - d.many) = (gs s.cards v).hi - d.many := IntWalk.i64_in _ (by omega)
    have e3 : IntKind.i64.wrap (s.money + d.pence) = s.money + d.pence := IntWalk.i64_in _ (by omega)
    refine wp_seq_hid ?_
    intro K3 HK3
    refine wpIn_wide.1 (sel3 (g := g) (bd := b1) (i := v) (x := (gs s.cards v).lo) (y := (gs s.cards v).hi) (k := d.many) (P0 := DlX w B bs g be b1 d a c s) (P1 := DlX w B bs g be b1 d a c { s with cards := s.cards.set v ⟨(gs s.cards v).lo - d.many, (gs s.cards v).hi⟩ }) (P2 := DlX w B bs g be b1 d a c { s with cards := s.cards.set v ⟨(gs s.cards v).lo - d.many, (gs s.cards v).hi - d.many⟩ }) ?h0 ?l5 ?l7 ?l12 ?l14 ?s18 ?s21 ?hQ)
    case h0 => exact HY.out.mono (HSZ.out _ _ HY.out) (Below.refl _ _).drew
    case l5 => exact fun v h => h.sh.clo HLT.out
    case l7 => rintro v (h | h | h) <;> exact (HDC.out _ _ h).c4
    case l12 => exact fun v h => h.sh.chi HLT.out
    case l14 => rintro v (h | h | h) <;> exact (HDC.out _ _ h).c4
    case s18 => exact fun u h => ⟨⟨_, h.sh.clo HLT.out⟩, frozen_of_heap h.sh.k, by rw [e1]; exact h.lo HBs.out.2 HLT.out _⟩
    case s21 =>
      intro u h
      have hl2 : v < (s.cards.set v ⟨(gs s.cards v).lo - d.many, (gs s.cards v).hi⟩).length := by simpa using HLT.out
      have h5 := h.hi HBs.out.2 hl2 ((gs s.cards v).hi - d.many)
      simp only [gs_set HLT.out, List.set_set] at h5
      exact ⟨⟨_, h.sh.chi hl2⟩, frozen_of_heap h.sh.k, by rw [e2]; exact h5⟩
    intro w4 h4
    have HY4 := Lib.hid h4
    rw [e1, e2]
    refine HK3.out _ _ ?_
    clear HK3 K3 h4 HY
    refine wpIn_wide.1 (sel4 (bs := bs) (bd := b1) (m := s.money) (c := d.pence) (P0 := DlX w B bs g be b1 d a c { s with cards := s.cards.set v ⟨(gs s.cards v).lo - d.many, (gs s.cards v).hi - d.many⟩ }) (P1 := DlX w B bs g be b1 d a c { s with money := s.money + d.pence, cards := s.cards.set v ⟨(gs s.cards v).lo - d.many, (gs s.cards v).hi - d.many⟩ }) ?h0_1 ?l3 ?l5_1 ?s9 ?hQ1)
    case h0_1 => exact HY4.out.mono (HSZ.out _ _ HY4.out) (Below.refl _ _).drew
    case l3 => exact fun v h => h.sh.c1
    case l5_1 => rintro v (h | h) <;> exact (HDC.out _ _ h).c5
    case s9 => exact fun v h => ⟨⟨_, h.sh.c1⟩, frozen_of_heap h.sh.h, by rw [e3]; exact h.money HBs.out.1 _⟩
    intro w5 h5
    have H5 := Lib.hid h5
    clear h5 e1 e2 e3 HY4
    go_end0
    rw [HE.out, if_neg HM.out]
    exact And.intro rfl (And.intro H5.out.sh H5.out.le)
end Go.Proofs.Ytjkhclijmcmdjaa
namespace Go.Proofs.Ytjkhclijmcmdjaa
open Go.RowKit
set_option linter.unusedVariables false
set_option linter.unusedSimpArgs false
/-- The cards when the first so many views have been printed. -/
def addK (p : Prs) (f : Fme) (l : List Spn) (k : Nat) : List Spn := (List.range l.length).map fun v => if v < k then ⟨(gs l v).lo + (p.gives f v).lo, (gs l v).hi + (p.gives f v).hi⟩ else gs l v
theorem addK_len (p : Prs) (f : Fme) (l : List Spn) (k : Nat) : (addK p f l k).length = l.length := by simp [addK]
theorem gs_get {l : List Spn} {v : Nat} (h : v < l.length) : gs l v = l[v] := by unfold gs; rw [List.getD_eq_getElem?_getD, List.getElem?_eq_getElem h]; rfl
theorem addK_at {p : Prs} {f : Fme} {l : List Spn} {k v : Nat} (h : v < l.length) : gs (addK p f l k) v = if v < k then ⟨(gs l v).lo + (p.gives f v).lo, (gs l v).hi + (p.gives f v).hi⟩ else gs l v := by
  rw [gs_get (by rw [addK_len]; exact h)]; simp [addK]
theorem addK_zero (p : Prs) (f : Fme) (l : List Spn) : addK p f l 0 = l := by
  apply List.ext_getElem (by rw [addK_len])
  intro v h1 h2
  rw [← gs_get h1, addK_at h2, if_neg (by omega), gs_get h2]
theorem addK_succ {p : Prs} {f : Fme} {l : List Spn} {k : Nat} (h : k < l.length) : addK p f l (k + 1) = (addK p f l k).set k ⟨(gs l k).lo + (p.gives f k).lo, (gs l k).hi + (p.gives f k).hi⟩ := by
  apply List.ext_getElem (by simp [addK_len])
  intro v h1 h2
  have h3 : v < l.length := by rw [addK_len] at h1; exact h1
  rw [← gs_get h1, ← gs_get h2, addK_at h3]
  by_cases e : k = v
  · subst e; rw [gs_set (by rw [addK_len]; exact h), if_pos (by omega)]
  · rw [gs_set_ne e, addK_at h3]
    by_cases e2 : v < k
    · rw [if_pos (by omega), if_pos e2]
    · rw [if_neg (by omega), if_neg e2]
theorem addK_all (p : Prs) (f : Fme) (l : List Spn) : addK p f l l.length = (List.range l.length).map fun v => ⟨(gs l v).lo + (p.gives f v).lo, (gs l v).hi + (p.gives f v).hi⟩ := by
  unfold addK
  apply List.map_congr_left
  intro v hv
  rw [if_pos (by simpa using hv)]
/-- A shelf, a deal that is looked at, and two spans of one's own. -/
structure SpX (W : World) (bs g be bd ba bb : Nat) (d : Dl) (a : Option Addr) (c : Nat) (s : Shf) (x y : Spn) (w : World) : Prop where
  dl : DlX W W.heap.size bs g be bd d a c s w
  ha : w.heap[ba]? = some (.cells x.arr 23 (0, 0))
  hb : w.heap[bb]? = some (.cells y.arr 23 (0, 0))
  na : g < ba
  nb : g < bb
theorem SpX.mono {W : World} {bs g be bd ba bb : Nat} {d : Dl} {a : Option Addr} {c : Nat} {s : Shf} {x y : Spn} {w w' : World} (h : SpX W bs g be bd ba bb d a c s x y w) (hb : Below w.heap.size w w') : SpX W bs g be bd ba bb d a c s x y w' :=
  ⟨h.dl.mono h.dl.le.size hb, (hb.block _ (heap_lt h.ha)).trans h.ha, (hb.block _ (heap_lt h.hb)).trans h.hb, h.na, h.nb⟩
theorem SpX.lo {W : World} {bs g be bd ba bb : Nat} {d : Dl} {a : Option Addr} {c : Nat} {s : Shf} {x y : Spn} {w : World} (h : SpX W bs g be bd ba bb d a c s x y w) (hB : W.heap.size ≤ g) {v : Nat} (hv : v < s.cards.length) (z : Int) : SpX W bs g be bd ba bb d a c { s with cards := s.cards.set v ⟨z, (gs s.cards v).hi⟩ } x y (w.setCell ⟨g, v * 2, none⟩ (.int .i64 z)) :=
  ⟨h.dl.lo hB hv z, (Below.heap_setCell _ _ _ _ (by have := h.na; simp; omega)).trans h.ha, (Below.heap_setCell _ _ _ _ (by have := h.nb; simp; omega)).trans h.hb, h.na, h.nb⟩
theorem SpX.hi {W : World} {bs g be bd ba bb : Nat} {d : Dl} {a : Option Addr} {c : Nat} {s : Shf} {x y : Spn} {w : World} (h : SpX W bs g be bd ba bb d a c s x y w) (hB : W.heap.size ≤ g) {v : Nat} (hv : v < s.cards.length) (z : Int) : SpX W bs g be bd ba bb d a c { s with cards := s.cards.set v ⟨(gs s.cards v).lo, z⟩ } x y (w.setCell ⟨g, v * 2 + 1, none⟩ (.int .i64 z)) :=
  ⟨h.dl.hi hB hv z, (Below.heap_setCell _ _ _ _ (by have := h.na; simp; omega)).trans h.ha, (Below.heap_setCell _ _ _ _ (by have := h.nb; simp; omega)).trans h.hb, h.na, h.nb⟩
set_option maxRecDepth 100000 in
set_option maxHeartbeats 4000000 in
theorem print106 {p : Prs} {A : PrsA} {d : Dl} {s : Shf} {a : Option Addr} {c bq bs g be : Nat} {W w : World} (hW : Below W.heap.size W w) (h : ShM w bs g be s) (hB : W.heap.size ≤ bs) (hG : W.heap.size ≤ g) (hP : IsPress W p A bq) (hV : p.valid = true) (hf : IsInts W a d.forme.slots)
    (h1 : d.kind = 1) (hd : dealOk p d = true) (hn : s.cards.length = p.wanted.length) (hS : SBd s 4611686018427387904) :
    Calls Try.prog 106 #[.pointer (some ⟨bq, 0, none⟩), .pointer (some ⟨bs, 0, none⟩), d.v a c] w (DealE W W.heap.size bs g be (p.deal s d)) := by
  have hx0 := dlx_of (d := d) (a := a) (c := c) h hB
  have HX : Hid (DlX W W.heap.size bs g be w.heap.size d a c s (w.alloc (.cells (d.arr a c) 62))) := ⟨hx0.sh, hx0.bd, hW.trans hx0.le⟩
  have HBs := Lib.hid (And.intro hB hG)
  have hF : fmeOk p d.forme = true := by unfold dealOk at hd; rw [if_neg (by omega), if_pos h1] at hd; exact hd
  have HF := Lib.hid (And.intro hF (And.intro hP hf))
  have HSP := Lib.hid (And.intro (spoil_of hV) hn)
  have ht := (fmeR_of hF (v := 0) (by have := wanted_of hV; omega)).times
  have hmk := (pence_of hV).1
  have hw4 := (wanted_of hV).2
  have HE : Hid (p.deal s d = if s.money < p.make ∨ s.paper < d.forme.times then none
      else some ⟨s.paper - d.forme.times, s.money - p.make, addK p d.forme s.cards s.cards.length⟩) := by
    show p.deal s d = _; unfold Prs.deal; rw [if_neg (by omega), if_pos h1, addK_all]
  have HSB := Lib.hid hS
  have hp2 := hS.paper
  have hm2 := hS.money
  clear h hd hS hB hG h1 hF hP hf hV hx0 hW
  go_enter Try.func106, Try.ntmps106
  refine wp_seq_hid ?_
  intro K0 HK0
  go_wp2_with fail
  refine HK0.out _ _ ?_
  clear HK0 K0
  revert HX
  generalize w.alloc (.cells (d.arr a c) 62) = w1
  generalize w.heap.size = b1
  intro HX
  have dc : ∀ (t : Shf) (v : World), DlX W W.heap.size bs g be b1 d a c t v → DlC v b1 d a c := fun t v h => dl_cells h.bd
  have bsz : ∀ (t : Shf) (v : World), DlX W W.heap.size bs g be b1 d a c t v → W.heap.size ≤ v.heap.size := fun t v h => Nat.le_trans HBs.out.1 (Nat.le_of_lt (heap_lt h.sh.h))
  have HDC := Lib.hid dc
  have HSZ := Lib.hid bsz
  clear dc bsz
  have k2 := fun y : Aft w1.heap.size w1 => cell_stays y.h (dl_cells HX.out.bd).c2
  have c0 := fun y : Aft w1.heap.size w1 => cell_stays y.h HX.out.sh.c0
  have c1 := fun y : Aft w1.heap.size w1 => cell_stays y.h HX.out.sh.c1
  have m4 := fun y : Aft w1.heap.size w1 => cell_stays y.h (HF.out.2.1.mono HX.out.le).c.c4
  refine wp_seq_hid ?_
  intro K1 HK1
  obtain ⟨e1, he1⟩ : ∃ e, decide (p.make ≤ s.money) = e := ⟨_, rfl⟩
  obtain ⟨e2, he2⟩ : ∃ e, decide (d.forme.times ≤ s.paper) = e := ⟨_, rfl⟩
  have HEE : Hid (p.deal s d = if (e1 && e2) = true then some ⟨s.paper - d.forme.times, s.money - p.make, addK p d.forme s.cards s.cards.length⟩ else none) := by
    show p.deal s d = _
    rw [HE.out, ← he1, ← he2]
    by_cases x1 : s.money < p.make
    · rw [if_pos (Or.inl x1), if_neg (by simp; omega)]
    · by_cases x2 : s.paper < d.forme.times
      · rw [if_pos (Or.inr x2), if_neg (by simp; omega)]
      · rw [if_neg (by omega), if_pos (by simp; omega)]
  clear HE
  cases e1
  case false =>
    refine wp_region_aft_tail 19 mixed (by kernel_rfl) ?_
    simp only [List.take_succ_cons, List.take_zero, List.drop_succ_cons, List.drop_zero]
    repeat (go_big_quiet_step (fail))
    refine wpQuiet_nil ?_
    rintro _ ⟨y, rfl⟩
    have HY := Lib.hid (HX.out.mono (HSZ.out _ _ HX.out) y.h)
    go_wp2_with fail
    refine (need_no _ _).mono ?_
    rintro e w3 ⟨rfl, rfl⟩
    go_wp2_with fail
    rw [HEE.out, if_neg (by simp)]
    exact ⟨rfl, And.intro rfl (And.intro ⟨_, HY.out.sh⟩ HY.out.le)⟩
  cases e2
  case false =>
    refine wp_region_aft_tail 19 mixed (by kernel_rfl) ?_
    simp only [List.take_succ_cons, List.take_zero, List.drop_succ_cons, List.drop_zero]
    repeat (go_big_quiet_step (fail))
    refine wpQuiet_nil ?_
    rintro _ ⟨y, rfl⟩
    have HY := Lib.hid (HX.out.mono (HSZ.out _ _ HX.out) y.h)
    go_wp2_with fail
    refine (need_no _ _).mono ?_
    rintro e w3 ⟨rfl, rfl⟩
    go_wp2_with fail
    rw [HEE.out, if_neg (by simp)]
    exact ⟨rfl, And.intro rfl (And.intro ⟨_, HY.out.sh⟩ HY.out.le)⟩
  refine wp_region_aft mixed (by kernel_rfl) ?_
  repeat (go_big_quiet_step ((go_at_call 43; exact calls_aft_same (need_yes _ _))))
  refine wpQuiet_nil ?_
  rintro _ ⟨y, rfl⟩
  have HY := Lib.hid (HX.out.mono (HSZ.out _ _ HX.out) y.h)
  refine HK1.out _ _ ?_
  clear HK1 K1 k2 c0 c1 m4 HX he1 he2
  revert HY
  generalize y.v = w2
  intro HY
  have e1 : IntKind.i64.wrap (s.money - p.make) = s.money - p.make := IntWalk.i64_in _ (by omega)
  have e2 : IntKind.i64.wrap (s.paper - d.forme.times) = s.paper - d.forme.times := IntWalk.i64_in _ (by omega)
  refine wp_seq_hid ?_
  intro K2 HK2
  refine wpIn_wide.1 (pri2 (bs := bs) (bd := b1) (bq := bq) (q := s.paper) (m := s.money) (c := p.make) (k := d.forme.times) (P0 := DlX W W.heap.size bs g be b1 d a c s) (P1 := DlX W W.heap.size bs g be b1 d a c { s with money := s.money - p.make }) (P2 := DlX W W.heap.size bs g be b1 d a c { s with money := s.money - p.make, paper := s.paper - d.forme.times }) ?h0 ?l5 ?l10 ?l15 ?l18 ?s22 ?s25 ?hQ)
  case h0 => exact HY.out.mono (HSZ.out _ _ HY.out) (Below.refl _ _).drew
  case l5 => exact fun v h => h.sh.c1
  case l10 => rintro v (h | h | h) <;> exact (HF.out.2.1.mono h.le).c.c4
  case l15 => exact fun v h => h.sh.c0
  case l18 => rintro v (h | h | h) <;> exact (HDC.out _ _ h).c2
  case s22 => exact fun v h => ⟨⟨_, h.sh.c1⟩, frozen_of_heap h.sh.h, by rw [e1]; exact h.money HBs.out.1 _⟩
  case s25 => exact fun v h => ⟨⟨_, h.sh.c0⟩, frozen_of_heap h.sh.h, by rw [e2]; exact h.paper HBs.out.1 _⟩
  intro w3 h3
  have HY3 : Hid (DlX W W.heap.size bs g be b1 d a c ⟨s.paper - d.forme.times, s.money - p.make, addK p d.forme s.cards 0⟩ w3) := by rw [addK_zero]; exact h3
  rw [e1, e2]
  refine HK2.out _ _ ?_
  clear HK2 K2 h3 HY e1 e2
  have c2 := HY3.out.sh.c2
  simp only [addK_len] at c2
  refine wp_seq_hid ?_
  intro K3 HK3
  go_wp2_with fail
  refine HK3.out _ _ ?_
  clear HK3 K3 c2
  refine wp_block ?_
  go_loopw [59] (fun i wr => ∃ k : Nat, k ≤ s.cards.length ∧ i = .int .i64 k ∧ Hid (DlX W W.heap.size bs g be b1 d a c ⟨s.paper - d.forme.times, s.money - p.make, addK p d.forme s.cards k⟩ wr)) (fun i _ => s.cards.length - (intOf i).toNat)
  case atStart => exact ⟨0, by omega, rfl, HY3.out⟩
  case round =>
    obtain ⟨k, hk, rfl, HW⟩ := hrel
    by_cases hlk : k < s.cards.length
    · have FR := fmeR_of HF.out.1 (v := k) (by have := HSP.out.2; omega)
      have h2 := gives_bd HSP.out.1 FR
      have hc := HSB.out.cards k hlk
      have HLK := Lib.hid hlk
      have hlk2 : k < (addK p d.forme s.cards k).length := by rw [addK_len]; exact hlk
      have x0 := HW.out.sh.clo hlk2
      have x1 := HW.out.sh.chi hlk2
      have eg : gs (addK p d.forme s.cards k) k = gs s.cards k := by rw [addK_at hlk, if_neg (by omega)]
      simp only [eg] at x0 x1
      have HSU := addK_succ (p := p) (f := d.forme) hlk
      have HGE := gives_eq p d.forme k
      rw [HGE] at HSU
      simp only at HSU
      have hltb := heap_lt HW.out.sh.k
      have hltb2 := heap_lt HW.out.bd
      have hb5 : Below wr.heap.size wr (wr.alloc (.cells #[.int .i64 (gs s.cards k).lo, .int .i64 (gs s.cards k).hi] 23)) := (Below.refl _ wr).alloc (Nat.le_refl _) _
      have q5 := World.alloc_heap_new wr (.cells #[.int .i64 (gs s.cards k).lo, .int .i64 (gs s.cards k).hi] 23)
      have HC := Lib.hid (gives45 (p := p) (A := A) (c := c) ((HF.out.2.1.mono HW.out.le).mono hb5) HSP.out.1 ((HF.out.2.2.mono HW.out.le).mono hb5) FR)
      rw [HGE] at HC
      have HQ5 := Lib.hid (And.intro q5 (And.intro (HW.out.mono (HSZ.out _ _ HW.out) hb5) (And.intro hltb hltb2)))
      have HSUh := Lib.hid HSU
      have HEG := Lib.hid eg
      clear HGE q5 hb5 hltb hltb2 FR HSU hlk2 eg
      revert h2 HC HQ5 x0 x1 HSUh hc HEG
      generalize gs s.cards k = z
      obtain ⟨z1, z2⟩ := z
      generalize gi d.forme.slots k * (p.good d.forme.times).lo = u1
      generalize gi d.forme.slots k * (p.good d.forme.times).hi = u2
      intro h2 hc x0 x1 HC HQ5 HSUh HEG
      have hc : (-4611686018427387904 ≤ z1 ∧ z1 ≤ 4611686018427387904) ∧ -4611686018427387904 ≤ z2 ∧ z2 ≤ 4611686018427387904 := hc
      simp only at x0 x1
      have v1 : IntKind.i64.wrap (z1 + u1) = z1 + u1 := IntWalk.i64_in _ (by omega)
      have v2 : IntKind.i64.wrap (z2 + u2) = z2 + u2 := IntWalk.i64_in _ (by omega)
      have HV := Lib.hid (And.intro v1 v2)
      clear v1 v2 h2 hc
      go_upto_region 6 with fail
      clear x0 x1
      revert HC HQ5
      generalize wr.alloc (.cells #[.int .i64 z1, .int .i64 z2] 23) = w5
      generalize hba : wr.heap.size = ba
      intro HC HQ5
      obtain ⟨k0, k1, k2, k3, k4, k5⟩ := dl_cells HQ5.out.2.1.bd
      go_wp2_with fail
      refine HC.out.mono ?_
      rintro e w6 ⟨rfl, hb6⟩
      have HB6 := Lib.hid (And.intro (HQ5.out.2.1.mono (HSZ.out _ _ HQ5.out.2.1) hb6) (And.intro ((hb6.block _ (heap_lt HQ5.out.1)).trans HQ5.out.1) (And.intro HQ5.out.2.2.1 hb6.size)))
      clear hb6 k0 k1 k2 k3 k4 k5 HC
      have hb7 : Below w6.heap.size w6 (w6.alloc (.cells #[.int .i64 u1, .int .i64 u2] 23)) := (Below.refl _ w6).alloc (Nat.le_refl _) _
      have q7 := World.alloc_heap_new w6 (.cells #[.int .i64 u1, .int .i64 u2] 23)
      have h6lt := heap_lt HB6.out.2.1
      have HS7 : Hid (SpX W bs g be b1 ba w6.heap.size d a c ⟨s.paper - d.forme.times, s.money - p.make, addK p d.forme s.cards k⟩ ⟨z1, z2⟩ ⟨u1, u2⟩ (w6.alloc (.cells #[.int .i64 u1, .int .i64 u2] 23))) :=
        ⟨HB6.out.1.mono (HSZ.out _ _ HB6.out.1) hb7, (hb7.block _ h6lt).trans HB6.out.2.1, q7, HB6.out.2.2.1, by have := HB6.out.2.2.1; omega⟩
      clear hb7 q7 h6lt HB6 HQ5 HW hba
      go_upto_region 7 with fail
      revert HS7
      generalize w6.alloc (.cells #[.int .i64 u1, .int .i64 u2] 23) = w7
      generalize w6.heap.size = bb
      intro HS7
      refine wpIn_wide.1 (pri7 (bs := bs) (g := g) (ba := ba) (bb := bb) (i := k) (n := s.cards.length) (x := z1) (y := z2) (u := u1) (v := u2) (P0 := SpX W bs g be b1 ba bb d a c ⟨s.paper - d.forme.times, s.money - p.make, addK p d.forme s.cards k⟩ ⟨z1, z2⟩ ⟨u1, u2⟩) (P1 := SpX W bs g be b1 ba bb d a c ⟨s.paper - d.forme.times, s.money - p.make, addK p d.forme s.cards (k + 1)⟩ ⟨z1, z2⟩ ⟨u1, u2⟩) HLK.out ?h0_2 ?l3 ?l6 ?l8 ?l11 ?l13 ?s17 ?hQ2)
      case h0_2 => exact HS7.out.mono (Below.refl _ _).drew
      case l3 =>
        rintro v (h | h)
        · have := h.dl.sh.c2; simpa only [addK_len] using this
        · have := h.dl.sh.c2; simpa only [addK_len] using this
      case l6 => rintro v (h | h) <;> (rw [cell_of_heap h.ha]; rfl)
      case l8 => rintro v (h | h) <;> (rw [cell_of_heap h.hb]; rfl)
      case l11 => rintro v (h | h) <;> (rw [cell_of_heap h.ha]; rfl)
      case l13 => rintro v (h | h) <;> (rw [cell_of_heap h.hb]; rfl)
      case s17 =>
        intro v h
        have hl1 : k < (addK p d.forme s.cards k).length := by rw [addK_len]; exact HLK.out
        rw [HV.out.1, HV.out.2]
        have h3 := h.lo HBs.out.2 hl1 (z1 + u1)
        have hl2 : k < ((addK p d.forme s.cards k).set k ⟨z1 + u1, (gs (addK p d.forme s.cards k) k).hi⟩).length := by simpa using hl1
        have h4 := h3.hi HBs.out.2 hl2 (z2 + u2)
        simp only [gs_set hl1, List.set_set] at h4
        have e : addK p d.forme s.cards (k + 1) = (addK p d.forme s.cards k).set k ⟨z1 + u1, z2 + u2⟩ := HSUh.out
        rw [← e] at h4
        refine ⟨⟨_, h.dl.sh.clo hl1⟩, frozen_of_heap h.dl.sh.k, ⟨_, h.dl.sh.chi hl1⟩, frozen_of_heap h.dl.sh.k, h4⟩
      intro w8 h8
      have H8 := Lib.hid h8.dl
      clear h8 HS7
      go_wp2_with fail
      go_roundw
      case rel => exact ⟨k + 1, by have := HLK.out; omega, by go_num, H8.out⟩
      case measure => simp [intOf]; have := HLK.out; omega
    · have hke : k = s.cards.length := by omega
      subst hke
      go_wp2_with fail
      go_end0
      rw [HEE.out, if_pos (by simp)]
      exact And.intro rfl (And.intro HW.out.sh HW.out.le)
end Go.Proofs.Ytjkhclijmcmdjaa
namespace Go.Proofs.Ytjkhclijmcmdjaa
open Go.RowKit
set_option linter.unusedVariables false
set_option linter.unusedSimpArgs false
noncomputable def don5C : Code := (Try.f62.body.bind (regionAt 5)).getD .skip
set_option maxRecDepth 100000 in
set_option maxHeartbeats 8000000 in
theorem don5 {bq b1 bs N f0 f n c : Nat} {a : Option Addr} {k t v m q : Int} {R : Ending → World → Prop} {PP : World → Prop} {PL : List PanicEntry} {P0 P1 P2 : World → Prop} {Q : Exit → Act → World → Prop} {W1 : World} (hfd : Hid (∀ w : World, (Instr.field 129 (.agg #[.func (.func f0) #[] #[], .func (.func f) #[] #[]]) 1).run Try.prog w = .ok (.func (.func f) #[] #[]) w)) (hen : Hid (∀ (args : Array Value) (w : World), (callFunc f args).run Try.prog w = .ok (.enter f args) w)) (h0 : P0 W1.drew)
    (kc0 : Hid (∀ w : World, P0 w → Calls Try.prog 89 #[] w fun e w' => e = .returned (.map (some N)) ∧ P1 w'))
    (kl2 : Hid (∀ w : World, (P0 w ∨ P1 w) → w.cell? ⟨b1, 0, none⟩ = some (.int .i64 (k))))
    (kl3 : Hid (∀ w : World, (P1 w) → (Instr.lookup 130 (.map (some N)) (.int .i64 k) false).run Try.prog w = .ok (.agg #[.func (.func f0) #[] #[], .func (.func f) #[] #[]]) w))
    (kl6 : Hid (∀ w : World, (P0 w ∨ P1 w) → w.cell? ⟨b1, 0, none⟩ = some (.int .i64 (k)) ∧ w.cell? ⟨b1, 1, none⟩ = some (.slice a n c) ∧ w.cell? ⟨b1, 2, none⟩ = some (.int .i64 (t)) ∧ w.cell? ⟨b1, 3, none⟩ = some (.int .i64 (v)) ∧ w.cell? ⟨b1, 4, none⟩ = some (.int .i64 (m)) ∧ w.cell? ⟨b1, 5, none⟩ = some (.int .i64 (q))))
    (kc7 : Hid (∀ w : World, P1 w → Calls Try.prog f #[.pointer (some ⟨bq, 0, none⟩), .pointer (some ⟨bs, 0, none⟩), .agg #[.int .i64 (k), .slice a n c, .int .i64 (t), .int .i64 (v), .int .i64 (m), .int .i64 (q)]] w R))
    (hE : Hid (∀ (e : Ending) (w' : World), R e w' → (e = .returned (.tuple #[]) ∧ P2 w') ∨ e = .panicked PL ∧ PP w'))
    {s1 s2 s3 s4 s7 s8 s9 s10 s11 s12 s13 s14 s15 s16 s17 s18 s19 s20 s21 s22 s23 s24 s25 s26 s27 : Value} {dd : List Deferred}
    (hP : Hid (∀ (x19 x20 x21 x22 x23 x24 x25 x26 : Value) (w' : World), PP w' → Q (.panic PL) { tmps := #[.pointer (some ⟨bq, 0, none⟩),s1,s2,s3,s4,.pointer (some ⟨b1, 0, none⟩),.pointer (some ⟨bs, 0, none⟩),s7,s8,s9,s10,s11,s12,s13,s14,s15,s16,s17,s18,x19,x20,x21,x22,x23,x24,x25,x26,s27],defers := dd } w'))
    (hQ : ∀ w' : World, P2 w' → Q .normal { tmps := #[.pointer (some ⟨bq, 0, none⟩),s1,s2,s3,s4,.pointer (some ⟨b1, 0, none⟩),.pointer (some ⟨bs, 0, none⟩),s7,s8,s9,s10,s11,s12,s13,s14,s15,s16,s17,s18,.map (some N),.pointer (some ⟨b1, 0, none⟩),.int .i64 (k),.agg #[.func (.func f0) #[] #[], .func (.func f) #[] #[]],.func (.func f) #[] #[],.pointer (some ⟨bq, 0, none⟩),.agg #[.int .i64 (k), .slice a n c, .int .i64 (t), .int .i64 (v), .int .i64 (m), .int .i64 (q)],.tuple #[],s27],defers := dd } w') :
    Code.wpIn (wideAt none) 0 Try.prog don5C Q { tmps := #[.pointer (some ⟨bq, 0, none⟩),s1,s2,s3,s4,.pointer (some ⟨b1, 0, none⟩),.pointer (some ⟨bs, 0, none⟩),s7,s8,s9,s10,s11,s12,s13,s14,s15,s16,s17,s18,s19,s20,s21,s22,s23,s24,s25,s26,s27],defers := dd } W1 := by
  have HQ := Lib.hid hQ
  clear hQ
  conv => arg 4; whnf
  refine wpIn_region_invG mixed (by kernel_rfl) (fun d_ a_ w' => a_ = { tmps := #[.pointer (some ⟨bq, 0, none⟩),s1,s2,s3,s4,.pointer (some ⟨b1, 0, none⟩),.pointer (some ⟨bs, 0, none⟩),s7,s8,s9,s10,s11,s12,s13,s14,s15,s16,s17,s18,pk (d_ 0) (.map (some N)) s19,pk (d_ 1) (.pointer (some ⟨b1, 0, none⟩)) s20,pk (d_ 2) (.int .i64 (k)) s21,pk (d_ 3) (.agg #[.func (.func f0) #[] #[], .func (.func f) #[] #[]]) s22,pk (d_ 4) (.func (.func f) #[] #[]) s23,pk (d_ 5) (.pointer (some ⟨bq, 0, none⟩)) s24,pk (d_ 6) (.agg #[.int .i64 (k), .slice a n c, .int .i64 (t), .int .i64 (v), .int .i64 (m), .int .i64 (q)]) s25,pk (d_ 7) (.tuple #[]) s26,s27],defers := dd } ∧ ch2 P0 P1 P2 (d_ 0) (d_ 7) w' ∧ OrdP [[], [], [1], [0, 2], [3], [], [], [0, 4, 5, 6]] d_) ?_ ?_ ?_
  · exact ⟨rfl, h0, fun k h => by cases h⟩
  · refine ⟨?_,?_,?_,?_,?_,?_,?_,?_, trivial⟩
    all_goals
      rintro d_ a_ w1 K hd_ hdep ⟨rfl, F, O⟩ HK
      simp [Region.binds] at hdep
    · have HO : Hid (OrdP [[], [], [1], [0, 2], [3], [], [], [0, 4, 5, 6]] (upd d_ 0)) := O.step (show ∀ e ∈ ([] : List Nat), d_ e = true by simp [hdep])
      clear O
      obtain ⟨hP, hN⟩ := ch2_s1 F hd_
      have hc := kc0.out w1 hP
      have HN := Lib.hid hN
      clear F hP hN hdep
      go_simp
      refine ⟨trivial, rfl, wideAt_calls (hc.mono ?_)⟩
      rintro e w5 ⟨rfl, hR⟩
      have HG := HN.out w5 hR
      refine HK.out _ _ ⟨?_, HG, HO.out⟩
      all_goals rfl
    · have HO : Hid (OrdP [[], [], [1], [0, 2], [3], [], [], [0, 4, 5, 6]] (upd d_ 1)) := O.step (show ∀ e ∈ ([] : List Nat), d_ e = true by simp [hdep])
      clear O
      have HF := Lib.hid F
      clear F hdep
      go_simp
      refine HK.out _ _ ⟨?_, HF.out, HO.out⟩
      all_goals rfl
    · have HO : Hid (OrdP [[], [], [1], [0, 2], [3], [], [], [0, 4, 5, 6]] (upd d_ 2)) := O.step (show ∀ e ∈ ([1] : List Nat), d_ e = true by simp [hdep])
      have q1 : d_ 1 = true := by simp [hdep]
      have F2 := F
      have n_ : d_ 7 = false := by
        cases e_ : d_ 7 with
        | false => rfl
        | true => have h2 := (O 3 (O 4 (O 7 e_ 4 (by decide)) 3 (by decide)) 2 (by decide)); rw [show d_ 2 = false from hd_] at h2; cases h2
      rw [n_] at F2
      have kk := kl2.out w1 (by
        have h3 := ch2_or F2
        cases e0_ : d_ 0 <;> simp_all [ch2])
      clear F2
      clear n_
      clear O
      rw [pk_of q1]
      have HF := Lib.hid F
      clear F hdep
      go_simp
      refine HK.out _ _ ⟨?_, HF.out, HO.out⟩
      rw [pk_of (show upd d_ 2 1 = true from q1)]
      all_goals rfl
    · have HO : Hid (OrdP [[], [], [1], [0, 2], [3], [], [], [0, 4, 5, 6]] (upd d_ 3)) := O.step (show ∀ e ∈ ([0, 2] : List Nat), d_ e = true by simp [hdep])
      have q0 : d_ 0 = true := by simp [hdep]
      have q2 : d_ 2 = true := by simp [hdep]
      have F2 := F
      have n_ : d_ 7 = false := by
        cases e_ : d_ 7 with
        | false => rfl
        | true => have h2 := (O 4 (O 7 e_ 4 (by decide)) 3 (by decide)); rw [show d_ 3 = false from hd_] at h2; cases h2
      rw [n_] at F2
      have kk := kl3.out w1 (by
        have h3 := ch2_or F2
        cases e0_ : d_ 0 <;> simp_all [ch2])
      clear F2
      clear n_
      clear O
      rw [pk_of q0, pk_of q2]
      have HF := Lib.hid F
      clear F hdep
      go_simp
      refine HK.out _ _ ⟨?_, HF.out, HO.out⟩
      rw [pk_of (show upd d_ 3 0 = true from q0), pk_of (show upd d_ 3 2 = true from q2)]
      all_goals rfl
    · have HO : Hid (OrdP [[], [], [1], [0, 2], [3], [], [], [0, 4, 5, 6]] (upd d_ 4)) := O.step (show ∀ e ∈ ([3] : List Nat), d_ e = true by simp [hdep])
      have q3 : d_ 3 = true := by simp [hdep]
      clear O
      have r4 := hfd.out
      rw [pk_of q3]
      have HF := Lib.hid F
      clear F hdep
      go_simp
      refine HK.out _ _ ⟨?_, HF.out, HO.out⟩
      rw [pk_of (show upd d_ 4 3 = true from q3)]
      all_goals rfl
    · have HO : Hid (OrdP [[], [], [1], [0, 2], [3], [], [], [0, 4, 5, 6]] (upd d_ 5)) := O.step (show ∀ e ∈ ([] : List Nat), d_ e = true by simp [hdep])
      clear O
      have HF := Lib.hid F
      clear F hdep
      go_simp
      refine HK.out _ _ ⟨?_, HF.out, HO.out⟩
      all_goals rfl
    · have HO : Hid (OrdP [[], [], [1], [0, 2], [3], [], [], [0, 4, 5, 6]] (upd d_ 6)) := O.step (show ∀ e ∈ ([] : List Nat), d_ e = true by simp [hdep])
      have F2 := F
      have n_ : d_ 7 = false := by
        cases e_ : d_ 7 with
        | false => rfl
        | true => have h2 := (O 7 e_ 6 (by decide)); rw [show d_ 6 = false from hd_] at h2; cases h2
      rw [n_] at F2
      have kk := kl6.out w1 (by
        have h3 := ch2_or F2
        cases e0_ : d_ 0 <;> simp_all [ch2])
      clear F2
      clear n_
      obtain ⟨kk0, kk1, kk2, kk3, kk4, kk5⟩ := kk
      clear O
      have HF := Lib.hid F
      clear F hdep
      go_simp
      refine HK.out _ _ ⟨?_, HF.out, HO.out⟩
      all_goals rfl
    · have HO : Hid (OrdP [[], [], [1], [0, 2], [3], [], [], [0, 4, 5, 6]] (upd d_ 7)) := O.step (show ∀ e ∈ ([0, 4, 5, 6] : List Nat), d_ e = true by simp [hdep])
      have q4 : d_ 4 = true := by simp [hdep]
      have q5 : d_ 5 = true := by simp [hdep]
      have q6 : d_ 6 = true := by simp [hdep]
      clear O
      rw [pk_of q4, pk_of q5, pk_of q6]
      obtain ⟨hP, hN⟩ := ch2_s2 F (show d_ 0 = true by simp [hdep]) hd_
      have hc := kc7.out w1 hP
      have HN := Lib.hid hN
      clear F hP hN hdep
      have hen2 := hen.out
      go_simp
      refine ⟨trivial, rfl, wideAt_calls (hc.mono ?_)⟩
      rintro e w5 hR
      rcases hE.out e w5 hR with ⟨rfl, hR2⟩ | ⟨rfl, hR2⟩
      · have HG := HN.out w5 hR2
        refine HK.out _ _ ⟨?_, HG, HO.out⟩
        rw [pk_of (show upd d_ 7 4 = true from q4), pk_of (show upd d_ 7 5 = true from q5), pk_of (show upd d_ 7 6 = true from q6)]
        all_goals rfl
      · exact hP.out _ _ _ _ _ _ _ _ w5 hR2
  · rintro d_ a_ w1 hall ⟨rfl, F, O⟩
    have hall' : ∀ k, k < 8 → d_ k = true := hall
    rw [hall' 0 (by decide), hall' 7 (by decide)] at F
    have HF := Lib.hid F
    clear F
    rw [pk_of (hall' 0 (by decide)), pk_of (hall' 1 (by decide)), pk_of (hall' 2 (by decide)), pk_of (hall' 3 (by decide)), pk_of (hall' 4 (by decide)), pk_of (hall' 5 (by decide)), pk_of (hall' 6 (by decide)), pk_of (hall' 7 (by decide))]
    exact HQ.out w1 HF.out
end Go.Proofs.Ytjkhclijmcmdjaa
namespace Go.Proofs.Ytjkhclijmcmdjaa
open Go.RowKit
set_option linter.unusedVariables false
set_option linter.unusedSimpArgs false
theorem spV_any : ∀ {l : List Spn} {j : Nat} {v : Value}, (spV l)[j]? = some v → ∃ i, i < l.length ∧ ((j = i * 2 ∧ v = .int .i64 (gs l i).lo) ∨ (j = i * 2 + 1 ∧ v = .int .i64 (gs l i).hi)) := by
  intro l j v h
  have hj : j < (spV l).length := by
    rcases Nat.lt_or_ge j (spV l).length with h2 | h2
    · exact h2
    · rw [List.getElem?_eq_none h2] at h; cases h
  rw [spV_len] at hj
  have hi : j / 2 < l.length := by omega
  obtain ⟨a, b⟩ := spV_at hi
  refine ⟨j / 2, hi, ?_⟩
  rcases Nat.mod_two_eq_zero_or_one j with h2 | h2
  · have e : j / 2 * 2 = j := by omega
    rw [e, h] at a; cases a; exact Or.inl ⟨by omega, rfl⟩
  · have e : j / 2 * 2 + 1 = j := by omega
    rw [e, h] at b; cases b; exact Or.inr ⟨by omega, rfl⟩
theorem spV_one {l : List Spn} : ∀ v ∈ spV l, v.oneCell' = true := by
  intro v hv
  simp only [spV, List.mem_flatMap, List.mem_cons, List.not_mem_nil, or_false] at hv
  obtain ⟨s, _, rfl | rfl⟩ := hv <;> rfl
theorem run_copy_spn {w : World} {g c cap : Nat} {cur : Array Value} {a : Option Addr} {l : List Spn} {ty : TypeId} (hg : w.heap[g]? = some (.cells cur 23 (0, 0))) (hc : cur.size = l.length * 2) (ha : IsSpns w a l) (h0 : 0 < l.length) :
    (Builtin.copy_ #[33, 33] ty #[.slice (some ⟨g, 0, none⟩) l.length c, .slice a l.length cap]).run Try.prog w = .ok (goInt l.length) (w.setRow g (spV l).toArray) := by
  obtain ⟨b, off, rfl, _, _⟩ := ha 0 h0
  have hl := run_loadCells_list (P := Try.prog) w ⟨b, off, none⟩ (spV l) (by
    intro j v hv
    have e : (⟨b, off, none⟩ : Addr).add j = ⟨b, off + j, none⟩ := by unfold Addr.add; split <;> simp_all
    rw [e]
    obtain ⟨i, hi, h | h⟩ := spV_any hv
    · obtain ⟨b', off', he, h1, h2⟩ := ha i hi
      cases he
      rw [h.1, h.2]; exact h1
    · obtain ⟨b', off', he, h1, h2⟩ := ha i hi
      cases he
      rw [h.1, h.2, ← Nat.add_assoc]; exact h2)
  have hst := run_storeCells_at Try.prog g 0 23 (spV l) 0 cur w hg (by simp [spV_len, hc]) spV_one
  have hd : cur.toList.drop (0 + 0 + (spV l).length) = [] := List.drop_eq_nil_of_le (by simp [spV_len, hc])
  rw [hd] at hst
  obtain ⟨i, hi, h1, h2, h3⟩ := info_parts2 infoS
  have hn : l.length * 2 = (spV l).length := (spV_len l).symm
  simp at hst
  simp [Builtin.copy_, run_underlying Try.underlying33, Builtin.lenOf, Builtin.firstCells, sizeOf, typeInfo, hi, h2, hn, hl, hst]
theorem alloc4 (w : World) (c d e f : Array Value) (s t u v : TypeId) : ∀ w', w' = (((w.alloc (.cells c s)).alloc (.cells d t)).alloc (.cells e u)).alloc (.cells f v) →
    w'.heap[w.heap.size]? = some (.cells c s (0, 0)) ∧ w'.heap[w.heap.size + 1]? = some (.cells d t (0, 0)) ∧ w'.heap[w.heap.size + 2]? = some (.cells e u (0, 0)) ∧ w'.heap[w.heap.size + 3]? = some (.cells f v (0, 0)) ∧ Below w.heap.size w w' := by
  obtain ⟨h1, h2, h3, h4⟩ := alloc3 w c d e s t u
  rintro w' rfl
  have hb : Below (((w.alloc (.cells c s)).alloc (.cells d t)).alloc (.cells e u)).heap.size (((w.alloc (.cells c s)).alloc (.cells d t)).alloc (.cells e u)) ((((w.alloc (.cells c s)).alloc (.cells d t)).alloc (.cells e u)).alloc (.cells f v)) := (Below.refl _ _).alloc (Nat.le_refl _) _
  refine ⟨(hb.block _ (heap_lt h1)).trans h1, (hb.block _ (heap_lt h2)).trans h2, (hb.block _ (heap_lt h3)).trans h3, ?_, h4.trans (hb.mono h4.size)⟩
  have := World.alloc_heap_new (((w.alloc (.cells c s)).alloc (.cells d t)).alloc (.cells e u)) (.cells f v)
  rw [World.size_alloc, World.size_alloc, World.size_alloc] at this
  exact this
theorem cf104 (args : Array Value) (w : World) : (callFunc 104 args).run Try.prog w = .ok (.enter 104 args) w := by simp [callFunc, Try.func104, Try.f104, go_sem]
theorem cf106 (args : Array Value) (w : World) : (callFunc 106 args).run Try.prog w = .ok (.enter 106 args) w := by simp [callFunc, Try.func106, Try.f106, go_sem]
theorem cf108 (args : Array Value) (w : World) : (callFunc 108 args).run Try.prog w = .ok (.enter 108 args) w := by simp [callFunc, Try.func108, Try.f108, go_sem]
theorem DealE.base {A W : World} {B bs g be : Nat} {o : Option Shf} {e : Ending} {w' : World} (hb : Below B A W) (h : DealE W B bs g be o e w') : DealE A B bs g be o e w' := by
  cases o with
  | some t => exact And.intro h.1 (And.intro h.2.1 (hb.trans h.2.2))
  | none => exact And.intro h.1 (And.intro h.2.1 (hb.trans h.2.2))
theorem kind_one {p : Prs} {d : Dl} (h : dealOk p d = true) : d.kind = 0 ∨ d.kind = 1 ∨ d.kind = 2 := by
  unfold dealOk at h
  by_cases h0 : d.kind = 0
  · exact Or.inl h0
  · by_cases h1 : d.kind = 1
    · exact Or.inr (Or.inl h1)
    · by_cases h2 : d.kind = 2
      · exact Or.inr (Or.inr h2)
      · rw [if_neg h0, if_neg h1, if_neg h2] at h; cases h
theorem deal_call {p : Prs} {A : PrsA} {d : Dl} {s : Shf} {a : Option Addr} {c bq bs g be : Nat} {W : World} (hP : IsPress W p A bq) (hV : p.valid = true) (hf : IsInts W a d.forme.slots) (hd : dealOk p d = true) (hn : s.cards.length = p.wanted.length) (hS : SBd s 4611686018427387904) (hB : W.heap.size ≤ bs) (hG : W.heap.size ≤ g) :
    ∃ f0 f, kindOf d.kind = some (f0, f) ∧ (∀ (args : Array Value) (w : World), (callFunc f args).run Try.prog w = .ok (.enter f args) w) ∧
      ∀ v, ShM v bs g be s → Below W.heap.size W v → Calls Try.prog f #[.pointer (some ⟨bq, 0, none⟩), .pointer (some ⟨bs, 0, none⟩), d.v a c] v (DealE W W.heap.size bs g be (p.deal s d)) := by
  rcases kind_one hd with h | h | h
  · exact ⟨103, 104, by rw [h]; rfl, cf104, fun v hv hb => (buy104 hv hB h hd hS).mono fun e w' he => he.base hb⟩
  · exact ⟨105, 106, by rw [h]; rfl, cf106, fun v hv hb => print106 hb hv hB hG hP hV hf h hd hn hS⟩
  · exact ⟨107, 108, by rw [h]; rfl, cf108, fun v hv hb => (sell108 hv hB hG (by omega) (by omega) hd hn (by have := wanted_of hV; omega) hS).mono fun e w' he => he.base hb⟩
theorem field129 (x y : Value) (w : World) : (Instr.field 129 (.agg #[x, y]) 1).run Try.prog w = .ok y w := by
  simp [Instr.field, Try.underlying129, go_sem]
  try rfl
theorem res48 {fn : Func} {u v : Tmp} (h : fn.results = #[.cell u 48, .cell v 34]) (tmps : Array Value) {w : World} {b be : Nat} {x y z e : Value} (hp : tmps.getD u undef = .pointer (some ⟨b, 0, none⟩)) (hq : tmps.getD v undef = .pointer (some ⟨be, 0, none⟩))
    (hx : w.cell? ⟨b, 0, none⟩ = some x) (hy : w.cell? ⟨b, 1, none⟩ = some y) (hz : w.cell? ⟨b, 2, none⟩ = some z) (he : w.cell? ⟨be, 0, none⟩ = some e) :
    (results fn tmps).run Try.prog w = .ok (.tuple #[.agg #[x, y, z], e]) w := by
  have hp' : tmps[u]?.getD undef = .pointer (some ⟨b, 0, none⟩) := by simpa using hp
  have hq' : tmps[v]?.getD undef = .pointer (some ⟨be, 0, none⟩) := by simpa using hq
  simp [results, h, hp', hq', hx, hy, hz, he, go_sem]
theorem ShM.cards {w : World} {bs g be : Nat} {s : Shf} (h : ShM w bs g be s) : ShM (w.setCell ⟨bs, 2, none⟩ (.slice (some ⟨g, 0, none⟩) s.cards.length s.cards.length)) bs g be s :=
  ⟨by simpa using heap_setCell_at (k := 2) h.h (.slice (some ⟨g, 0, none⟩) s.cards.length s.cards.length), (Below.heap_setCell _ _ _ _ (Ne.symm h.ne)).trans h.k, (Below.heap_setCell _ _ _ _ h.nb).trans h.e⟩
theorem ShM.err {w : World} {bs g be : Nat} {s : Shf} (h : ShM w bs g be s) : ShM (w.setCell ⟨be, 0, none⟩ (.int .i64 0)) bs g be s :=
  ⟨(Below.heap_setCell _ _ _ _ (Ne.symm h.nb)).trans h.h, (Below.heap_setCell _ _ _ _ (Ne.symm h.ng)).trans h.k, by simpa using heap_setCell_at (k := 0) h.e (.int .i64 0)⟩
theorem ShM.spns {w : World} {bs g be : Nat} {s : Shf} (h : ShM w bs g be s) : IsSpns w (some ⟨g, 0, none⟩) s.cards := fun i hi => ⟨g, 0, rfl, by rw [Nat.zero_add]; exact h.clo hi, by rw [Nat.zero_add]; exact h.chi hi⟩
theorem setRow_below {B : Nat} {A w : World} {g : Nat} (h : Below B A w) (hg : B ≤ g) (cs : Array Value) : Below B A (w.setRow g cs) :=
  ⟨h.os, h.tape, h.output, by have := h.size; simpa [World.setRow] using this, fun k hk => (setRow_other w g k cs (by omega)).trans (h.block k hk)⟩
/-- How a deal that is done is answered. -/
def DoneE (B : Nat) : Option Shf → Ending → World → Prop
  | some t, e, w' => ∃ g, B ≤ g ∧ e = .returned (.tuple #[.agg #[.int .i64 t.paper, .int .i64 t.money, .slice (some ⟨g, 0, none⟩) t.cards.length t.cards.length], .int .i64 0]) ∧ IsSpns w' (some ⟨g, 0, none⟩) t.cards
  | none, e, w' => ∃ (s' : Shf) (g : Nat), e = .returned (.tuple #[.agg #[.int .i64 s'.paper, .int .i64 s'.money, .slice (some ⟨g, 0, none⟩) s'.cards.length s'.cards.length], .int .i64 10])
end Go.Proofs.Ytjkhclijmcmdjaa
namespace Go.Proofs.Ytjkhclijmcmdjaa
open Go.RowKit
set_option linter.unusedVariables false
set_option linter.unusedSimpArgs false
set_option maxRecDepth 100000 in
set_option maxHeartbeats 4000000 in
theorem done62 {p : Prs} {A : PrsA} {s : Shf} {d : Dl} {sa a : Option Addr} {cs c bq : Nat} {w : World} (hP : IsPress w p A bq) (hV : p.valid = true) (hs : IsSpns w sa s.cards) (hf : IsInts w a d.forme.slots) (hl : d.forme.slots.length ≤ 1000)
    (hd : dealOk p d = true) (hn : s.cards.length = p.wanted.length) (hS : SBd s 4611686018427387904) :
    Calls Try.prog 62 #[.pointer (some ⟨bq, 0, none⟩), .agg #[.int .i64 s.paper, .int .i64 s.money, .slice sa s.cards.length cs], d.v a c] w fun e w' => DoneE w.heap.size (p.deal s d) e w' ∧ Below w.heap.size w w' := by
  have hX := alloc4 w #[.int .i64 s.paper, .int .i64 s.money, .slice sa s.cards.length cs] (d.arr a c) #[.int .i64 0, .int .i64 0, .slice none 0 0] #[.int .i64 0] 48 62 48 34 _ rfl
  have HX := Lib.hid hX
  have HM : Hid (∀ w', Below w.heap.size w w' → IsPress w' p A bq ∧ IsSpns w' sa s.cards ∧ IsInts w' a d.forme.slots) := fun w' hb => ⟨hP.mono hb, hs.mono hb, hf.mono hb⟩
  have HDC : Hid (∀ g, w.heap.size ≤ g → ∃ f0 f, kindOf d.kind = some (f0, f) ∧ (∀ (args : Array Value) (w : World), (callFunc f args).run Try.prog w = .ok (.enter f args) w) ∧
      ∀ v, ShM v (w.heap.size + 2) g (w.heap.size + 3) s → Below w.heap.size w v → Calls Try.prog f #[.pointer (some ⟨bq, 0, none⟩), .pointer (some ⟨w.heap.size + 2, 0, none⟩), d.v a c] v (DealE w w.heap.size (w.heap.size + 2) g (w.heap.size + 3) (p.deal s d))) :=
    fun g hg => deal_call (bs := w.heap.size + 2) (be := w.heap.size + 3) hP hV hf hd hn hS (by omega) hg
  have HS := Lib.hid (And.intro hV (And.intro hd (And.intro hn hS)))
  have hw4 : 1 ≤ s.cards.length ∧ s.cards.length ≤ 4 := by rw [hn]; exact wanted_of hV
  clear hX hP hs hf hV hd hS hn
  refine calls_of_wp_x Try.func62 rfl ?_
  simp only [Try.ntmps62, List.size_toArray, List.length_cons, List.length_nil, Nat.reduceAdd, Nat.reduceSub, Array.replicate_succ, Array.replicate_zero, List.push_toArray, List.append_toArray, List.nil_append, List.cons_append]
  conv => arg 2; whnf
  refine wp_seq_hid ?_
  intro K0 HK0
  go_wp2_with fail
  refine HK0.out _ _ ?_
  clear HK0 K0
  revert HX HM HDC
  generalize (((w.alloc (.cells #[.int .i64 s.paper, .int .i64 s.money, .slice sa s.cards.length cs] 48)).alloc (.cells (d.arr a c) 62)).alloc (.cells #[.int .i64 0, .int .i64 0, .slice none 0 0] 48)).alloc (.cells #[.int .i64 0] 34) = w1
  generalize hbe : w.heap.size + 3 = be
  generalize hb2 : w.heap.size + 2 = b2
  generalize hb1 : w.heap.size + 1 = b1
  generalize hb0 : w.heap.size = b0
  intro HX HM HDC
  have HBE := Lib.hid (And.intro (show b0 < b1 by omega) (And.intro (show b1 < b2 by omega) (show b2 < be by omega)))
  clear hbe hb0 hb1 hb2
  refine wp_seq_hid ?_
  intro K1 HK1
  go_wp2_with fail
  refine HK1.out _ _ ?_
  clear HK1 K1
  have x0 : w1.cell? ⟨b0, 0, none⟩ = some (.int .i64 s.paper) := by rw [cell_of_heap HX.out.1]; rfl
  have x1 : w1.cell? ⟨b0, 1, none⟩ = some (.int .i64 s.money) := by rw [cell_of_heap HX.out.1]; rfl
  have x2 : w1.cell? ⟨b0, 2, none⟩ = some (.slice sa s.cards.length cs) := by rw [cell_of_heap HX.out.1]; rfl
  have y0 : w1.cell? ⟨b2, 0, none⟩ = some (.int .i64 0) := by rw [cell_of_heap HX.out.2.2.1]; rfl
  have y1 : w1.cell? ⟨b2, 1, none⟩ = some (.int .i64 0) := by rw [cell_of_heap HX.out.2.2.1]; rfl
  have y2 : w1.cell? ⟨b2, 2, none⟩ = some (.slice none 0 0) := by rw [cell_of_heap HX.out.2.2.1]; rfl
  have f0 : w1.frozen? ⟨b2, 0, none⟩ = false := frozen_of_heap HX.out.2.2.1
  have f1 : w1.frozen? ⟨b2, 1, none⟩ = false := frozen_of_heap HX.out.2.2.1
  have f2 : w1.frozen? ⟨b2, 2, none⟩ = false := frozen_of_heap HX.out.2.2.1
  refine wp_seq_hid ?_
  intro K2 HK2
  go_wp2_with fail
  refine HK2.out _ _ ?_
  clear HK2 K2
  have h3 := heap_setCell_at (k := 2) (heap_setCell_at (k := 1) (heap_setCell_at (k := 0) HX.out.2.2.1 (.int .i64 s.paper)) (.int .i64 s.money)) (.slice sa s.cards.length cs)
  have hb : Below b0 w (((w1.setCell ⟨b2, 0, none⟩ (.int .i64 s.paper)).setCell ⟨b2, 1, none⟩ (.int .i64 s.money)).setCell ⟨b2, 2, none⟩ (.slice sa s.cards.length cs)) :=
    ((HX.out.2.2.2.2.setCell (p := ⟨b2, 0, none⟩) (by have := HBE.out; show b0 ≤ b2; omega) _).setCell (p := ⟨b2, 1, none⟩) (by have := HBE.out; show b0 ≤ b2; omega) _).setCell (p := ⟨b2, 2, none⟩) (by have := HBE.out; show b0 ≤ b2; omega) _
  have ho : ∀ k, k ≠ b2 → (((w1.setCell ⟨b2, 0, none⟩ (.int .i64 s.paper)).setCell ⟨b2, 1, none⟩ (.int .i64 s.money)).setCell ⟨b2, 2, none⟩ (.slice sa s.cards.length cs)).heap[k]? = w1.heap[k]? := fun k hk =>
    (Below.heap_setCell _ _ _ _ hk).trans ((Below.heap_setCell _ _ _ _ hk).trans (Below.heap_setCell _ _ _ _ hk))
  have H2 : Hid (_ ∧ _ ∧ _ ∧ _ ∧ _) := And.intro ((ho b0 (by have := HBE.out; omega)).trans HX.out.1) (And.intro ((ho b1 (by have := HBE.out; omega)).trans HX.out.2.1) (And.intro h3 (And.intro ((ho be (by have := HBE.out; omega)).trans HX.out.2.2.2.1) hb)))
  clear h3 hb ho x0 x1 x2 y0 y1 y2 f0 f1 f2 HX
  revert H2
  generalize (((w1.setCell ⟨b2, 0, none⟩ (.int .i64 s.paper)).setCell ⟨b2, 1, none⟩ (.int .i64 s.money)).setCell ⟨b2, 2, none⟩ (.slice sa s.cards.length cs)) = w2
  intro H2
  have x2 : w2.cell? ⟨b0, 2, none⟩ = some (.slice sa s.cards.length cs) := by rw [cell_of_heap H2.out.1]; rfl
  have f2 : w2.frozen? ⟨b2, 2, none⟩ = false := frozen_of_heap H2.out.2.2.1
  have y2 : w2.cell? ⟨b2, 2, none⟩ = some (.slice sa s.cards.length cs) := by rw [cell_of_heap H2.out.2.2.1]; rfl
  have hlt2 := heap_lt H2.out.2.2.1
  have hmk := make33 (n := s.cards.length) (m := s.cards.length) (Nat.le_refl _) (by omega) w2
  refine wp_seq_hid ?_
  intro K3 HK3
  go_wp2_with fail
  refine HK3.out _ _ ?_
  clear HK3 K3 x2 f2 y2 hmk
  have hs2 : (w2.setCell ⟨b2, 2, none⟩ (.slice (some ⟨w2.heap.size, 0, none⟩) s.cards.length s.cards.length)).heap.size = w2.heap.size := by simp
  have q3 := heap_setCell_at (k := 2) H2.out.2.2.1 (.slice (some ⟨w2.heap.size, 0, none⟩) s.cards.length s.cards.length)
  have hb3 : Below b0 w (w2.setCell ⟨b2, 2, none⟩ (.slice (some ⟨w2.heap.size, 0, none⟩) s.cards.length s.cards.length)) := H2.out.2.2.2.2.setCell (p := ⟨b2, 2, none⟩) (by have := HBE.out; show b0 ≤ b2; omega) _
  have ho : ∀ k, k ≠ b2 → (w2.setCell ⟨b2, 2, none⟩ (.slice (some ⟨w2.heap.size, 0, none⟩) s.cards.length s.cards.length)).heap[k]? = w2.heap[k]? := fun k hk => Below.heap_setCell _ _ _ _ hk
  have p0 := (ho b0 (by have := HBE.out; omega)).trans H2.out.1
  have p1 := (ho b1 (by have := HBE.out; omega)).trans H2.out.2.1
  have pe := (ho be (by have := HBE.out; omega)).trans H2.out.2.2.2.1
  clear ho
  revert hs2 q3 hb3 p0 p1 pe
  generalize w2.setCell ⟨b2, 2, none⟩ (.slice (some ⟨w2.heap.size, 0, none⟩) s.cards.length s.cards.length) = w3
  generalize hg : w2.heap.size = g
  intro hs2 q3 hb3 p0 p1 pe
  have HG : Hid (b2 < g) := by show b2 < g; omega
  have hb4 : Below w3.heap.size w3 (w3.alloc (.cells (madeCells #[.int .i64 0, .int .i64 0] (s.cards.length * 2)) 23)) := (Below.refl _ _).alloc (Nat.le_refl _) _
  have q4 := World.alloc_heap_new w3 (.cells (madeCells #[.int .i64 0, .int .i64 0] (s.cards.length * 2)) 23)
  rw [hs2] at q4
  have H4 := Lib.hid (And.intro ((hb4.block _ (heap_lt p0)).trans p0) (And.intro ((hb4.block _ (heap_lt p1)).trans p1) (And.intro ((hb4.block _ (heap_lt q3)).trans q3) (And.intro ((hb4.block _ (heap_lt pe)).trans pe) (And.intro q4 (hb3.trans (hb4.mono (by have := heap_lt q3; have := HBE.out; omega))))))))
  clear hs2 q3 hb3 p0 p1 pe hb4 q4 H2 hlt2 hg
  revert H4
  generalize w3.alloc (.cells (madeCells #[.int .i64 0, .int .i64 0] (s.cards.length * 2)) 23) = w4
  intro H4
  have x2 : w4.cell? ⟨b0, 2, none⟩ = some (.slice sa s.cards.length cs) := by rw [cell_of_heap H4.out.1]; rfl
  have y2 : w4.cell? ⟨b2, 2, none⟩ = some (.slice (some ⟨g, 0, none⟩) s.cards.length s.cards.length) := by rw [cell_of_heap H4.out.2.2.1]; rfl
  have hcp := run_copy_spn (ty := 3) (c := s.cards.length) (cap := cs) H4.out.2.2.2.2.1 (by simp [madeCells]) (HM.out w4 H4.out.2.2.2.2.2).2.1 (by omega)
  have H5 : Hid (ShM (w4.setRow g (spV s.cards).toArray) b2 g be s ∧ (w4.setRow g (spV s.cards).toArray).heap[b1]? = some (.cells (d.arr a c) 62 (0, 0)) ∧ Below b0 w (w4.setRow g (spV s.cards).toArray)) :=
    ⟨⟨(setRow_other _ _ _ _ (by have := HG.out; omega)).trans H4.out.2.2.1, setRow_heap _ _ _ _ _ _ H4.out.2.2.2.2.1, (setRow_other _ _ _ _ (fun e => by have h1 := H4.out.2.2.2.1; rw [e, H4.out.2.2.2.2.1] at h1; simp at h1)).trans H4.out.2.2.2.1⟩,
      (setRow_other _ _ _ _ (by have := HG.out; have := HBE.out; omega)).trans H4.out.2.1, setRow_below H4.out.2.2.2.2.2 (by have := HG.out; have := HBE.out; omega) _⟩
  refine wp_seq_hid ?_
  intro K4 HK4
  go_wp2_with fail
  refine HK4.out _ _ ?_
  clear HK4 K4 x2 y2 hcp H4
  obtain ⟨ff0, f, hkk, hen, hcall⟩ := HDC.out g (by have := HG.out; have := HBE.out; omega)
  have HCALL := Lib.hid hcall
  have HEN := Lib.hid hen
  have HKK := Lib.hid hkk
  clear hcall hen hkk HDC
  revert H5
  generalize w4.setRow g (spV s.cards).toArray = w5
  intro H5
  refine wp_seq_hid ?_
  intro K5 HK5
  refine wpIn_wide.1 (don5 (bq := bq) (b1 := b1) (bs := b2) (N := w5.heap.size) (f0 := ff0) (f := f) (n := d.forme.slots.length) (c := c) (a := a) (k := d.kind) (t := d.forme.times) (v := d.view) (m := d.many) (q := d.pence)
    (R := DealE w b0 b2 g be (p.deal s d)) (PL := [{ v := .iface 103 (.agg #[.int .i64 10]), recovered := false }])
    (PP := fun v => p.deal s d = none ∧ (∃ s', ShM v b2 g be s') ∧ Below b0 w v)
    (P0 := fun v => v.heap.size = w5.heap.size ∧ DlX w b0 b2 g be b1 d a c s v)
    (P1 := fun v => v.heap[w5.heap.size]? = some kindM ∧ DlX w b0 b2 g be b1 d a c s v)
    (P2 := fun v => ∃ t, p.deal s d = some t ∧ ShM v b2 g be t ∧ Below b0 w v)
    (Lib.hid fun w => field129 _ _ w) (Lib.hid HEN.out) ?h0 ?c0 ?l2 ?l3 ?l6 ?c7 ?hE ?hP ?hQ)
  case h0 => exact ⟨rfl, DlX.mono ⟨H5.out.1, H5.out.2.1, H5.out.2.2⟩ (by have := heap_lt H5.out.1.h; have := HBE.out; omega) (Below.refl _ _).drew⟩
  case c0 =>
    intro v hv
    have hc := kinds89N v
    rw [hv.1] at hc
    exact hc.mono fun e w' ⟨he, hk, hb⟩ => ⟨he, hk, hv.2.mono (by have := heap_lt hv.2.sh.h; have := HBE.out; omega) (by rw [hv.1]; exact hb)⟩
  case l2 => rintro v (h | h) <;> exact (dl_cells h.2.bd).c0
  case l3 =>
    intro v h
    have := run_lookup h.1 d.kind false
    rw [HKK.out] at this
    exact this
  case l6 => rintro v (h | h) <;> exact ⟨(dl_cells h.2.bd).c0, (dl_cells h.2.bd).c1, (dl_cells h.2.bd).c2, (dl_cells h.2.bd).c3, (dl_cells h.2.bd).c4, (dl_cells h.2.bd).c5⟩
  case c7 => exact fun v h => HCALL.out v h.2.sh h.2.le
  case hE =>
    intro e w' h
    cases hdl : p.deal s d with
    | some t => rw [hdl] at h; exact Or.inl ⟨h.1, t, rfl, h.2.1, h.2.2⟩
    | none => rw [hdl] at h; exact Or.inr ⟨h.1, rfl, h.2.1, h.2.2⟩
  case hP =>
    rintro x19 x20 x21 x22 x23 x24 x25 x26 v ⟨hno, ⟨s', hsh⟩, hb⟩
    have HV := Lib.hid (And.intro hno (And.intro hsh hb))
    clear hno hsh hb
    go_wp2_with fail
    have sh := HV.out.2.1
    have hq : (caughtW v be 10).heap[b2]? = _ := (caught_other (heap_lt sh.h) (Ne.symm sh.nb)).trans sh.h
    refine door_no sh.e (res48 rfl _ rfl rfl (by rw [cell_of_heap hq]; rfl) (by rw [cell_of_heap hq]; rfl) (by rw [cell_of_heap hq]; rfl) (by rw [cell_of_heap (caught_heap sh.e)]; rfl)) ⟨?_, caught_below HV.out.2.2 (by have := HBE.out; omega) (by have := heap_lt sh.h; have := HBE.out; omega)⟩
    rw [HV.out.1]
    exact ⟨_, _, rfl⟩
  rintro v ⟨t, ht, hsh, hb⟩
  have HV := Lib.hid (And.intro ht (And.intro hsh hb))
  clear ht hsh hb
  refine HK5.out _ _ ?_
  clear HK5 K5
  have x0 := HV.out.2.1.c0
  have x1 := HV.out.2.1.c1
  have x2 := HV.out.2.1.c2
  have xe : v.cell? ⟨be, 0, none⟩ = some (.int .i64 0) := by rw [cell_of_heap HV.out.2.1.e]; rfl
  have f0 : v.frozen? ⟨b2, 0, none⟩ = false := frozen_of_heap HV.out.2.1.h
  have f1 : v.frozen? ⟨b2, 1, none⟩ = false := frozen_of_heap HV.out.2.1.h
  have f2 : v.frozen? ⟨b2, 2, none⟩ = false := frozen_of_heap HV.out.2.1.h
  have fe : v.frozen? ⟨be, 0, none⟩ = false := frozen_of_heap HV.out.2.1.e
  have hne : be ≠ b2 := HV.out.2.1.nb
  have hne2 : b2 ≠ be := Ne.symm hne
  go_wp2_with fail
  have S9 : ShM ((((v.setCell ⟨b2, 0, none⟩ (.int .i64 t.paper)).setCell ⟨b2, 1, none⟩ (.int .i64 t.money)).setCell ⟨b2, 2, none⟩ (.slice (some ⟨g, 0, none⟩) t.cards.length t.cards.length)).setCell ⟨be, 0, none⟩ (.int .i64 0)) b2 g be t :=
    (((HV.out.2.1.paper t.paper).money t.money).cards).err
  refine door_ok (res48 rfl _ rfl rfl S9.c0 S9.c1 S9.c2 (by rw [cell_of_heap S9.e]; rfl)) ⟨?_, ?_⟩
  · rw [HV.out.1]
    exact ⟨g, by have := HG.out; have := HBE.out; omega, rfl, S9.spns⟩
  · exact (((HV.out.2.2.setCell (p := ⟨b2, 0, none⟩) (by have := HBE.out; show b0 ≤ b2; omega) _).setCell (p := ⟨b2, 1, none⟩) (by have := HBE.out; show b0 ≤ b2; omega) _).setCell (p := ⟨b2, 2, none⟩) (by have := HBE.out; show b0 ≤ b2; omega) _).setCell (p := ⟨be, 0, none⟩) (by have := HBE.out; show b0 ≤ be; omega) _
end Go.Proofs.Ytjkhclijmcmdjaa
namespace Go.Proofs.Ytjkhclijmcmdjaa
open Go.RowKit
set_option linter.unusedVariables false
set_option linter.unusedSimpArgs false
noncomputable def she1C : Code := (Try.f58.body.bind (regionAt 1)).getD .skip
set_option maxRecDepth 100000 in
set_option maxHeartbeats 8000000 in
theorem she1 {bq b2 N n cw : Nat} {aw : Option Addr} {q m : Int} {P0 P1 P2 : World → Prop} {Q : Exit → Act → World → Prop} {W1 : World}  (h0 : P0 W1.drew)
    (kl4 : Hid (∀ w : World, (P0 w ∨ P1 w ∨ P2 w) → w.cell? ⟨bq, 7, none⟩ = some (.int .i64 (q))))
    (kl9 : Hid (∀ w : World, (P0 w ∨ P1 w ∨ P2 w) → w.cell? ⟨bq, 8, none⟩ = some (.int .i64 (m))))
    (kl14 : Hid (∀ w : World, (P0 w ∨ P1 w ∨ P2 w) → w.cell? ⟨bq, 6, none⟩ = some (.slice aw n cw)))
    (kr16 : Hid (∀ w : World, P0 w → ∃ w', (Instr.makeSlice 33 (.int .i64 (n : Int)) (.int .i64 (n : Int))).run Try.prog w = .ok (.slice (some ⟨N, 0, none⟩) n n) w' ∧ P1 w'))
    (ks18 : Hid (∀ w : World, P1 w → (∃ u, w.cell? ⟨b2, 0, none⟩ = some u) ∧ w.frozen? ⟨b2, 0, none⟩ = false ∧ (∃ u, w.cell? ⟨b2, 1, none⟩ = some u) ∧ w.frozen? ⟨b2, 1, none⟩ = false ∧ (∃ u, w.cell? ⟨b2, 2, none⟩ = some u) ∧ w.frozen? ⟨b2, 2, none⟩ = false ∧ P2 (((w.setCell ⟨b2, 0, none⟩ (.int .i64 (q))).setCell ⟨b2, 1, none⟩ (.int .i64 (m))).setCell ⟨b2, 2, none⟩ (.slice (some ⟨N, 0, none⟩) n n))))
    {s1 s3 s4 s5 s6 s7 s8 s9 s10 s11 s12 s13 s14 s15 s16 s17 s18 s19 s20 : Value} {dd : List Deferred}
    (hQ : ∀ w' : World, P2 w' → Q .normal { tmps := #[.pointer (some ⟨bq, 0, none⟩),s1,.pointer (some ⟨b2, 0, none⟩),.pointer (some ⟨bq, 0, none⟩),.pointer (some ⟨bq, 0, none⟩),.pointer (some ⟨bq, 0, none⟩),.pointer (some ⟨bq, 7, none⟩),.int .i64 (q),.pointer (some ⟨bq, 0, none⟩),.pointer (some ⟨bq, 0, none⟩),.pointer (some ⟨bq, 0, none⟩),.pointer (some ⟨bq, 8, none⟩),.int .i64 (m),.pointer (some ⟨bq, 0, none⟩),.pointer (some ⟨bq, 0, none⟩),.pointer (some ⟨bq, 0, none⟩),.pointer (some ⟨bq, 6, none⟩),.slice aw n cw,.int .i64 (n : Int),.slice (some ⟨N, 0, none⟩) n n,.agg #[.int .i64 (q), .int .i64 (m), .slice (some ⟨N, 0, none⟩) n n]],defers := dd } w') :
    Code.wpIn (wideAt none) 0 Try.prog she1C Q { tmps := #[.pointer (some ⟨bq, 0, none⟩),s1,.pointer (some ⟨b2, 0, none⟩),s3,s4,s5,s6,s7,s8,s9,s10,s11,s12,s13,s14,s15,s16,s17,s18,s19,s20],defers := dd } W1 := by
  have HQ := Lib.hid hQ
  clear hQ
  conv => arg 4; whnf
  refine wpIn_region_invG mixed (by kernel_rfl) (fun d_ a_ w' => a_ = { tmps := #[.pointer (some ⟨bq, 0, none⟩),s1,.pointer (some ⟨b2, 0, none⟩),pk (d_ 0) (.pointer (some ⟨bq, 0, none⟩)) s3,pk (d_ 1) (.pointer (some ⟨bq, 0, none⟩)) s4,pk (d_ 2) (.pointer (some ⟨bq, 0, none⟩)) s5,pk (d_ 3) (.pointer (some ⟨bq, 7, none⟩)) s6,pk (d_ 4) (.int .i64 (q)) s7,pk (d_ 5) (.pointer (some ⟨bq, 0, none⟩)) s8,pk (d_ 6) (.pointer (some ⟨bq, 0, none⟩)) s9,pk (d_ 7) (.pointer (some ⟨bq, 0, none⟩)) s10,pk (d_ 8) (.pointer (some ⟨bq, 8, none⟩)) s11,pk (d_ 9) (.int .i64 (m)) s12,pk (d_ 10) (.pointer (some ⟨bq, 0, none⟩)) s13,pk (d_ 11) (.pointer (some ⟨bq, 0, none⟩)) s14,pk (d_ 12) (.pointer (some ⟨bq, 0, none⟩)) s15,pk (d_ 13) (.pointer (some ⟨bq, 6, none⟩)) s16,pk (d_ 14) (.slice aw n cw) s17,pk (d_ 15) (.int .i64 (n : Int)) s18,pk (d_ 16) (.slice (some ⟨N, 0, none⟩) n n) s19,pk (d_ 17) (.agg #[.int .i64 (q), .int .i64 (m), .slice (some ⟨N, 0, none⟩) n n]) s20],defers := dd } ∧ ch2 P0 P1 P2 (d_ 16) (d_ 18) w') ?_ ?_ ?_
  · exact ⟨rfl, h0⟩
  · refine ⟨?_,?_,?_,?_,?_,?_,?_,?_,?_,?_,?_,?_,?_,?_,?_,?_,?_,?_,?_, trivial⟩
    all_goals
      rintro d_ a_ w1 K hd_ hdep ⟨rfl, F⟩ HK
      simp [Region.binds] at hdep
    · have HF := Lib.hid F
      clear F hdep
      go_simp
      refine HK.out _ _ ⟨?_, HF.out⟩
      all_goals rfl
    · have q0 : d_ 0 = true := by simp [hdep]
      rw [pk_of q0]
      have HF := Lib.hid F
      clear F hdep
      go_simp
      refine HK.out _ _ ⟨?_, HF.out⟩
      rw [pk_of (show upd d_ 1 0 = true from q0)]
      all_goals rfl
    · have q1 : d_ 1 = true := by simp [hdep]
      rw [pk_of q1]
      have HF := Lib.hid F
      clear F hdep
      go_simp
      refine HK.out _ _ ⟨?_, HF.out⟩
      rw [pk_of (show upd d_ 2 1 = true from q1)]
      all_goals rfl
    · have q2 : d_ 2 = true := by simp [hdep]
      rw [pk_of q2]
      have HF := Lib.hid F
      clear F hdep
      go_simp
      refine HK.out _ _ ⟨?_, HF.out⟩
      rw [pk_of (show upd d_ 3 2 = true from q2)]
      all_goals rfl
    · have q3 : d_ 3 = true := by simp [hdep]
      have kk := kl4.out w1 (ch2_or F)
      rw [pk_of q3]
      have HF := Lib.hid F
      clear F hdep
      go_simp
      refine HK.out _ _ ⟨?_, HF.out⟩
      rw [pk_of (show upd d_ 4 3 = true from q3)]
      all_goals rfl
    · have HF := Lib.hid F
      clear F hdep
      go_simp
      refine HK.out _ _ ⟨?_, HF.out⟩
      all_goals rfl
    · have q5 : d_ 5 = true := by simp [hdep]
      rw [pk_of q5]
      have HF := Lib.hid F
      clear F hdep
      go_simp
      refine HK.out _ _ ⟨?_, HF.out⟩
      rw [pk_of (show upd d_ 6 5 = true from q5)]
      all_goals rfl
    · have q6 : d_ 6 = true := by simp [hdep]
      rw [pk_of q6]
      have HF := Lib.hid F
      clear F hdep
      go_simp
      refine HK.out _ _ ⟨?_, HF.out⟩
      rw [pk_of (show upd d_ 7 6 = true from q6)]
      all_goals rfl
    · have q7 : d_ 7 = true := by simp [hdep]
      rw [pk_of q7]
      have HF := Lib.hid F
      clear F hdep
      go_simp
      refine HK.out _ _ ⟨?_, HF.out⟩
      rw [pk_of (show upd d_ 8 7 = true from q7)]
      all_goals rfl
    · have q8 : d_ 8 = true := by simp [hdep]
      have kk := kl9.out w1 (ch2_or F)
      rw [pk_of q8]
      have HF := Lib.hid F
      clear F hdep
      go_simp
      refine HK.out _ _ ⟨?_, HF.out⟩
      rw [pk_of (show upd d_ 9 8 = true from q8)]
      all_goals rfl
    · have HF := Lib.hid F
      clear F hdep
      go_simp
      refine HK.out _ _ ⟨?_, HF.out⟩
      all_goals rfl
    · have q10 : d_ 10 = true := by simp [hdep]
      rw [pk_of q10]
      have HF := Lib.hid F
      clear F hdep
      go_simp
      refine HK.out _ _ ⟨?_, HF.out⟩
      rw [pk_of (show upd d_ 11 10 = true from q10)]
      all_goals rfl
    · have q11 : d_ 11 = true := by simp [hdep]
      rw [pk_of q11]
      have HF := Lib.hid F
      clear F hdep
      go_simp
      refine HK.out _ _ ⟨?_, HF.out⟩
      rw [pk_of (show upd d_ 12 11 = true from q11)]
      all_goals rfl
    · have q12 : d_ 12 = true := by simp [hdep]
      rw [pk_of q12]
      have HF := Lib.hid F
      clear F hdep
      go_simp
      refine HK.out _ _ ⟨?_, HF.out⟩
      rw [pk_of (show upd d_ 13 12 = true from q12)]
      all_goals rfl
    · have q13 : d_ 13 = true := by simp [hdep]
      have kk := kl14.out w1 (ch2_or F)
      rw [pk_of q13]
      have HF := Lib.hid F
      clear F hdep
      go_simp
      refine HK.out _ _ ⟨?_, HF.out⟩
      rw [pk_of (show upd d_ 14 13 = true from q13)]
      all_goals rfl
    · have q14 : d_ 14 = true := by simp [hdep]
      rw [pk_of q14]
      have HF := Lib.hid F
      clear F hdep
      go_simp
      refine HK.out _ _ ⟨?_, HF.out⟩
      rw [pk_of (show upd d_ 15 14 = true from q14)]
      all_goals rfl
    · have q15 : d_ 15 = true := by simp [hdep]
      rw [pk_of q15]
      obtain ⟨hP, hN⟩ := ch2_s1 F hd_
      obtain ⟨w5, kk, hR⟩ := kr16.out w1 hP
      have HF := Lib.hid (hN _ hR)
      clear F hP hR hN hdep
      go_simp
      have HG := HF.out
      refine HK.out _ _ ⟨?_, HG⟩
      rw [pk_of (show upd d_ 16 15 = true from q15)]
      all_goals rfl
    · have q4 : d_ 4 = true := by simp [hdep]
      have q9 : d_ 9 = true := by simp [hdep]
      have q16 : d_ 16 = true := by simp [hdep]
      rw [pk_of q4, pk_of q9, pk_of q16]
      have HF := Lib.hid F
      clear F hdep
      go_simp
      refine HK.out _ _ ⟨?_, HF.out⟩
      rw [pk_of (show upd d_ 17 4 = true from q4), pk_of (show upd d_ 17 9 = true from q9), pk_of (show upd d_ 17 16 = true from q16)]
      all_goals rfl
    · have q17 : d_ 17 = true := by simp [hdep]
      rw [pk_of q17]
      obtain ⟨hP, hN⟩ := ch2_s2 F (show d_ 16 = true by simp [hdep]) hd_
      obtain ⟨⟨u0, c0⟩, z0, ⟨u1, c1⟩, z1, ⟨u2, c2⟩, z2, hR⟩ := ks18.out w1 hP
      have HF := Lib.hid (hN _ hR)
      clear F hP hR hN hdep
      go_simp
      have HG := HF.out
      refine HK.out _ _ ⟨?_, HG⟩
      rw [pk_of (show upd d_ 18 17 = true from q17)]
      all_goals rfl
  · rintro d_ a_ w1 hall ⟨rfl, F⟩
    have hall' : ∀ k, k < 19 → d_ k = true := hall
    rw [hall' 16 (by decide), hall' 18 (by decide)] at F
    have HF := Lib.hid F
    clear F
    rw [pk_of (hall' 0 (by decide)), pk_of (hall' 1 (by decide)), pk_of (hall' 2 (by decide)), pk_of (hall' 3 (by decide)), pk_of (hall' 4 (by decide)), pk_of (hall' 5 (by decide)), pk_of (hall' 6 (by decide)), pk_of (hall' 7 (by decide)), pk_of (hall' 8 (by decide)), pk_of (hall' 9 (by decide)), pk_of (hall' 10 (by decide)), pk_of (hall' 11 (by decide)), pk_of (hall' 12 (by decide)), pk_of (hall' 13 (by decide)), pk_of (hall' 14 (by decide)), pk_of (hall' 15 (by decide)), pk_of (hall' 16 (by decide)), pk_of (hall' 17 (by decide))]
    exact HQ.out w1 HF.out
theorem made_at {k j : Nat} (h : j < k) : (madeCells #[.int .i64 0, .int .i64 0] k)[j]? = some (.int .i64 0) := by
  simp [madeCells, h]
  rcases Nat.mod_two_eq_zero_or_one j with h2 | h2 <;> rw [h2] <;> rfl
theorem made_spns {w : World} {g n : Nat} (h : w.heap[g]? = some (.cells (madeCells #[.int .i64 0, .int .i64 0] (n * 2)) 23 (0, 0))) : IsSpns w (some ⟨g, 0, none⟩) (List.replicate n ⟨0, 0⟩) := by
  intro i hi
  have hi2 : i < n := by simpa using hi
  have e : gs (List.replicate n ⟨0, 0⟩) i = ⟨0, 0⟩ := by rw [gs_get hi]; simp
  refine ⟨g, 0, rfl, ?_, ?_⟩
  · rw [cell_of_heap h, e]; exact made_at (by omega)
  · rw [cell_of_heap h, e]; exact made_at (by omega)
/-- While the shelf is made. -/
structure ShX (W : World) (b2 : Nat) (c : Array Value) (w : World) : Prop where
  h : w.heap[b2]? = some (.cells c 48 (0, 0))
  le : Below W.heap.size W w
theorem res48' {fn : Func} {u : Tmp} (h : fn.results = #[.cell u 48]) (tmps : Array Value) {w : World} {b : Nat} {x y z : Value} (hp : tmps.getD u undef = .pointer (some ⟨b, 0, none⟩))
    (hx : w.cell? ⟨b, 0, none⟩ = some x) (hy : w.cell? ⟨b, 1, none⟩ = some y) (hz : w.cell? ⟨b, 2, none⟩ = some z) :
    (results fn tmps).run Try.prog w = .ok (.agg #[x, y, z]) w := by
  have hp' : tmps[u]?.getD undef = .pointer (some ⟨b, 0, none⟩) := by simpa using hp
  simp [results, h, hp', hx, hy, hz, go_sem]
set_option maxHeartbeats 2000000 in
theorem shelf58 {p : Prs} {A : PrsA} {bq : Nat} {w : World} (hP : IsPress w p A bq) (hw4 : p.wanted.length ≤ 1000) :
    Calls Try.prog 58 #[.pointer (some ⟨bq, 0, none⟩)] w fun e w' => e = .returned (.agg #[.int .i64 p.paper, .int .i64 p.money, .slice (some ⟨w.heap.size + 1, 0, none⟩) p.wanted.length p.wanted.length]) ∧ IsSpns w' (some ⟨w.heap.size + 1, 0, none⟩) (List.replicate p.wanted.length ⟨0, 0⟩) ∧ Below w.heap.size w w' := by
  have hb0 : Below w.heap.size w (w.alloc (.cells #[.int .i64 0, .int .i64 0, .slice none 0 0] 48)) := (Below.refl _ w).alloc (Nat.le_refl _) _
  have q0 := World.alloc_heap_new w (.cells #[.int .i64 0, .int .i64 0, .slice none 0 0] 48)
  have HX : Hid (ShX w w.heap.size #[.int .i64 0, .int .i64 0, .slice none 0 0] (w.alloc (.cells #[.int .i64 0, .int .i64 0, .slice none 0 0] 48))) := ⟨q0, hb0⟩
  have HM : Hid (∀ w', Below w.heap.size w w' → IsPress w' p A bq) := fun w' hb => hP.mono hb
  have hsz : Hid ((w.alloc (.cells #[.int .i64 0, .int .i64 0, .slice none 0 0] 48)).heap.size = w.heap.size + 1) := by show _ = _; simp
  clear hb0 q0 hP
  go_enter Try.func58, Try.ntmps58
  refine wp_seq_hid ?_
  intro K0 HK0
  go_wp2_with fail
  refine HK0.out _ _ ?_
  clear HK0 K0
  revert HX hsz
  generalize w.alloc (.cells #[.int .i64 0, .int .i64 0, .slice none 0 0] 48) = w1
  generalize hb2 : w.heap.size = b2
  intro HX hsz
  have HB := Lib.hid hb2
  clear hb2
  refine wp_seq_hid ?_
  intro K1 HK1
  refine wpIn_wide.1 (she1 (bq := bq) (b2 := b2) (N := w1.heap.size) (n := p.wanted.length) (cw := A.cw) (aw := A.aw) (q := p.paper) (m := p.money)
    (P0 := fun v => v.heap.size = w1.heap.size ∧ ShX w b2 #[.int .i64 0, .int .i64 0, .slice none 0 0] v)
    (P1 := fun v => v.heap[w1.heap.size]? = some (.cells (madeCells #[.int .i64 0, .int .i64 0] (p.wanted.length * 2)) 23 (0, 0)) ∧ ShX w b2 #[.int .i64 0, .int .i64 0, .slice none 0 0] v)
    (P2 := fun v => v.heap[w1.heap.size]? = some (.cells (madeCells #[.int .i64 0, .int .i64 0] (p.wanted.length * 2)) 23 (0, 0)) ∧ ShX w b2 #[.int .i64 p.paper, .int .i64 p.money, .slice (some ⟨w1.heap.size, 0, none⟩) p.wanted.length p.wanted.length] v) ?h0 ?l4 ?l9 ?l14 ?r16 ?s18 ?hQ)
  case h0 => exact ⟨rfl, HX.out.h, HX.out.le.drew⟩
  case l4 => rintro v (h | h | h) <;> exact (HM.out _ h.2.le).c.c7
  case l9 => rintro v (h | h | h) <;> exact (HM.out _ h.2.le).c.c8
  case l14 => rintro v (h | h | h) <;> exact (HM.out _ h.2.le).c.c6
  case r16 =>
    intro v h
    have hm := make33 (n := p.wanted.length) (m := p.wanted.length) (Nat.le_refl _) hw4 v
    rw [h.1] at hm
    have hb : Below v.heap.size v (v.alloc (.cells (madeCells #[.int .i64 0, .int .i64 0] (p.wanted.length * 2)) 23)) := (Below.refl _ _).alloc (Nat.le_refl _) _
    have hq := World.alloc_heap_new v (.cells (madeCells #[.int .i64 0, .int .i64 0] (p.wanted.length * 2)) 23)
    rw [h.1] at hq
    exact ⟨_, hm, hq, (hb.block _ (heap_lt h.2.h)).trans h.2.h, h.2.le.trans (hb.mono h.2.le.size)⟩
  case s18 =>
    intro v h
    have c0 : v.cell? ⟨b2, 0, none⟩ = some (.int .i64 0) := by rw [cell_of_heap h.2.h]; rfl
    have c1 : v.cell? ⟨b2, 1, none⟩ = some (.int .i64 0) := by rw [cell_of_heap h.2.h]; rfl
    have c2 : v.cell? ⟨b2, 2, none⟩ = some (.slice none 0 0) := by rw [cell_of_heap h.2.h]; rfl
    have fz : ∀ k, v.frozen? ⟨b2, k, none⟩ = false := fun k => frozen_of_heap h.2.h
    have h3 := heap_setCell_at (k := 2) (heap_setCell_at (k := 1) (heap_setCell_at (k := 0) h.2.h (.int .i64 p.paper)) (.int .i64 p.money)) (.slice (some ⟨w1.heap.size, 0, none⟩) p.wanted.length p.wanted.length)
    have hne : w1.heap.size ≠ b2 := fun e => by have h1 := h.1; rw [e] at h1; have h2 := h.2.h; rw [h1] at h2; simp at h2
    have hle : w.heap.size ≤ b2 := by rw [HB.out]; exact Nat.le_refl _
    exact ⟨⟨_, c0⟩, fz 0, ⟨_, c1⟩, fz 1, ⟨_, c2⟩, fz 2, (Below.heap_setCell _ _ _ _ hne).trans ((Below.heap_setCell _ _ _ _ hne).trans ((Below.heap_setCell _ _ _ _ hne).trans h.1)), h3,
      ((h.2.le.setCell (p := ⟨b2, 0, none⟩) hle _).setCell (p := ⟨b2, 1, none⟩) hle _).setCell (p := ⟨b2, 2, none⟩) hle _⟩
  intro v hv
  have HV := Lib.hid hv
  clear hv
  refine HK1.out _ _ ?_
  clear HK1 K1
  go_wp2_with fail
  refine bodyPost_ret (v := .agg #[.int .i64 p.paper, .int .i64 p.money, .slice (some ⟨w1.heap.size, 0, none⟩) p.wanted.length p.wanted.length]) (res48' rfl _ rfl (by rw [cell_of_heap HV.out.2.h]; rfl) (by rw [cell_of_heap HV.out.2.h]; rfl) (by rw [cell_of_heap HV.out.2.h]; rfl)) rfl ⟨by rw [hsz.out], by rw [← hsz.out]; exact made_spns HV.out.1, by rw [← HB.out]; exact HV.out.2.le⟩
end Go.Proofs.Ytjkhclijmcmdjaa
namespace Go.Proofs.Ytjkhclijmcmdjaa
open Go.RowKit
set_option linter.unusedVariables false
set_option linter.unusedSimpArgs false
theorem deal_len {p : Prs} {s t : Shf} {d : Dl} (h : p.deal s d = some t) : t.cards.length = s.cards.length := by
  unfold Prs.deal at h
  split at h
  · split at h
    · cases h
    · cases h; rfl
  · split at h
    · split at h
      · cases h
      · cases h; simp
    · split at h
      · cases h
      · cases h; simp
theorem SBd.le {s : Shf} {B C : Int} (h : SBd s B) (hB : B ≤ C) : SBd s C :=
  ⟨by have := h.paper; omega, by have := h.money; omega, fun v hv => by have := h.cards v hv; omega⟩
theorem deal_bd {p : Prs} {s t : Shf} {d : Dl} {B : Int} (hV : p.valid = true) (hd : dealOk p d = true) (hn : s.cards.length = p.wanted.length) (S : SBd s B) (h : p.deal s d = some t) : SBd t (B + 2199023255552) := by
  have hS := S.le (C := B + 2199023255552) (by omega)
  have hp := S.paper
  have hm := S.money
  unfold Prs.deal at h
  by_cases h0 : d.kind = 0
  · rw [if_pos h0] at h
    unfold dealOk at hd
    rw [if_pos h0] at hd
    simp [inR] at hd
    split at h
    · cases h
    · cases h
      exact ⟨by show _ ∧ _; simp only; omega, by show _ ∧ _; simp only; omega, hS.cards⟩
  · rw [if_neg h0] at h
    by_cases h1 : d.kind = 1
    · rw [if_pos h1] at h
      have hF : fmeOk p d.forme = true := by unfold dealOk at hd; rw [if_neg h0, if_pos h1] at hd; exact hd
      have ht := (fmeR_of hF (v := 0) (by have := wanted_of hV; omega)).times
      have hmk := (pence_of hV).1
      split at h
      · cases h
      · cases h
        refine ⟨by show _ ∧ _; simp only; omega, by show _ ∧ _; simp only; omega, ?_⟩
        intro v hv
        have hv2 : v < s.cards.length := by simpa using hv
        have hc := S.cards v hv2
        have hg := gives_bd (spoil_of hV) (fmeR_of hF (v := v) (by omega))
        rw [gs_get hv]
        simp only [List.getElem_map, List.getElem_range, gives_eq]
        omega
    · rw [if_neg h1] at h
      unfold dealOk at hd
      rw [if_neg h0, if_neg h1] at hd
      split at hd
      · simp [inR] at hd
        split at h
        · cases h
        · cases h
          refine ⟨by show _ ∧ _; simp only; omega, by show _ ∧ _; simp only; omega, ?_⟩
          intro v hv
          have hv2 : v < s.cards.length := by simpa using hv
          have hc := S.cards v hv2
          by_cases e : d.view.toNat = v
          · subst e
            simp only [gs_set hv2]
            omega
          · simp only [gs_set_ne e]
            omega
      · cases hd
theorem cell_eq {w w' : World} {b k : Nat} (h : w'.heap[b]? = w.heap[b]?) : w'.cell? ⟨b, k, none⟩ = w.cell? ⟨b, k, none⟩ := by simp [World.cell?, h]
theorem spns_set {w : World} {gb off b k n : Nat} {l : List Spn} {v : Value} (h : IsSpns w (some ⟨gb, off, none⟩) l) (hne : gb ≠ b) : IsSpns (w.setCell ⟨b, k, none⟩ v) (some ⟨gb, off, none⟩) l := fun i hi => by
  obtain ⟨b', off', he, h0, h1⟩ := h i hi
  cases he
  exact ⟨gb, off, rfl, (cell_eq (Below.heap_setCell _ _ _ _ hne)).trans h0, (cell_eq (Below.heap_setCell _ _ _ _ hne)).trans h1⟩
theorem runF_some {p : Prs} {s t : Shf} {d : Dl} {r : List Dl} {k : Nat} (h : p.deal s d = some t) : p.runF s (d :: r) k = p.runF t r (k + 1) := by simp [Prs.runF, h]
theorem runF_none {p : Prs} {s : Shf} {d : Dl} {r : List Dl} {k : Nat} (h : p.deal s d = none) : p.runF s (d :: r) k = (s, k, false) := by simp [Prs.runF, h]
theorem drop_gd {l : List Dl} {k : Nat} (h : k < l.length) : l.drop k = gd l k :: l.drop (k + 1) := by
  rw [List.drop_eq_getElem_cons h]; simp [gd, h]
/-- While deals are done: the shelf is in a block of its own. -/
structure AftI (W : World) (sa : Option Addr) (B0 : Int) (b4 b6 : Nat) (p : Prs) (s0 : Shf) (l : List Dl) (k : Nat) (s : Shf) (gb off cg : Nat) (w : World) : Prop where
  h4 : w.heap[b4]? = some (.cells #[.int .i64 s.paper, .int .i64 s.money, .slice (some ⟨gb, off, none⟩) s.cards.length cg] 48 (0, 0))
  h6 : w.heap[b6]? = some (.cells #[.int .i64 0, .int .i64 0, .slice none 0 0] 48 (0, 0))
  sp : IsSpns w (some ⟨gb, off, none⟩) s.cards
  ne : gb ≠ b4
  ne6 : gb ≠ b6
  src : some ⟨gb, off, none⟩ = sa ∨ W.heap.size ≤ gb
  le : Below W.heap.size W w
  run : p.runF s0 l 0 = p.runF s (l.drop k) k
  len : s.cards.length = p.wanted.length
  bd : SBd s (B0 + k * 2199023255552)
theorem res57 {fn : Func} {u v x : Tmp} (h : fn.results = #[.cell u 48, .tmp v, .tmp x]) (tmps : Array Value) {w : World} {b : Nat} {y0 y1 y2 y3 y4 : Value} (hp : tmps.getD u undef = .pointer (some ⟨b, 0, none⟩))
    (hv : tmps.getD v undef = y3) (hx4 : tmps.getD x undef = y4) (hx : w.cell? ⟨b, 0, none⟩ = some y0) (hy : w.cell? ⟨b, 1, none⟩ = some y1) (hz : w.cell? ⟨b, 2, none⟩ = some y2) :
    (results fn tmps).run Try.prog w = .ok (.tuple #[.agg #[y0, y1, y2], y3, y4]) w := by
  subst hv hx4
  have hp' : tmps[u]?.getD undef = .pointer (some ⟨b, 0, none⟩) := by simpa using hp
  simp [results, h, hp', hx, hy, hz, go_sem]
end Go.Proofs.Ytjkhclijmcmdjaa
