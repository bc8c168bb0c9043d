/- Whether a press is valid; a press that is looked at. Whether a press is valid; a press that is looked at. Whether a deal is valid, and a press, in the reference; the errors. Whether a list is a plan; what a plan costs; of which view a plan gives too few: program and reference. What a plan costs; whether a list is a plan, and of which view it gives too few, in the reference; the errors. Of which view a plan gives too few; the reference's Check, Cost, Gives. Rows of spans; the reference's Check, Cost, Gives. The program's Cost, Check, Gives. -/
import Derived.Test.YtjkhclijmcmdjaaC2
import Derived.Laws.EntriesVeiled
namespace Go.Proofs.Ytjkhclijmcmdjaa
open Go.RowKit
set_option linter.unusedVariables false
set_option linter.unusedSimpArgs false
/-- What the closure that a deal is asked by has caught: the kinds, the press. -/
structure BadC (W : World) (bk bp : Nat) (p : Prs) (A : PrsA) (bm : Nat) : Prop where
  k : W.cell? ⟨bk, 0, none⟩ = some (.map (some bm))
  m : W.heap[bm]? = some kindM
  p : W.heap[bp]? = some (.cells (p.arr A) 27 (0, 0))
theorem BadC.mono {W W' : World} {bk bp bm : Nat} {p : Prs} {A : PrsA} (h : BadC W bk bp p A bm) (hb : Below W.heap.size W W') : BadC W' bk bp p A bm :=
  ⟨cell_stays hb h.k, (hb.block _ (heap_lt h.m)).trans h.m, (hb.block _ (heap_lt h.p)).trans h.p⟩
theorem cf103 (args : Array Value) (w : World) : (callFunc 103 args).run Try.prog w = .ok (.enter 103 args) w := by simp [callFunc, Try.func103, Try.f103, go_sem]
theorem cf105 (args : Array Value) (w : World) : (callFunc 105 args).run Try.prog w = .ok (.enter 105 args) w := by simp [callFunc, Try.func105, Try.f105, go_sem]
theorem cf107 (args : Array Value) (w : World) : (callFunc 107 args).run Try.prog w = .ok (.enter 107 args) w := by simp [callFunc, Try.func107, Try.f107, go_sem]
/-- The function of a kind, called. -/
theorem kind_call {p : Prs} {A : PrsA} {d : Dl} {a : Option Addr} {c : Nat} {w : World} (hf : IsInts w a d.forme.slots) (hl : d.forme.slots.length ≤ 1000) (hw : p.wanted.length ≤ 1000) {x : Nat × Nat} (hk : kindOf d.kind = some x) :
    Calls Try.prog x.1 #[p.v A, d.v a c] w fun e w' => e = .returned (.bool (dealOk p d)) ∧ Below w.heap.size w w' := by
  unfold kindOf at hk
  unfold dealOk
  by_cases h0 : d.kind = 0
  · rw [if_pos h0] at hk ⊢
    cases hk
    exact kind103
  · rw [if_neg h0] at hk ⊢
    by_cases h1 : d.kind = 1
    · rw [if_pos h1] at hk ⊢
      cases hk
      exact kind105 hf hl
    · rw [if_neg h1] at hk ⊢
      by_cases h2 : d.kind = 2
      · rw [if_pos h2] at hk ⊢
        cases hk
        exact kind107 hw
      · rw [if_neg h2] at hk
        cases hk
theorem kind_none {p : Prs} {d : Dl} (h : kindOf d.kind = none) : dealOk p d = false := by
  unfold kindOf at h
  unfold dealOk
  by_cases h0 : d.kind = 0
  · rw [if_pos h0] at h; cases h
  · by_cases h1 : d.kind = 1
    · rw [if_neg h0, if_pos h1] at h; cases h
    · by_cases h2 : d.kind = 2
      · rw [if_neg h0, if_neg h1, if_pos h2] at h; cases h
      · rw [if_neg h0, if_neg h1, if_neg h2]
theorem kind_enter {k : Int} {x : Nat × Nat} (h : kindOf k = some x) (args : Array Value) (w : World) : (callFunc x.1 args).run Try.prog w = .ok (.enter x.1 args) w := by
  unfold kindOf at h
  by_cases h0 : k = 0
  · rw [if_pos h0] at h; cases h; exact cf103 args w
  · by_cases h1 : k = 1
    · rw [if_neg h0, if_pos h1] at h; cases h; exact cf105 args w
    · by_cases h2 : k = 2
      · rw [if_neg h0, if_neg h1, if_pos h2] at h; cases h; exact cf107 args w
      · rw [if_neg h0, if_neg h1, if_neg h2] at h; cases h
set_option maxHeartbeats 2000000 in
theorem bad90 {p : Prs} {A : PrsA} {d : Dl} {a : Option Addr} {c bk bp bm : Nat} {w : World} (hB : BadC w bk bp p A bm) (hf : IsInts w a d.forme.slots) (hl : d.forme.slots.length ≤ 1000) (hw : p.wanted.length ≤ 1000) :
    Calls Try.prog 90 #[d.v a c, .pointer (some ⟨bk, 0, none⟩), .pointer (some ⟨bp, 0, none⟩)] w fun e w' => e = .returned (.bool (!dealOk p d)) ∧ Below w.heap.size w w' := by
  have hb0 : Below w.heap.size w (w.alloc (.cells (d.arr a c) 62)) := (Below.refl _ w).alloc (Nat.le_refl _) _
  have q0 := World.alloc_heap_new w (.cells (d.arr a c) 62)
  have HX := Lib.hid (And.intro q0 (And.intro hb0 (And.intro (hB.mono hb0) (hf.mono hb0))))
  clear hb0 q0 hB hf
  go_enter Try.func90, Try.ntmps90
  refine wp_seq_hid ?_
  intro K0 HK0
  go_wp2_with fail
  refine HK0.out _ _ ?_
  clear HK0 K0
  revert HX
  generalize w.alloc (.cells (d.arr a c) 62) = w1
  generalize w.heap.size = bd
  intro HX
  obtain ⟨k0, k1, k2, k3, k4, k5⟩ := dl_cells HX.out.1
  have m0 := HX.out.2.2.1.k
  refine wp_seq_hid ?_
  intro K1 HK1
  have hlk := run_lookup HX.out.2.2.1.m d.kind true
  cases hk : kindOf d.kind with
  | none =>
    have HN := Lib.hid (kind_none (p := p) hk)
    rw [hk] at hlk
    have hlk2 : (Instr.lookup 130 (.map (some bm)) (.int .i64 d.kind) true).run Try.prog w1 = .ok (.tuple #[.agg #[.nilFunc, .nilFunc], .bool false]) w1 := hlk
    clear hlk hk
    go_wp2_with fail
    have hb2 : Below bd w (w1.alloc (.cells #[.nilFunc, .nilFunc] 129)) := HX.out.2.1.alloc (Nat.le_of_lt (heap_lt HX.out.1)) _
    have HB2 := Lib.hid hb2
    clear hb2 k0 k1 k2 k3 k4 k5 m0 hlk2
    refine HK1.out _ _ ?_
    clear HK1 K1
    go_wp2_with fail
    all_goals first
      | (refine ⟨fun _ _ => trivial, ?_⟩; go_wp2_with fail)
      | skip
    go_ret
    exact ⟨ret_bool (by rw [HN.out]; rfl), HB2.out⟩
  | some x =>
    rw [hk] at hlk
    have hlk2 : (Instr.lookup 130 (.map (some bm)) (.int .i64 d.kind) true).run Try.prog w1 = .ok (.tuple #[.agg #[.func (.func x.1) #[] #[], .func (.func x.2) #[] #[]], .bool true]) w1 := hlk
    have HEN := Lib.hid (kind_enter hk)
    have HK := Lib.hid hk
    clear hlk hk
    go_wp2_with fail
    have hb2 : Below w1.heap.size w1 (w1.alloc (.cells #[.func (.func x.1) #[] #[], .func (.func x.2) #[] #[]] 129)) := (Below.refl _ _).alloc (Nat.le_refl _) _
    have q2 := World.alloc_heap_new w1 (.cells #[.func (.func x.1) #[] #[], .func (.func x.2) #[] #[]] 129)
    have HB2 := Lib.hid (And.intro q2 hb2)
    clear hb2 q2 k0 k1 k2 k3 k4 k5 m0 hlk2
    refine HK1.out _ _ ?_
    clear HK1 K1
    revert HB2
    generalize (w1.alloc (.cells #[.func (.func x.1) #[] #[], .func (.func x.2) #[] #[]] 129)) = w2
    intro HB2
    have hbd := (HB2.out.2.block _ (heap_lt HX.out.1)).trans HX.out.1
    obtain ⟨k0, k1, k2, k3, k4, k5⟩ := dl_cells hbd
    obtain ⟨m0, m1, m2, m3, m4, m5, m6, m7, m8, m9⟩ := prs_cells (HX.out.2.2.1.mono HB2.out.2).p
    have v0 : w2.cell? ⟨w1.heap.size, 0, none⟩ = some (.func (.func x.1) #[] #[]) := by rw [cell_of_heap HB2.out.1]; rfl
    have HC := Lib.hid (kind_call (p := p) (A := A) (c := c) (HX.out.2.2.2.mono HB2.out.2) hl hw HK.out)
    have henter := HEN.out
    clear hbd
    cases hok : dealOk p d
    all_goals
      rw [hok] at HC
      clear hok
      go_wp2_with fail
      refine HC.out.mono ?_
      rintro e w3 ⟨rfl, hb3⟩
      have hsz := HX.out.2.1.size
      have hb2 := HB2.out.2.size
      have hlt := heap_lt HX.out.1
      have HB3 : Hid (Below bd w w3) := HX.out.2.1.trans ((HB2.out.2.trans (hb3.mono hb2)).mono (by omega))
      clear hb3 k0 k1 k2 k3 k4 k5 m0 m1 m2 m3 m4 m5 m6 m7 m8 m9 v0 henter hsz hb2 hlt
      go_wp2_with fail
      go_ret
      exact ⟨rfl, HB3.out⟩
set_option maxHeartbeats 1000000 in
theorem index109 {p : Prs} {A : PrsA} {l : List Dl} {a : Option Addr} {c bk bp bm : Nat} {w : World} (hB : BadC w bk bp p A bm) (ha : IsDls w a l) (hl : l.length ≤ 1000) (hs : ∀ d ∈ l, d.forme.slots.length ≤ 1000) (hw : p.wanted.length ≤ 1000) :
    Calls Try.prog 109 #[.slice a l.length c, .func (.func 90) #[] #[.pointer (some ⟨bk, 0, none⟩), .pointer (some ⟨bp, 0, none⟩)]] w fun e w' => e = .returned (.int .i64 (idxL (fun d => !dealOk p d) l 0)) ∧ Below w.heap.size w w' := by
  have HB := Lib.hid (And.intro hB ha)
  have HS := Lib.hid hs
  have cf90 : ∀ (args : Array Value) (w : World), (callFunc 90 args).run Try.prog w = .ok (.enter 90 args) w := fun args w => by simp [callFunc, Try.func90, Try.f90, go_sem]
  clear hB ha hs
  go_enter Try.func109, Try.ntmps109
  go_wp2_with fail
  go_loopw [8] (fun i wr => ∃ k : Nat, k ≤ l.length ∧ i = .int .i64 k ∧ Hid (idxL (fun d => !dealOk p d) l 0 = idxL (fun d => !dealOk p d) (l.drop k) k) ∧ Hid (Below w.heap.size w wr)) (fun i _ => l.length - (intOf i).toNat)
  case atStart => exact ⟨0, by omega, rfl, rfl, Below.refl _ _⟩
  case round =>
    obtain ⟨k, hk, rfl, HK, HW⟩ := hrel
    by_cases hlt : k < l.length
    · obtain ⟨b, off, hab, ai, ci, c0, c1, c2, c3, c4, c5, c6⟩ := (HB.out.2.mono HW.out) k hlt
      subst hab
      have hd := idxL_drop (P := fun d => !dealOk p d) hlt
      have hgk : gd l k = l[k] := by simp [gd, hlt]
      have hmem : gd l k ∈ l := by rw [hgk]; simp
      rw [← hgk] at hd
      have HC := Lib.hid (bad90 (c := ci) (HB.out.1.mono HW.out) c6 (HS.out _ hmem) hw)
      revert hd HC c0 c1 c2 c3 c4 c5
      clear hgk hmem c6
      generalize gd l k = x
      intro c0 c1 c2 c3 c4 c5 hd HC
      cases hP : dealOk p x
      · rw [hP] at hd HC
        have HD := Lib.hid hd
        clear hd hP
        go_wp2_with fail
        refine HC.out.mono ?_
        rintro e w' ⟨rfl, hb⟩
        have HB2 := Lib.hid (HW.out.trans (hb.mono HW.out.size))
        clear hb c0 c1 c2 c3 c4 c5
        go_wp2_with fail
        go_ret
        exact ⟨ret_int (by rw [HK.out, HD.out]; rfl), HB2.out⟩
      · rw [hP] at hd HC
        have HD := Lib.hid hd
        clear hd hP
        go_wp2_with fail
        refine HC.out.mono ?_
        rintro e w' ⟨rfl, hb⟩
        have HB2 := Lib.hid (HW.out.trans (hb.mono HW.out.size))
        clear hb c0 c1 c2 c3 c4 c5
        go_wp2_with fail
        go_roundw
        case rel => exact ⟨k + 1, by omega, by go_num, by rw [Hid, HK.out, HD.out]; rfl, HB2.out⟩
        case measure => simp [intOf]; omega
    · have hke : l.drop k = [] := List.drop_eq_nil_of_le (by omega)
      have HK2 : Hid (idxL (fun d => !dealOk p d) l 0 = -1) := by rw [Hid, HK.out, hke]; rfl
      clear hke
      go_wp2_with fail
      go_ret
      exact ⟨ret_int HK2.out.symm, HW.out⟩
theorem has94 {p : Prs} {A : PrsA} {l : List Dl} {a : Option Addr} {c bk bp bm : Nat} {w : World} (hB : BadC w bk bp p A bm) (ha : IsDls w a l) (hl : l.length ≤ 1000) (hs : ∀ d ∈ l, d.forme.slots.length ≤ 1000) (hw : p.wanted.length ≤ 1000) :
    Calls Try.prog 94 #[.slice a l.length c, .func (.func 90) #[] #[.pointer (some ⟨bk, 0, none⟩), .pointer (some ⟨bp, 0, none⟩)]] w fun e w' => e = .returned (.bool (l.any fun d => !dealOk p d)) ∧ Below w.heap.size w w' := by
  have HI := Lib.hid (idxL_any (fun d => !dealOk p d) l 0)
  have HC := Lib.hid (index109 (c := c) hB ha hl hs hw)
  clear hB ha hs
  go_enter Try.func94, Try.ntmps94
  go_wp2_with fail
  refine HC.out.mono ?_
  rintro e w' ⟨rfl, hb⟩
  have HB2 := Lib.hid hb
  clear hb
  go_wp2_with fail
  go_ret
  exact ⟨ret_bool HI.out, HB2.out⟩
end Go.Proofs.Ytjkhclijmcmdjaa
namespace Go.Proofs.Ytjkhclijmcmdjaa
open Go.RowKit
set_option linter.unusedVariables false
set_option linter.unusedSimpArgs false
theorem valid_eq (p : Prs) : p.valid = (p.sizeOk && p.spoilOk && !(p.wanted.any fun n => !inR n 0 60) && !([p.make, p.sheet, p.paper, p.money].any fun n => !inR n 0 1099511627776) && !(p.deals.any fun d => !dealOk p d)) := by
  have e3 : (p.deals.any fun d => !dealOk p d) = !p.deals.all (dealOk p) := by
    induction p.deals with
    | nil => rfl
    | cons x r ih => simp only [List.any_cons, List.all_cons, ih, Bool.not_and]
  unfold Prs.valid
  rw [any_not, any_not, e3, Bool.not_not, Bool.not_not, Bool.not_not]
  congr 2
  simp [Prs.penceOk, Bool.and_assoc]
theorem ints_of4 {w : World} {b : Nat} {x y z u : Int} (h : w.heap[b]? = some (.cells #[.int .i64 x, .int .i64 y, .int .i64 z, .int .i64 u] 3 (0, 0))) : IsInts w (some ⟨b, 0, none⟩) [x, y, z, u] := by
  intro i hi
  refine ⟨b, 0, rfl, ?_⟩
  rw [Nat.zero_add, cell_of_heap h]
  match i, hi with
  | 0, _ => rfl
  | 1, _ => rfl
  | 2, _ => rfl
  | 3, _ => rfl
theorem bool_and5 (a b c d e : Bool) : a = false ∨ (a = true ∧ b = false) ∨ (a = true ∧ b = true ∧ c = false) ∨ (a = true ∧ b = true ∧ c = true ∧ d = false) ∨ (a = true ∧ b = true ∧ c = true ∧ d = true ∧ e = false) ∨ (a = true ∧ b = true ∧ c = true ∧ d = true ∧ e = true) := by
  cases a <;> cases b <;> cases c <;> cases d <;> cases e <;> simp
set_option maxHeartbeats 4000000 in
theorem isPress66 {p : Prs} {A : PrsA} {w : World} (hP : IsPrs w p A) (hS : p.Small) :
    Calls Try.prog 66 #[p.v A] w fun e w' => e = .returned (.bool p.valid) ∧ Below w.heap.size w w' := by
  have hb0 : Below w.heap.size w (w.alloc (.cells (p.arr A) 27)) := (Below.refl _ w).alloc (Nat.le_refl _) _
  have q0 := World.alloc_heap_new w (.cells (p.arr A) 27)
  have HX := Lib.hid (And.intro q0 (And.intro hb0 (hP.mono hb0)))
  have HS := Lib.hid hS
  have hmf : ∀ (fn : Fn) (first cap : Array Value) (w : World), (Instr.makeFunc fn first cap).run Try.prog w = .ok (.func fn first cap) w := fun _ _ _ _ => rfl
  clear hb0 q0 hP hS
  have HVE := Lib.hid (valid_eq p)
  go_enter Try.func66, Try.ntmps66
  refine wp_seq_hid ?_
  intro K0 HK0
  go_wp2_with fail
  refine HK0.out _ _ ?_
  clear HK0 K0
  revert HX
  generalize w.alloc (.cells (p.arr A) 27) = w1
  generalize w.heap.size = bp
  intro HX
  refine wp_seq_hid ?_
  intro K1 HK1
  go_wp2_with fail
  refine (kinds89 w1).mono ?_
  rintro e w2 ⟨bm, rfl, hm, hb⟩
  have HB := Lib.hid (And.intro hm hb)
  clear hm hb
  go_wp2_with fail
  have hb3 : Below w2.heap.size w2 (w2.alloc (.cells #[.map (some bm)] 130)) := (Below.refl _ _).alloc (Nat.le_refl _) _
  have q3 := World.alloc_heap_new w2 (.cells #[.map (some bm)] 130)
  have hbw : Below w1.heap.size w1 (w2.alloc (.cells #[.map (some bm)] 130)) := HB.out.2.trans (hb3.mono HB.out.2.size)
  have HC : Hid (BadC (w2.alloc (.cells #[.map (some bm)] 130)) w2.heap.size bp p A bm ∧ Below w1.heap.size w1 (w2.alloc (.cells #[.map (some bm)] 130)) ∧ Below bp w (w2.alloc (.cells #[.map (some bm)] 130)) ∧ IsPrs (w2.alloc (.cells #[.map (some bm)] 130)) p A) :=
    ⟨⟨by rw [cell_of_heap q3]; rfl, (hb3.block _ (heap_lt HB.out.1)).trans HB.out.1, (hbw.block _ (heap_lt HX.out.1)).trans HX.out.1⟩, hbw, HX.out.2.1.trans (hbw.mono (Nat.le_of_lt (heap_lt HX.out.1))), HX.out.2.2.mono hbw⟩
  clear hb3 q3 hbw
  revert HC
  generalize (w2.alloc (.cells #[.map (some bm)] 130)) = w3
  generalize w2.heap.size = bk
  intro HC
  refine HK1.out _ _ ?_
  clear HK1 K1 HB
  refine wp_seq_hid ?_
  intro K2 HK2
  go_wp2_with fail
  refine HK2.out _ _ ?_
  clear HK2 K2
  refine wp_seq_hid ?_
  intro K3 HK3
  go_wp2_with fail
  refine HK3.out _ _ ?_
  clear HK3 K3
  refine wp_seq_hid ?_
  intro K4 HK4
  go_wp2_with fail
  refine HK4.out _ _ ?_
  clear HK4 K4
  have hcells := prs_cells HC.out.1.p
  have HPC := Lib.hid hcells
  clear hcells
  have hwl : p.wanted.length ≤ 20 := HS.out.wanted
  have hdl : p.deals.length ≤ 60 := HS.out.deals
  obtain ⟨e7, he7⟩ : ∃ e, p.sizeOk = e := ⟨_, rfl⟩
  obtain ⟨e8, he8⟩ : ∃ e, p.spoilOk = e := ⟨_, rfl⟩
  have HE := Lib.hid (And.intro he7 he8)
  have HE7 := Lib.hid (show (inR p.room 1 6 && inR p.formes 1 2 && inR p.wanted.length 1 4 && decide (p.deals.length ≤ 20)) = e7 from he7)
  have HE8 := Lib.hid (show (decide (0 ≤ p.slo) && decide (p.slo ≤ p.shi) && decide (p.shi ≤ 50)) = e8 from he8)
  clear he7 he8
  refine wp_seq_hid ?_
  intro K5 HK5
  have G5 : Hid (∀ {x11 x12 x13 x14 x15 x16 x17 x18 x19 x20 x21 x22 x23 x24 x25 x26 x27 x28 x29 x30 : Value}, K5 { tmps := #[p.v A, .pointer (some ⟨bp, 0, none⟩), .bool false, .pointer (some ⟨bk, 0, none⟩), .func (.func 90) #[] #[.pointer (some ⟨bk, 0, none⟩), .pointer (some ⟨bp, 0, none⟩)], .func (.func 91) #[] #[], .func (.func 92) #[] #[], .bool e7, undef, .map (some bm), .func (.func 90) #[] #[.pointer (some ⟨bk, 0, none⟩), .pointer (some ⟨bp, 0, none⟩)], x11, x12, x13, x14, x15, x16, x17, x18, x19, x20, x21, x22, x23, x24, x25, x26, x27, x28, x29, x30, undef, undef, undef, undef, undef, undef, undef, undef, undef, undef, undef, undef, undef, undef, undef, undef, undef, undef, undef, undef, undef, undef, undef, undef, undef, undef, undef, undef, undef, undef, undef, undef, undef, undef, undef, undef, undef, undef, undef, undef, undef, undef, undef, undef, undef, undef, undef, undef, undef, undef, undef], defers := [] } w3) := by
    intro x11 x12 x13 x14 x15 x16 x17 x18 x19 x20 x21 x22 x23 x24 x25 x26 x27 x28 x29 x30
    refine HK5.out _ _ ?_
    clear HK5 K5
    refine wp_seq_hid ?_
    intro K6 HK6
    have G6 : Hid (∀ {x11 x12 x13 x14 x15 x16 x17 x18 x19 x20 x21 x22 x23 x24 x25 x26 x27 x28 x29 x30 x31 x32 x33 x34 x35 x36 x37 x38 x39 x40 x41 x42 x43 x44 x45 x46 x47 x48 x49 : Value}, K6 { tmps := #[p.v A, .pointer (some ⟨bp, 0, none⟩), .bool false, .pointer (some ⟨bk, 0, none⟩), .func (.func 90) #[] #[.pointer (some ⟨bk, 0, none⟩), .pointer (some ⟨bp, 0, none⟩)], .func (.func 91) #[] #[], .func (.func 92) #[] #[], .bool e7, .bool e8, .map (some bm), .func (.func 90) #[] #[.pointer (some ⟨bk, 0, none⟩), .pointer (some ⟨bp, 0, none⟩)], x11, x12, x13, x14, x15, x16, x17, x18, x19, x20, x21, x22, x23, x24, x25, x26, x27, x28, x29, x30, x31, x32, x33, x34, x35, x36, x37, x38, x39, x40, x41, x42, x43, x44, x45, x46, x47, x48, x49, undef, undef, undef, undef, undef, undef, undef, undef, undef, undef, undef, undef, undef, undef, undef, undef, undef, undef, undef, undef, undef, undef, undef, undef, undef, undef, undef, undef, undef, undef, undef, undef], defers := [] } w3) := by
      intro x11 x12 x13 x14 x15 x16 x17 x18 x19 x20 x21 x22 x23 x24 x25 x26 x27 x28 x29 x30 x31 x32 x33 x34 x35 x36 x37 x38 x39 x40 x41 x42 x43 x44 x45 x46 x47 x48 x49
      refine HK6.out _ _ ?_
      clear HK6 K6
      obtain ⟨m0, m1, m2, m3, m4, m5, m6, m7, m8, m9⟩ := HPC.out
      obtain ⟨q1, hq1⟩ : ∃ q, p.wanted.any (fun n => !inR n 0 60) = q := ⟨_, rfl⟩
      obtain ⟨q2, hq2⟩ : ∃ q, [p.make, p.sheet, p.paper, p.money].any (fun n => !inR n 0 1099511627776) = q := ⟨_, rfl⟩
      obtain ⟨q3, hq3⟩ : ∃ q, p.deals.any (fun d => !dealOk p d) = q := ⟨_, rfl⟩
      have HV : Hid (p.valid = (e7 && e8 && !q1 && !q2 && !q3)) := by
        have := HVE.out
        rw [HE.out.1, HE.out.2, hq1, hq2, hq3] at this
        exact this
      have C1 := has68 asks91 (c := A.cw) HC.out.2.2.2.wanted (by omega)
      rw [hq1] at C1
      have hb4 : Below w3.heap.size w3 (w3.alloc (.cells #[.int .i64 p.make, .int .i64 p.sheet, .int .i64 p.paper, .int .i64 p.money] 3)) := (Below.refl _ _).alloc (Nat.le_refl _) _
      have C2 := has68 asks92 (c := 4) (ints_of4 (World.alloc_heap_new w3 (.cells #[.int .i64 p.make, .int .i64 p.sheet, .int .i64 p.paper, .int .i64 p.money] 3))) (by simp)
      rw [hq2] at C2
      have C3 := has94 (c := A.cd) (HC.out.1.mono hb4) (HC.out.2.2.2.deals.mono hb4) (by omega) (fun d hd => by have := HS.out.slots d hd; omega) (by omega)
      rw [hq3] at C3
      have C2' : Calls Try.prog 68 #[.slice (some ⟨w3.heap.size, 0, none⟩) 4 4, .func (.func 92) #[] #[]] (w3.alloc (.cells #[.int .i64 p.make, .int .i64 p.sheet, .int .i64 p.paper, .int .i64 p.money] 3)) fun e w' => e = .returned (.bool q2) ∧ (w3.alloc (.cells #[.int .i64 p.make, .int .i64 p.sheet, .int .i64 p.paper, .int .i64 p.money] 3)) = w' := C2
      have H1 := Lib.hid C1
      have H2 := Lib.hid C2'
      have H3 := Lib.hid C3
      have HB4 := Lib.hid (HC.out.2.2.1.trans (hb4.mono (Nat.le_of_lt (heap_lt HC.out.1.p))))
      have n0 := cell_stays hb4 m9
      clear C1 C2 C2' C3 hq1 hq2 hq3 hb4
      cases e7
      case false =>
        go_wp2_with fail
        all_goals first
          | (refine ⟨fun _ _ => trivial, ?_⟩; go_wp2_with fail)
          | skip
        go_ret
        exact ⟨ret_bool (by rw [HV.out]; rfl), HC.out.2.2.1⟩
      cases e8
      case false =>
        go_wp2_with fail
        all_goals first
          | (refine ⟨fun _ _ => trivial, ?_⟩; go_wp2_with fail)
          | skip
        go_ret
        exact ⟨ret_bool (by rw [HV.out]; rfl), HC.out.2.2.1⟩
      cases q1
      case true =>
        go_wp2_with (go_at_call 68; refine H1.out.mono ?_; rintro e w' ⟨rfl, rfl⟩)
        all_goals first
          | (refine ⟨fun _ _ => trivial, ?_⟩; go_wp2_with fail)
          | skip
        go_ret
        exact ⟨ret_bool (by rw [HV.out]; rfl), HC.out.2.2.1⟩
      cases q2
      case true =>
        go_wp2_with (go_at_call 68; first | ((with_reducible refine H1.out.mono ?_); rintro e w' ⟨rfl, rfl⟩) | ((with_reducible refine H2.out.mono ?_); rintro e w' ⟨rfl, rfl⟩))
        all_goals first
          | (refine ⟨fun _ _ => trivial, ?_⟩; go_wp2_with fail)
          | skip
        go_ret
        exact ⟨ret_bool (by rw [HV.out]; rfl), HB4.out⟩
      cases q3
      all_goals
        go_wp2_with (first
          | (go_at_call 68; first | ((with_reducible refine H1.out.mono ?_); rintro e w' ⟨rfl, rfl⟩) | ((with_reducible refine H2.out.mono ?_); rintro e w' ⟨rfl, rfl⟩))
          | fail)
        refine H3.out.mono ?_
        rintro e w5 ⟨rfl, hb5⟩
        have HB5 := Lib.hid (HB4.out.trans (hb5.mono (by have := heap_lt HC.out.1.p; simp; omega)))
        clear hb5 m0 m1 m2 m3 m4 m5 m6 m7 m8 m9 n0
        go_wp2_with fail
        go_ret
        exact ⟨ret_bool (by rw [HV.out]; rfl), HB5.out⟩
    obtain ⟨m0, m1, m2, m3, m4, m5, m6, m7, m8, m9⟩ := HPC.out
    clear m0 m1 m4 m5 m6 m7 m8 m9
    have h8 := HE8.out
    rcases bool_and3 (decide (0 ≤ p.slo)) (decide (p.slo ≤ p.shi)) (decide (p.shi ≤ 50)) with h | ⟨h, h2⟩ | ⟨h, h2, h3⟩ | ⟨h, h2, h3⟩
    · rw [h] at h8
      have h8' : e8 = false := by rw [← h8]; rfl
      clear h8 HE8
      subst h8'
      go_wp2_with fail
      exact G6.out
    · rw [h, h2] at h8
      have h8' : e8 = false := by rw [← h8]; rfl
      clear h8 HE8
      subst h8'
      go_wp2_with fail
      exact G6.out
    · rw [h, h2, h3] at h8
      have h8' : e8 = false := by rw [← h8]; rfl
      clear h8 HE8
      subst h8'
      go_wp2_with fail
      exact G6.out
    · rw [h, h2, h3] at h8
      have h8' : e8 = true := by rw [← h8]; rfl
      clear h8 HE8
      subst h8'
      go_wp2_with fail
      exact G6.out
  obtain ⟨m0, m1, m2, m3, m4, m5, m6, m7, m8, m9⟩ := HPC.out
  clear m2 m3 m4 m5 m7 m8
  obtain ⟨r1, hr1⟩ : ∃ r, inR p.room 1 6 = r := ⟨_, rfl⟩
  obtain ⟨r2, hr2⟩ : ∃ r, inR p.formes 1 2 = r := ⟨_, rfl⟩
  obtain ⟨r3, hr3⟩ : ∃ r, inR (p.wanted.length : Int) 1 4 = r := ⟨_, rfl⟩
  obtain ⟨r4, hr4⟩ : ∃ r, decide (p.deals.length ≤ 20) = r := ⟨_, rfl⟩
  have C1 := within_any p.room 1 6 w3
  have C2 := within_any p.formes 1 2 w3
  have C3 := within_any (p.wanted.length : Int) 1 4 w3
  rw [hr1] at C1
  rw [hr2] at C2
  rw [hr3] at C3
  have H1 := Lib.hid C1
  have H2 := Lib.hid C2
  have H3 := Lib.hid C3
  have h7 := HE7.out
  rw [hr1, hr2, hr3, hr4] at h7
  have hr5 : decide ((p.deals.length : Int) ≤ 20) = r4 := by rw [← hr4]; rw [Bool.eq_iff_iff]; simp; omega
  clear C1 C2 C3 hr1 hr2 hr3 HE7
  have hr : ∀ q, (r1 && r2 && r3 && r4) = q → e7 = q := fun q h => by rw [← h7]; exact h
  clear h7
  have HR := Lib.hid hr
  clear hr
  rcases bool_and4 r1 r2 r3 r4 with rfl | ⟨rfl, rfl⟩ | ⟨rfl, rfl, rfl⟩ | ⟨rfl, rfl, rfl, rfl⟩ | ⟨rfl, rfl, rfl, rfl⟩
  all_goals
    first
      | (have h7' := HR.out false rfl
         subst h7')
      | (have h7' := HR.out true rfl
         subst h7')
    go_wp2_with (go_at_call 60; first | ((with_reducible refine H1.out.mono ?_); rintro e w' ⟨rfl, rfl⟩) | ((with_reducible refine H2.out.mono ?_); rintro e w' ⟨rfl, rfl⟩) | ((with_reducible refine H3.out.mono ?_); rintro e w' ⟨rfl, rfl⟩))
    all_goals first
      | (refine ⟨fun _ _ => trivial, ?_⟩; go_wp2_with fail)
      | skip
    exact G5.out
set_option maxHeartbeats 1000000 in
theorem open_yes {p : Prs} {A : PrsA} {w : World} (hP : IsPrs w p A) (hS : p.Small) (hv : p.valid = true) :
    Calls Try.prog 42 #[p.v A] w fun e w' => ∃ bp, e = .returned (.pointer (some ⟨bp, 0, none⟩)) ∧ IsPress w' p A bp ∧ w.heap.size ≤ bp ∧ Below w.heap.size w w' := by
  have hb0 : Below w.heap.size w (w.alloc (.cells (p.arr A) 27)) := (Below.refl _ w).alloc (Nat.le_refl _) _
  have q0 := World.alloc_heap_new w (.cells (p.arr A) 27)
  have HX := Lib.hid (And.intro q0 (And.intro hb0 (hP.mono hb0)))
  have HC := Lib.hid (isPress66 (hP.mono hb0) hS)
  have HV := Lib.hid hv
  clear hb0 q0 hP hS hv
  go_enter Try.func42, Try.ntmps42
  refine wp_seq_hid ?_
  intro K0 HK0
  go_wp2_with fail
  refine HK0.out _ _ ?_
  clear HK0 K0
  revert HX HC
  generalize w.alloc (.cells (p.arr A) 27) = w1
  generalize hbp : w.heap.size = bp
  intro HX HC
  have HP := Lib.hid hbp
  clear hbp
  obtain ⟨m0, m1, m2, m3, m4, m5, m6, m7, m8, m9⟩ := prs_cells HX.out.1
  refine wp_seq_hid ?_
  intro K1 HK1
  go_wp2_with fail
  refine HC.out.mono ?_
  rintro e w2 ⟨he, hb⟩
  rw [HV.out] at he
  subst he
  have HB := Lib.hid hb
  clear hb m0 m1 m2 m3 m4 m5 m6 m7 m8 m9
  go_wp2_with fail
  refine (need_yes _ _).mono ?_
  rintro e w3 ⟨rfl, rfl⟩
  go_wp2_with fail
  refine HK1.out _ _ ?_
  clear HK1 K1
  have q2 := (HB.out.block _ (heap_lt HX.out.1)).trans HX.out.1
  obtain ⟨m0, m1, m2, m3, m4, m5, m6, m7, m8, m9⟩ := prs_cells q2
  have hb3 : Below w2.heap.size w2 (w2.alloc (.cells (p.arr A) 91)) := (Below.refl _ _).alloc (Nat.le_refl _) _
  have hsz := HX.out.2.1.size
  have hsb := HB.out.size
  have HN : Hid (IsPress (w2.alloc (.cells (p.arr A) 91)) p A w2.heap.size ∧ w.heap.size ≤ w2.heap.size ∧ Below bp w (w2.alloc (.cells (p.arr A) 91))) := ⟨⟨World.alloc_heap_new w2 _, (HX.out.2.2.mono HB.out).mono hb3⟩, by omega, HX.out.2.1.trans ((HB.out.trans (hb3.mono hsb)).mono (by rw [← HP.out]; omega))⟩
  clear q2 hb3 hsz hsb
  go_wp2_with fail
  go_ret
  exact ⟨_, rfl, HN.out.1, by rw [← HP.out]; exact HN.out.2.1, HN.out.2.2⟩
set_option maxHeartbeats 1000000 in
theorem open_no {p : Prs} {A : PrsA} {w : World} (hP : IsPrs w p A) (hS : p.Small) (hv : p.valid = false) :
    Calls Try.prog 42 #[p.v A] w fun e w' => e = .panicked [{ v := .iface 103 (.agg #[.int .i64 1]), recovered := false }] ∧ Below w.heap.size w w' := by
  have hb0 : Below w.heap.size w (w.alloc (.cells (p.arr A) 27)) := (Below.refl _ w).alloc (Nat.le_refl _) _
  have q0 := World.alloc_heap_new w (.cells (p.arr A) 27)
  have HX := Lib.hid (And.intro q0 (And.intro hb0 (hP.mono hb0)))
  have HC := Lib.hid (isPress66 (hP.mono hb0) hS)
  have HV := Lib.hid hv
  clear hb0 q0 hP hS hv
  go_enter Try.func42, Try.ntmps42
  refine wp_seq_hid ?_
  intro K0 HK0
  go_wp2_with fail
  refine HK0.out _ _ ?_
  clear HK0 K0
  revert HX HC
  generalize w.alloc (.cells (p.arr A) 27) = w1
  generalize hbp : w.heap.size = bp
  intro HX HC
  have HP := Lib.hid hbp
  clear hbp
  obtain ⟨m0, m1, m2, m3, m4, m5, m6, m7, m8, m9⟩ := prs_cells HX.out.1
  refine wp_seq_hid ?_
  intro K1 HK1
  go_wp2_with fail
  refine HC.out.mono ?_
  rintro e w2 ⟨he, hb⟩
  rw [HV.out] at he
  subst he
  have HB := Lib.hid (HX.out.2.1.trans (hb.mono (Nat.le_of_lt (heap_lt HX.out.1))))
  clear hb m0 m1 m2 m3 m4 m5 m6 m7 m8 m9
  go_wp2_with fail
  refine (need_no _ _).mono ?_
  rintro e w3 ⟨rfl, rfl⟩
  go_wp2_with fail
  exact ⟨rfl, rfl, HB.out⟩
end Go.Proofs.Ytjkhclijmcmdjaa
namespace Go.Proofs.Ytjkhclijmcmdjaa
open Go.RowKit
set_option linter.unusedVariables false
set_option linter.unusedSimpArgs false
set_option maxHeartbeats 2000000 in
theorem rdeal65 {p : Prs} {A : PrsA} {d : Dl} {a : Option Addr} {c : Nat} {w : World} (hf : IsInts w a d.forme.slots) (hl : d.forme.slots.length ≤ 1000) (hw : p.wanted.length ≤ 1000) :
    Calls Try.prog 65 #[p.v A, d.v a c] w fun e w' => e = .returned (.bool (dealOk p d)) ∧ Below w.heap.size w w' := by
  have HX := Lib.hid (alloc2 w (p.arr A) (d.arr a c) 27 62)
  have HF := Lib.hid (hf.mono (alloc2 w (p.arr A) (d.arr a c) 27 62).2.2)
  clear hf
  have hd : dealOk p d = (if d.kind = 0 then inR d.many 1 1048576 && inR d.pence 0 1099511627776 else if d.kind = 1 then fmeOk p d.forme else if d.kind = 2 then inR d.view 0 ((p.wanted.length : Int) - 1) && inR d.many 1 1048576 && inR d.pence 0 1099511627776 else false) := rfl
  go_enter Try.func65, Try.ntmps65
  refine wp_seq_hid ?_
  intro K0 HK0
  go_wp2_with fail
  refine HK0.out _ _ ?_
  clear HK0 K0
  revert HX HF
  generalize (w.alloc (.cells (p.arr A) 27)).alloc (.cells (d.arr a c) 62) = w1
  generalize w.heap.size + 1 = b1
  intro HX HF
  obtain ⟨k0, k1, k2, k3, k4, k5⟩ := dl_cells HX.out.2.1
  obtain ⟨m0, m1, m2, m3, m4, m5, m6, m7, m8, m9⟩ := prs_cells HX.out.1
  have v1 : IntKind.i64.wrap ((p.wanted.length : Int) - 1) = (p.wanted.length : Int) - 1 := IntWalk.i64_in _ (by omega)
  have C0 := in_any d.view 0 ((p.wanted.length : Int) - 1) w1
  have C1 := in_any d.many 1 1048576 w1
  have C2 := in_any d.pence 0 1099511627776 w1
  obtain ⟨e0, he0⟩ : ∃ e, inR d.view 0 ((p.wanted.length : Int) - 1) = e := ⟨_, rfl⟩
  obtain ⟨e1, he1⟩ : ∃ e, inR d.many 1 1048576 = e := ⟨_, rfl⟩
  obtain ⟨e2, he2⟩ : ∃ e, inR d.pence 0 1099511627776 = e := ⟨_, rfl⟩
  rw [he0] at C0 hd
  rw [he1] at C1 hd
  rw [he2] at C2 hd
  have H0 := Lib.hid C0
  have H1 := Lib.hid C1
  have H2 := Lib.hid C2
  clear C0 C1 C2 he0 he1 he2
  by_cases h0 : d.kind = 0
  · rw [if_pos h0] at hd
    have HD := Lib.hid hd
    have g0 : (d.kind == 0) = true := by simpa using h0
    clear hd h0
    rcases bool_and2 e1 e2 with rfl | ⟨rfl, rfl⟩ | ⟨rfl, rfl⟩
    all_goals
      go_wp2_with (go_at_call 61; first | ((with_reducible refine H1.out.mono ?_); rintro e w' ⟨rfl, rfl⟩) | ((with_reducible refine H2.out.mono ?_); rintro e w' ⟨rfl, rfl⟩))
      all_goals first
        | (refine ⟨fun _ _ => trivial, ?_⟩; go_wp2_with fail)
        | skip
      go_ret
      exact ⟨ret_bool (by rw [HD.out]; rfl), HX.out.2.2⟩
  · rw [if_neg h0] at hd
    have g0 : (d.kind == 0) = false := by simpa using h0
    by_cases h1 : d.kind = 1
    · rw [if_pos h1] at hd
      have HD := Lib.hid hd
      have g1 : (d.kind == 1) = true := by simpa using h1
      clear hd h1 h0
      go_wp2_with fail
      refine (forme47 (c := c) HF.out hl).mono ?_
      rintro e w2 ⟨rfl, hb⟩
      have HB := Lib.hid (HX.out.2.2.trans (hb.mono HX.out.2.2.size))
      clear hb k0 k1 k2 k3 k4 k5 m0 m1 m2 m3 m4 m5 m6 m7 m8 m9
      go_wp2_with fail
      go_ret
      exact ⟨ret_bool (by rw [HD.out]), HB.out⟩
    · rw [if_neg h1] at hd
      have g1 : (d.kind == 1) = false := by simpa using h1
      by_cases h2 : d.kind = 2
      · rw [if_pos h2] at hd
        have HD := Lib.hid hd
        have g2 : (d.kind == 2) = true := by simpa using h2
        clear hd h2 h1 h0
        rcases bool_and3 e0 e1 e2 with rfl | ⟨rfl, rfl⟩ | ⟨rfl, rfl, rfl⟩ | ⟨rfl, rfl, rfl⟩
        all_goals
          go_wp2_with (go_at_call 61; first | ((with_reducible refine H0.out.mono ?_); rintro e w' ⟨rfl, rfl⟩) | ((with_reducible refine H1.out.mono ?_); rintro e w' ⟨rfl, rfl⟩) | ((with_reducible refine H2.out.mono ?_); rintro e w' ⟨rfl, rfl⟩))
          all_goals first
            | (refine ⟨fun _ _ => trivial, ?_⟩; go_wp2_with fail)
            | skip
          go_ret
          exact ⟨ret_bool (by rw [HD.out]; rfl), HX.out.2.2⟩
      · rw [if_neg h2] at hd
        have HD := Lib.hid hd
        have g2 : (d.kind == 2) = false := by simpa using h2
        clear hd h2 h1 h0
        go_wp2_with fail
        go_ret
        exact ⟨ret_bool (by rw [HD.out]), HX.out.2.2⟩
theorem valid_ref (p : Prs) : p.valid = ((inR p.room 1 6 && inR p.formes 1 2 && p.spoilOk && inR p.wanted.length 1 4) && p.wanted.all (fun n => inR n 0 60) && p.deals.all (dealOk p) && (inR p.make 0 1099511627776 && inR p.sheet 0 1099511627776 && inR p.paper 0 1099511627776 && inR p.money 0 1099511627776 && decide ((p.deals.length : Int) ≤ 20))) := by
  have e : decide (p.deals.length ≤ 20) = decide ((p.deals.length : Int) ≤ 20) := by rw [Bool.eq_iff_iff]; simp; omega
  unfold Prs.valid Prs.sizeOk Prs.penceOk
  rw [e]
  generalize inR p.room 1 6 = a
  generalize inR p.formes 1 2 = b
  generalize p.spoilOk = c
  generalize inR p.wanted.length 1 4 = d
  generalize p.wanted.all (fun n => inR n 0 60) = e
  generalize p.deals.all (dealOk p) = f
  generalize decide ((p.deals.length : Int) ≤ 20) = g
  generalize inR p.make 0 1099511627776 = h
  generalize inR p.sheet 0 1099511627776 = i
  generalize inR p.paper 0 1099511627776 = j
  generalize inR p.money 0 1099511627776 = k
  cases a <;> cases b <;> cases c <;> cases d <;> cases e <;> cases f <;> cases g <;> simp
set_option maxHeartbeats 4000000 in
theorem rpress33 {p : Prs} {A : PrsA} {w : World} (hP : IsPrs w p A) (hS : p.Small) :
    Calls Try.prog 33 #[p.v A] w fun e w' => e = .returned (.bool p.valid) ∧ Below w.heap.size w w' := by
  have hb0 : Below w.heap.size w (w.alloc (.cells (p.arr A) 27)) := (Below.refl _ w).alloc (Nat.le_refl _) _
  have q0 := World.alloc_heap_new w (.cells (p.arr A) 27)
  have HX := Lib.hid (And.intro q0 (And.intro hb0 (hP.mono hb0)))
  have HS := Lib.hid hS
  have hwl : p.wanted.length ≤ 20 := hS.wanted
  have hdl : p.deals.length ≤ 60 := hS.deals
  clear hb0 q0 hP hS
  have HV := Lib.hid (valid_ref p)
  go_enter Try.func33, Try.ntmps33
  refine wp_seq_hid ?_
  intro K0 HK0
  go_wp2_with fail
  refine HK0.out _ _ ?_
  clear HK0 K0
  revert HX
  generalize w.alloc (.cells (p.arr A) 27) = w1
  generalize w.heap.size = bp
  intro HX
  have HPC := Lib.hid (prs_cells HX.out.1)
  obtain ⟨m0, m1, m2, m3, m4, m5, m6, m7, m8, m9⟩ := HPC.out
  obtain ⟨r1, hr1⟩ : ∃ r, inR p.room 1 6 = r := ⟨_, rfl⟩
  obtain ⟨r2, hr2⟩ : ∃ r, inR p.formes 1 2 = r := ⟨_, rfl⟩
  obtain ⟨r3, hr3⟩ : ∃ r, inR (p.wanted.length : Int) 1 4 = r := ⟨_, rfl⟩
  obtain ⟨e8, he8⟩ : ∃ r, p.spoilOk = r := ⟨_, rfl⟩
  have C1 := in_any p.room 1 6 w1
  have C2 := in_any p.formes 1 2 w1
  have C3 := in_any (p.wanted.length : Int) 1 4 w1
  rw [hr1] at C1
  rw [hr2] at C2
  rw [hr3] at C3
  rw [hr1, hr2, hr3, he8] at HV
  have h8 : (decide (0 ≤ p.slo) && decide (p.slo ≤ p.shi) && decide (p.shi ≤ 50)) = e8 := he8
  have H1 := Lib.hid C1
  have H2 := Lib.hid C2
  have H3 := Lib.hid C3
  have H8 : Hid (∀ q, (decide (0 ≤ p.slo) && decide (p.slo ≤ p.shi) && decide (p.shi ≤ 50)) = q → e8 = q) := fun q h => by rw [← h8]; exact h
  clear C1 C2 C3 hr1 hr2 hr3 he8 h8
  refine wp_seq_hid ?_
  intro K1 HK1
  cases r1
  case false =>
    go_wp2_with (go_at_call 61; first | ((with_reducible refine H1.out.mono ?_); rintro e w' ⟨rfl, rfl⟩) | ((with_reducible refine H2.out.mono ?_); rintro e w' ⟨rfl, rfl⟩) | ((with_reducible refine H3.out.mono ?_); rintro e w' ⟨rfl, rfl⟩))
    all_goals first
      | (refine ⟨fun _ _ => trivial, ?_⟩; go_wp2_with fail)
      | skip
    go_ret
    exact ⟨ret_bool (by rw [HV.out]; rfl), HX.out.2.1⟩
  cases r2
  case false =>
    go_wp2_with (go_at_call 61; first | ((with_reducible refine H1.out.mono ?_); rintro e w' ⟨rfl, rfl⟩) | ((with_reducible refine H2.out.mono ?_); rintro e w' ⟨rfl, rfl⟩) | ((with_reducible refine H3.out.mono ?_); rintro e w' ⟨rfl, rfl⟩))
    all_goals first
      | (refine ⟨fun _ _ => trivial, ?_⟩; go_wp2_with fail)
      | skip
    go_ret
    exact ⟨ret_bool (by rw [HV.out]; rfl), HX.out.2.1⟩
  rcases bool_and3 (decide (0 ≤ p.slo)) (decide (p.slo ≤ p.shi)) (decide (p.shi ≤ 50)) with h | ⟨h, h2⟩ | ⟨h, h2, h3⟩ | ⟨h, h2, h3⟩
  case inr.inr.inr =>
    have h9 := H8.out true (by rw [h, h2, h3]; rfl)
    subst h9
    have HSP := Lib.hid (And.intro h (And.intro h2 h3))
    cases r3
    case false =>
      clear HSP
      go_wp2_with (go_at_call 61; first | ((with_reducible refine H1.out.mono ?_); rintro e w' ⟨rfl, rfl⟩) | ((with_reducible refine H2.out.mono ?_); rintro e w' ⟨rfl, rfl⟩) | ((with_reducible refine H3.out.mono ?_); rintro e w' ⟨rfl, rfl⟩))
      all_goals first
        | (refine ⟨fun _ _ => trivial, ?_⟩; go_wp2_with fail)
        | skip
      go_ret
      exact ⟨ret_bool (by rw [HV.out]; rfl), HX.out.2.1⟩
    go_wp2_with (go_at_call 61; first | ((with_reducible refine H1.out.mono ?_); rintro e w' ⟨rfl, rfl⟩) | ((with_reducible refine H2.out.mono ?_); rintro e w' ⟨rfl, rfl⟩) | ((with_reducible refine H3.out.mono ?_); rintro e w' ⟨rfl, rfl⟩))
    refine HK1.out _ _ ?_
    clear HK1 K1 H1 H2 H3 H8 h h2 h3 m0 m1 m2 m3 m4 m5 m7 m8 m9
    refine wp_seq_hid ?_
    intro K3 HK3
    go_wp2_with fail
    go_loop [3] (fun i => ∃ k : Nat, k ≤ p.wanted.length ∧ i = .int .i64 k ∧ Hid (∀ x ∈ p.wanted.take k, inR x 0 60 = true)) (fun i => p.wanted.length - (intOf i).toNat)
    case atStart => exact ⟨0, by omega, rfl, fun x hx => by simp at hx⟩
    case round =>
      obtain ⟨k, hk, rfl, HR⟩ := hrel
      by_cases hlt : k < p.wanted.length
      · obtain ⟨b, off, hab, hcell⟩ := HX.out.2.2.wanted k hlt
        rw [hab] at m6
        have HTK : Hid (p.wanted.take (k + 1) = p.wanted.take k ++ [gi p.wanted k]) := by
          rw [Hid, List.take_succ_eq_append_getElem hlt]
          simp [gi, hlt]
        have HIN : Hid (gi p.wanted k ∈ p.wanted) := by simp [Hid, gi, hlt]
        revert hcell HTK HIN
        generalize gi p.wanted k = x
        intro hcell HTK HIN
        have HC := in_any x 0 60 w1
        cases hx : inR x 0 60
        · have HX2 := Lib.hid hx
          rw [hx] at HC
          have HCH := Lib.hid HC
          clear hx HC hab
          go_wp2_with fail
          refine HCH.out.mono ?_
          rintro e w' ⟨rfl, rfl⟩
          go_wp2_with fail
          go_ret
          have e : p.wanted.all (fun n => inR n 0 60) = false := by
            rw [List.all_eq_false]
            exact ⟨x, HIN.out, by rw [HX2.out]; decide⟩
          exact ⟨ret_bool (by rw [HV.out, e]; simp), HX.out.2.1⟩
        · have HX2 := Lib.hid hx
          rw [hx] at HC
          have HCH := Lib.hid HC
          clear hx HC hab
          go_wp2_with fail
          refine HCH.out.mono ?_
          rintro e w' ⟨rfl, rfl⟩
          go_wp2_with fail
          go_round
          case rel => exact ⟨k + 1, by omega, by go_num, fun y hy => by
            rw [HTK.out, List.mem_append] at hy
            rcases hy with hy | hy
            · exact HR.out y hy
            · rw [List.mem_singleton] at hy; rw [hy]; exact HX2.out⟩
          case measure => simp [intOf]; omega
      · have HW : Hid (p.wanted.all (fun n => inR n 0 60) = true) := by
          rw [Hid, List.all_eq_true]
          intro x hx
          exact HR.out x (by rw [List.take_of_length_le (by omega)]; exact hx)
        go_wp2_with fail
        refine HK3.out _ _ ?_
        clear HR m6
        have m9 := HPC.out.c9
        refine wp_seq_hid ?_
        intro K4 HK4
        go_wp2_with fail
        go_loopw [4] (fun i wr => ∃ k : Nat, k ≤ p.deals.length ∧ i = .int .i64 k ∧ Hid (∀ x ∈ p.deals.take k, dealOk p x = true) ∧ Hid (Below w1.heap.size w1 wr)) (fun i _ => p.deals.length - (intOf i).toNat)
        case atStart => exact ⟨0, by omega, rfl, fun x hx => by simp at hx, Below.refl _ _⟩
        case round =>
          obtain ⟨k, hk, rfl, HR, HB⟩ := hrel
          have HPD := Lib.hid (HPC.out.mono HB.out)
          obtain ⟨m0, m1, m2, m3, m4, m5, m6, m7, m8, m9⟩ := HPD.out
          by_cases hlt : k < p.deals.length
          · obtain ⟨b, off, hab, ai, ci, c0, c1, c2, c3, c4, c5, c6⟩ := (HX.out.2.2.deals.mono HB.out) k hlt
            rw [hab] at m9
            have HTK : Hid (p.deals.take (k + 1) = p.deals.take k ++ [gd p.deals k]) := by
              rw [Hid, List.take_succ_eq_append_getElem hlt]
              simp [gd, hlt]
            have hin : gd p.deals k ∈ p.deals := by simp [gd, hlt]
            have HIN := Lib.hid hin
            have HSL := Lib.hid (HS.out.slots _ hin)
            clear hin
            have HF := Lib.hid c6
            clear c6
            revert c0 c1 c2 c3 c4 c5 HTK HIN HSL HF
            generalize gd p.deals k = x
            intro c0 c1 c2 c3 c4 c5 HTK HIN HSL HF
            have hA : A.ad = some ⟨b, off, none⟩ := hab
            have y0 := fun y : Aft wr.heap.size wr => cell_stays y.h m0
            have y1 := fun y : Aft wr.heap.size wr => cell_stays y.h m1
            have y2 := fun y : Aft wr.heap.size wr => cell_stays y.h m2
            have y3 := fun y : Aft wr.heap.size wr => cell_stays y.h m3
            have y4 := fun y : Aft wr.heap.size wr => cell_stays y.h m4
            have y5 := fun y : Aft wr.heap.size wr => cell_stays y.h m5
            have y6 := fun y : Aft wr.heap.size wr => cell_stays y.h m6
            have y7 := fun y : Aft wr.heap.size wr => cell_stays y.h m7
            have y8 := fun y : Aft wr.heap.size wr => cell_stays y.h m8
            have y9 := fun y : Aft wr.heap.size wr => cell_stays y.h m9
            have z0 := fun y : Aft wr.heap.size wr => cell_stays y.h c0
            have z1 := fun y : Aft wr.heap.size wr => cell_stays y.h c1
            have z2 := fun y : Aft wr.heap.size wr => cell_stays y.h c2
            have z3 := fun y : Aft wr.heap.size wr => cell_stays y.h c3
            have z4 := fun y : Aft wr.heap.size wr => cell_stays y.h c4
            have z5 := fun y : Aft wr.heap.size wr => cell_stays y.h c5
            have HC : Hid (∀ y : Aft wr.heap.size wr, Calls Try.prog 65 #[.agg #[.int .i64 p.room, .int .i64 p.formes, .int .i64 p.slo, .int .i64 p.shi, .int .i64 p.make, .int .i64 p.sheet, .slice A.aw p.wanted.length A.cw, .int .i64 p.paper, .int .i64 p.money, .slice (some ⟨b, off, none⟩) p.deals.length A.cd], x.v ai ci] y.v fun e w' => e = .returned (.bool (dealOk p x)) ∧ Below y.v.heap.size y.v w') := fun y => by
              have := rdeal65 (p := p) (A := A) (c := ci) (HF.out.mono y.h) (by have := HSL.out; omega) (by omega)
              have e : p.v A = .agg #[.int .i64 p.room, .int .i64 p.formes, .int .i64 p.slo, .int .i64 p.shi, .int .i64 p.make, .int .i64 p.sheet, .slice A.aw p.wanted.length A.cw, .int .i64 p.paper, .int .i64 p.money, .slice (some ⟨b, off, none⟩) p.deals.length A.cd] := by rw [← hA]
              rw [e] at this
              exact this
            clear m0 m1 m2 m3 m4 m5 m6 m7 m8 c0 c1 c2 c3 c4 c5 hab hA
            cases hx : dealOk p x
            all_goals
              have HX2 := Lib.hid hx
              rw [hx] at HC
              clear hx
              go_upto_region 11 with fail
              refine wp_region_aft mixed (by kernel_rfl) ?_
              repeat (go_big_quiet_step ((go_at_call 65; exact calls_aft (HC.out _))))
              refine wpQuiet_nil ?_
              rintro _ ⟨y, rfl⟩
              have HB2 := Lib.hid (HB.out.trans (y.h.mono HB.out.size))
              clear y0 y1 y2 y3 y4 y5 y6 y7 y8 y9 z0 z1 z2 z3 z4 z5
              go_wp2_with fail
            · go_ret
              have e : p.deals.all (dealOk p) = false := by
                rw [List.all_eq_false]
                exact ⟨x, HIN.out, by rw [HX2.out]; decide⟩
              exact ⟨ret_bool (by rw [HV.out, e]; simp), HX.out.2.1.trans (HB2.out.mono (Nat.le_of_lt (heap_lt HX.out.1)))⟩
            · go_roundw
              case rel => exact ⟨k + 1, by omega, by go_num, fun y hy => by
                rw [HTK.out, List.mem_append] at hy
                rcases hy with hy | hy
                · exact HR.out y hy
                · rw [List.mem_singleton] at hy; rw [hy]; exact HX2.out, HB2.out⟩
              case measure => simp [intOf]; omega
          · have HD : Hid (p.deals.all (dealOk p) = true) := by
              rw [Hid, List.all_eq_true]
              intro x hx
              exact HR.out x (by rw [List.take_of_length_le (by omega)]; exact hx)
            go_wp2_with fail
            refine HK4.out _ _ ?_
            clear HR
            obtain ⟨q1, hq1⟩ : ∃ r, inR p.make 0 1099511627776 = r := ⟨_, rfl⟩
            obtain ⟨q2, hq2⟩ : ∃ r, inR p.sheet 0 1099511627776 = r := ⟨_, rfl⟩
            obtain ⟨q3, hq3⟩ : ∃ r, inR p.paper 0 1099511627776 = r := ⟨_, rfl⟩
            obtain ⟨q4, hq4⟩ : ∃ r, inR p.money 0 1099511627776 = r := ⟨_, rfl⟩
            obtain ⟨q5, hq5⟩ : ∃ r, decide ((p.deals.length : Int) ≤ 20) = r := ⟨_, rfl⟩
            have C1 := in_any p.make 0 1099511627776 wr
            have C2 := in_any p.sheet 0 1099511627776 wr
            have C3 := in_any p.paper 0 1099511627776 wr
            have C4 := in_any p.money 0 1099511627776 wr
            rw [hq1] at C1
            rw [hq2] at C2
            rw [hq3] at C3
            rw [hq4] at C4
            have hv := HV.out
            rw [HW.out, HD.out, hq1, hq2, hq3, hq4, hq5] at hv
            have HV2 := Lib.hid hv
            have H1 := Lib.hid C1
            have H2 := Lib.hid C2
            have H3 := Lib.hid C3
            have H4 := Lib.hid C4
            clear C1 C2 C3 C4 hq1 hq2 hq3 hq4 hv
            rcases bool_and5 q1 q2 q3 q4 q5 with rfl | ⟨rfl, rfl⟩ | ⟨rfl, rfl, rfl⟩ | ⟨rfl, rfl, rfl, rfl⟩ | ⟨rfl, rfl, rfl, rfl, rfl⟩ | ⟨rfl, rfl, rfl, rfl, rfl⟩
            all_goals
              go_wp2_with (go_at_call 61; first | ((with_reducible refine H1.out.mono ?_); rintro e w' ⟨rfl, rfl⟩) | ((with_reducible refine H2.out.mono ?_); rintro e w' ⟨rfl, rfl⟩) | ((with_reducible refine H3.out.mono ?_); rintro e w' ⟨rfl, rfl⟩) | ((with_reducible refine H4.out.mono ?_); rintro e w' ⟨rfl, rfl⟩))
              all_goals first
                | (refine ⟨fun _ _ => trivial, ?_⟩; go_wp2_with fail)
                | skip
              go_ret
              exact ⟨ret_bool (by rw [HV2.out]; simp), HX.out.2.1.trans (HB.out.mono (Nat.le_of_lt (heap_lt HX.out.1)))⟩
  all_goals
    have h9 := H8.out false (by first | (rw [h]; rfl) | (rw [h, h2]; rfl) | (rw [h, h2, h3]; rfl))
    subst h9
    go_wp2_with (go_at_call 61; first | ((with_reducible refine H1.out.mono ?_); rintro e w' ⟨rfl, rfl⟩) | ((with_reducible refine H2.out.mono ?_); rintro e w' ⟨rfl, rfl⟩) | ((with_reducible refine H3.out.mono ?_); rintro e w' ⟨rfl, rfl⟩))
    all_goals first
      | (refine ⟨fun _ _ => trivial, ?_⟩; go_wp2_with fail)
      | skip
    go_ret
    exact ⟨ret_bool (by rw [HV.out]; simp), HX.out.2.1⟩
end Go.Proofs.Ytjkhclijmcmdjaa
namespace Go.Proofs.Ytjkhclijmcmdjaa
open Go.RowKit
set_option linter.unusedVariables false
set_option linter.unusedSimpArgs false
set_option maxHeartbeats 1000000 in
theorem bad73 {p : Prs} {A : PrsA} {f : Fme} {a : Option Addr} {c b2 bp : Nat} {w : World} (hP : IsPress w p A bp) (hc : w.cell? ⟨b2, 0, none⟩ = some (.pointer (some ⟨bp, 0, none⟩))) (hf : IsInts w a f.slots) (hl : f.slots.length ≤ 1000) :
    Calls Try.prog 73 #[f.v a c, .pointer (some ⟨b2, 0, none⟩)] w fun e w' => e = .returned (.bool (!fmeOk p f)) ∧ Below w.heap.size w w' := by
  have hb0 : Below w.heap.size w (w.alloc (.cells (f.arr a c) 29)) := (Below.refl _ w).alloc (Nat.le_refl _) _
  have q0 := World.alloc_heap_new w (.cells (f.arr a c) 29)
  have HX := Lib.hid (And.intro q0 (And.intro hb0 (And.intro (hP.mono hb0) (And.intro (cell_stays hb0 hc) (hf.mono hb0)))))
  clear hb0 q0 hP hc hf
  go_enter Try.func73, Try.ntmps73
  refine wp_seq_hid ?_
  intro K0 HK0
  go_wp2_with fail
  refine HK0.out _ _ ?_
  clear HK0 K0
  revert HX
  generalize w.alloc (.cells (f.arr a c) 29) = w1
  generalize w.heap.size = bf
  intro HX
  obtain ⟨m0, m1, m2, m3, m4, m5, m6, m7, m8, m9⟩ := HX.out.2.2.1.c
  have x0 : w1.cell? ⟨bf, 0, none⟩ = some (.slice a f.slots.length c) := by rw [cell_of_heap HX.out.1]; rfl
  have x1 : w1.cell? ⟨bf, 1, none⟩ = some (.int .i64 f.times) := by rw [cell_of_heap HX.out.1]; rfl
  have x2 := HX.out.2.2.2.1
  have y0 := fun y : Aft w1.heap.size w1 => cell_stays y.h m0
  have y1 := fun y : Aft w1.heap.size w1 => cell_stays y.h m1
  have y2 := fun y : Aft w1.heap.size w1 => cell_stays y.h m2
  have y3 := fun y : Aft w1.heap.size w1 => cell_stays y.h m3
  have y4 := fun y : Aft w1.heap.size w1 => cell_stays y.h m4
  have y5 := fun y : Aft w1.heap.size w1 => cell_stays y.h m5
  have y6 := fun y : Aft w1.heap.size w1 => cell_stays y.h m6
  have y7 := fun y : Aft w1.heap.size w1 => cell_stays y.h m7
  have y8 := fun y : Aft w1.heap.size w1 => cell_stays y.h m8
  have y9 := fun y : Aft w1.heap.size w1 => cell_stays y.h m9
  have z0 := fun y : Aft w1.heap.size w1 => cell_stays y.h x0
  have z1 := fun y : Aft w1.heap.size w1 => cell_stays y.h x1
  have z2 := fun y : Aft w1.heap.size w1 => cell_stays y.h x2
  have HC := Lib.hid (fun y : Aft w1.heap.size w1 => isForme44 (p := p) (A := A) (c := c) (HX.out.2.2.2.2.mono y.h) hl)
  clear m0 m1 m2 m3 m4 m5 m6 m7 m8 m9 x0 x1 x2
  refine wp_seq_hid ?_
  intro K1 HK1
  refine wp_region_aft mixed (by kernel_rfl) ?_
  repeat (go_big_quiet_step ((go_at_call 44; exact calls_aft (HC.out _))))
  refine wpQuiet_nil ?_
  rintro _ ⟨y, rfl⟩
  refine HK1.out _ _ ?_
  have HB := Lib.hid (HX.out.2.1.trans (y.h.mono (Nat.le_of_lt (heap_lt HX.out.1))))
  clear y0 y1 y2 y3 y4 y5 y6 y7 y8 y9 z0 z1 z2
  go_wp2_with fail
  go_ret
  exact ⟨rfl, HB.out⟩
set_option maxHeartbeats 1000000 in
theorem index96 {p : Prs} {A : PrsA} {l : List Fme} {a : Option Addr} {c b2 bp : Nat} {w : World} (hP : IsPress w p A bp) (hc : w.cell? ⟨b2, 0, none⟩ = some (.pointer (some ⟨bp, 0, none⟩))) (ha : IsFmes w a l) (hl : l.length ≤ 1000) (hs : ∀ f ∈ l, f.slots.length ≤ 1000) :
    Calls Try.prog 96 #[.slice a l.length c, .func (.func 73) #[] #[.pointer (some ⟨b2, 0, none⟩)]] w fun e w' => e = .returned (.int .i64 (idxL (fun f => !fmeOk p f) l 0)) ∧ Below w.heap.size w w' := by
  have HB := Lib.hid (And.intro hP (And.intro hc ha))
  have HS := Lib.hid hs
  have cf73 : ∀ (args : Array Value) (w : World), (callFunc 73 args).run Try.prog w = .ok (.enter 73 args) w := fun args w => by simp [callFunc, Try.func73, Try.f73, go_sem]
  clear hP hc ha hs
  go_enter Try.func96, Try.ntmps96
  go_wp2_with fail
  go_loopw [8] (fun i wr => ∃ k : Nat, k ≤ l.length ∧ i = .int .i64 k ∧ Hid (idxL (fun f => !fmeOk p f) l 0 = idxL (fun f => !fmeOk p f) (l.drop k) k) ∧ Hid (Below w.heap.size w wr)) (fun i _ => l.length - (intOf i).toNat)
  case atStart => exact ⟨0, by omega, rfl, rfl, Below.refl _ _⟩
  case round =>
    obtain ⟨k, hk, rfl, HK, HW⟩ := hrel
    by_cases hlt : k < l.length
    · obtain ⟨b, off, hab, ai, ci, c0, c1, c6⟩ := (HB.out.2.2.mono HW.out) k hlt
      subst hab
      have hd := idxL_drop (P := fun f => !fmeOk p f) hlt
      have hgk : gf l k = l[k] := by simp [gf, hlt]
      have hmem : gf l k ∈ l := by rw [hgk]; simp
      rw [← hgk] at hd
      have HC := Lib.hid (bad73 (c := ci) (HB.out.1.mono HW.out) (cell_stays HW.out HB.out.2.1) c6 (HS.out _ hmem))
      revert hd HC c0 c1
      clear hgk hmem c6
      generalize gf l k = x
      intro c0 c1 hd HC
      cases hP : fmeOk p x
      · rw [hP] at hd HC
        have HD := Lib.hid hd
        clear hd hP
        go_wp2_with fail
        refine HC.out.mono ?_
        rintro e w' ⟨rfl, hb⟩
        have HB2 := Lib.hid (HW.out.trans (hb.mono HW.out.size))
        clear hb c0 c1
        go_wp2_with fail
        go_ret
        exact ⟨ret_int (by rw [HK.out, HD.out]; rfl), HB2.out⟩
      · rw [hP] at hd HC
        have HD := Lib.hid hd
        clear hd hP
        go_wp2_with fail
        refine HC.out.mono ?_
        rintro e w' ⟨rfl, hb⟩
        have HB2 := Lib.hid (HW.out.trans (hb.mono HW.out.size))
        clear hb c0 c1
        go_wp2_with fail
        go_roundw
        case rel => exact ⟨k + 1, by omega, by go_num, by rw [Hid, HK.out, HD.out]; rfl, HB2.out⟩
        case measure => simp [intOf]; omega
    · have hke : l.drop k = [] := List.drop_eq_nil_of_le (by omega)
      have HK2 : Hid (idxL (fun f => !fmeOk p f) l 0 = -1) := by rw [Hid, HK.out, hke]; rfl
      clear hke
      go_wp2_with fail
      go_ret
      exact ⟨ret_int HK2.out.symm, HW.out⟩
theorem has74 {p : Prs} {A : PrsA} {l : List Fme} {a : Option Addr} {c b2 bp : Nat} {w : World} (hP : IsPress w p A bp) (hc : w.cell? ⟨b2, 0, none⟩ = some (.pointer (some ⟨bp, 0, none⟩))) (ha : IsFmes w a l) (hl : l.length ≤ 1000) (hs : ∀ f ∈ l, f.slots.length ≤ 1000) :
    Calls Try.prog 74 #[.slice a l.length c, .func (.func 73) #[] #[.pointer (some ⟨b2, 0, none⟩)]] w fun e w' => e = .returned (.bool (l.any fun f => !fmeOk p f)) ∧ Below w.heap.size w w' := by
  have HI := Lib.hid (idxL_any (fun f => !fmeOk p f) l 0)
  have HC := Lib.hid (index96 (c := c) hP hc ha hl hs)
  clear hP hc ha hs
  go_enter Try.func74, Try.ntmps74
  go_wp2_with fail
  refine HC.out.mono ?_
  rintro e w' ⟨rfl, hb⟩
  have HB2 := Lib.hid hb
  clear hb
  go_wp2_with fail
  go_ret
  exact ⟨ret_bool HI.out, HB2.out⟩
theorem anyF_not {l : List Fme} {P : Fme → Bool} : l.any (fun n => !P n) = !l.all P := by
  induction l with
  | nil => rfl
  | cons x r ih => simp only [List.any_cons, List.all_cons, ih, Bool.not_and]
/-- How the question ends whether a list is a plan. -/
def PlanE (q : Bool) (e : Ending) : Prop := if q then e = .returned (.tuple #[]) else e = .panicked [{ v := .iface 103 (.agg #[.int .i64 2]), recovered := false }]
set_option maxHeartbeats 1000000 in
theorem isPlan49 {p : Prs} {A : PrsA} {l : List Fme} {a : Option Addr} {c bp : Nat} {w : World} (hP : IsPress w p A bp) (ha : IsFmes w a l) (hl : l.length ≤ 1000) (hs : ∀ f ∈ l, f.slots.length ≤ 1000) :
    Calls Try.prog 49 #[.pointer (some ⟨bp, 0, none⟩), .slice a l.length c] w fun e w' => PlanE (planOk p l) e ∧ Below w.heap.size w w' := by
  have hb0 : Below w.heap.size w (w.alloc (.cells #[.pointer (some ⟨bp, 0, none⟩)] 71)) := (Below.refl _ w).alloc (Nat.le_refl _) _
  have q0 := World.alloc_heap_new w (.cells #[.pointer (some ⟨bp, 0, none⟩)] 71)
  have HX := Lib.hid (And.intro q0 (And.intro hb0 (And.intro (hP.mono hb0) (ha.mono hb0))))
  have hmf : ∀ (fn : Fn) (first cap : Array Value) (w : World), (Instr.makeFunc fn first cap).run Try.prog w = .ok (.func fn first cap) w := fun _ _ _ _ => rfl
  have HS := Lib.hid hs
  have HOK : Hid (planOk p l = (decide ((l.length : Int) ≤ p.formes) && !(l.any fun f => !fmeOk p f))) := by
    show planOk p l = _
    rw [anyF_not, Bool.not_not]; rfl
  clear hb0 q0 hP ha hs
  go_enter Try.func49, Try.ntmps49
  refine wp_seq_hid ?_
  intro K0 HK0
  go_wp2_with fail
  refine HK0.out _ _ ?_
  clear HK0 K0
  revert HX
  generalize w.alloc (.cells #[.pointer (some ⟨bp, 0, none⟩)] 71) = w1
  generalize w.heap.size = b2
  intro HX
  have x2 : w1.cell? ⟨b2, 0, none⟩ = some (.pointer (some ⟨bp, 0, none⟩)) := by rw [cell_of_heap HX.out.1]; rfl
  have HC := Lib.hid (has74 (c := c) HX.out.2.2.1 x2 HX.out.2.2.2 hl HS.out)
  obtain ⟨m0, m1, m2, m3, m4, m5, m6, m7, m8, m9⟩ := HX.out.2.2.1.c
  refine wp_seq_hid ?_
  intro K1 HK1
  go_wp2_with fail
  refine HK1.out _ _ ?_
  clear HK1 K1
  obtain ⟨e1, he1⟩ : ∃ e, decide ((l.length : Int) ≤ p.formes) = e := ⟨_, rfl⟩
  obtain ⟨e2, he2⟩ : ∃ e, l.any (fun f => !fmeOk p f) = e := ⟨_, rfl⟩
  have hok := HOK.out
  rw [he1, he2] at hok
  rw [he2] at HC
  have HOK2 := Lib.hid hok
  clear hok he2 HOK
  cases e1
  case false =>
    go_wp2_with fail
    all_goals first
      | (refine ⟨fun _ _ => trivial, ?_⟩; go_wp2_with fail)
      | skip
    refine (need_no _ _).mono ?_
    rintro e w3 ⟨rfl, rfl⟩
    go_wp2_with fail
    exact ⟨rfl, by rw [HOK2.out]; rfl, HX.out.2.1⟩
  cases e2
  case true =>
    go_wp2_with fail
    refine HC.out.mono ?_
    rintro e w2 ⟨rfl, hb⟩
    have HB := Lib.hid (HX.out.2.1.trans (hb.mono (Nat.le_of_lt (heap_lt HX.out.1))))
    clear hb m0 m1 m2 m3 m4 m5 m6 m7 m8 m9 x2
    go_wp2_with fail
    refine (need_no _ _).mono ?_
    rintro e w3 ⟨rfl, rfl⟩
    go_wp2_with fail
    exact ⟨rfl, by rw [HOK2.out]; rfl, HB.out⟩
  go_wp2_with fail
  refine HC.out.mono ?_
  rintro e w2 ⟨rfl, hb⟩
  have HB := Lib.hid (HX.out.2.1.trans (hb.mono (Nat.le_of_lt (heap_lt HX.out.1))))
  clear hb m0 m1 m2 m3 m4 m5 m6 m7 m8 m9 x2
  go_wp2_with fail
  refine (need_yes _ _).mono ?_
  rintro e w3 ⟨rfl, rfl⟩
  go_wp2_with fail
  go_end0
  exact ⟨by rw [HOK2.out]; rfl, HB.out⟩
end Go.Proofs.Ytjkhclijmcmdjaa
namespace Go.Proofs.Ytjkhclijmcmdjaa
open Go.RowKit
set_option linter.unusedVariables false
set_option linter.unusedSimpArgs false
/-- A plan of few formes, of a press whose prices are within bounds. -/
structure CostR (p : Prs) (l : List Fme) : Prop where
  make : 0 ≤ p.make ∧ p.make ≤ 1099511627776
  sheet : 0 ≤ p.sheet ∧ p.sheet ≤ 1099511627776
  len : l.length ≤ 2
  times : ∀ f ∈ l, 0 ≤ f.times ∧ f.times ≤ 1048576
theorem cost_take {p : Prs} {l : List Fme} {k : Nat} (h : k < l.length) : p.cost (l.take (k + 1)) = p.cost (l.take k) + (p.make + p.sheet * (gf l k).times) := by
  unfold Prs.cost
  rw [List.take_succ_eq_append_getElem h, List.map_append, sumL_append]
  simp [sumL, gf, h]
theorem CostR.one {p : Prs} {l : List Fme} (C : CostR p l) {k : Nat} (hk : k < l.length) : (0 ≤ (gf l k).times ∧ (gf l k).times ≤ 1048576) ∧ 0 ≤ p.sheet * (gf l k).times ∧ p.sheet * (gf l k).times ≤ 1099511627776 * 1048576 := by
  have h := C.times (gf l k) (by simp [gf, hk])
  exact ⟨h, mul_bd C.sheet.1 C.sheet.2 h.1 h.2⟩
theorem CostR.part {p : Prs} {l : List Fme} (C : CostR p l) : ∀ k, k ≤ l.length → 0 ≤ p.cost (l.take k) ∧ p.cost (l.take k) ≤ k * (1099511627776 + 1099511627776 * 1048576)
  | 0, _ => by simp [Prs.cost, sumL]
  | k + 1, hk => by
    have h1 := C.part k (by omega)
    have h2 := C.one (k := k) (by omega)
    have h3 := C.make
    rw [cost_take (by omega)]
    omega
theorem ints_of3 {w : World} {b : Nat} {x y z : Int} (h : w.heap[b]? = some (.cells #[.int .i64 x, .int .i64 y, .int .i64 z] 3 (0, 0))) : IsInts w (some ⟨b, 0, none⟩) [x, y, z] := by
  intro i hi
  refine ⟨b, 0, rfl, ?_⟩
  rw [Nat.zero_add, cell_of_heap h]
  match i, hi with
  | 0, _ => rfl
  | 1, _ => rfl
  | 2, _ => rfl
set_option maxHeartbeats 2000000 in
theorem cost51 {p : Prs} {A : PrsA} {l : List Fme} {a : Option Addr} {c bp : Nat} {w : World} (hP : IsPress w p A bp) (ha : IsFmes w a l) (C : CostR p l) :
    Calls Try.prog 51 #[.pointer (some ⟨bp, 0, none⟩), .slice a l.length c] w fun e w' => e = .returned (.int .i64 (p.cost l)) ∧ Below w.heap.size w w' := by
  have HP := Lib.hid (And.intro hP ha)
  have HC := Lib.hid C
  have hl := C.len
  obtain ⟨mk0, mk1⟩ := C.make
  clear hP ha C
  go_enter Try.func51, Try.ntmps51
  go_wp2_with fail
  go_loopw [4, 9] (fun n i wr => ∃ k : Nat, k ≤ l.length ∧ i = .int .i64 k ∧ n = .int .i64 (p.cost (l.take k)) ∧ Hid (Below w.heap.size w wr)) (fun _ i _ => l.length - (intOf i).toNat)
  case atStart => exact ⟨0, by omega, rfl, rfl, Below.refl _ _⟩
  case round =>
    obtain ⟨k, hk, rfl, rfl, HW⟩ := hrel
    by_cases hlt : k < l.length
    · obtain ⟨b, off, hab, ai, ci, c0, c1, c6⟩ := (HP.out.2.mono HW.out) k hlt
      subst hab
      have h1 := HC.out.part k hk
      obtain ⟨h2, h3, h4⟩ := HC.out.one hlt
      have HT := Lib.hid (cost_take (p := p) hlt)
      clear c6
      revert HT h1 h2 h3 h4 c0 c1
      generalize p.cost (l.take k) = n
      generalize gf l k = f
      intro c0 c1 h1 h2 h3 h4 HT
      go_upto_region 4 with fail
      have hb1 : Below wr.heap.size wr (wr.alloc (.cells (f.arr ai ci) 29)) := (Below.refl _ _).alloc (Nat.le_refl _) _
      have q1 := World.alloc_heap_new wr (.cells (f.arr ai ci) 29)
      have HB1 := Lib.hid (And.intro q1 (And.intro hb1 ((HP.out.1.mono HW.out).mono hb1)))
      clear hb1 q1 c0 c1
      revert HB1
      generalize (wr.alloc (.cells (f.arr ai ci) 29)) = w1
      generalize hbf : wr.heap.size = bf
      intro HB1
      have pc := HB1.out.2.2.c
      have x1 : w1.cell? ⟨bf, 1, none⟩ = some (.int .i64 f.times) := by rw [cell_of_heap HB1.out.1]; rfl
      have y4 := fun y : Aft w1.heap.size w1 => cell_stays y.h pc.c4
      have y5 := fun y : Aft w1.heap.size w1 => cell_stays y.h pc.c5
      have z1 := fun y : Aft w1.heap.size w1 => cell_stays y.h x1
      have HBF := Lib.hid hbf
      clear pc x1 hbf
      obtain ⟨z, hz⟩ : ∃ z, p.sheet * f.times = z := ⟨_, rfl⟩
      rw [hz] at h3 h4
      have v1 : IntKind.i64.wrap (p.sheet * f.times) = z := by rw [hz]; exact IntWalk.i64_in _ (by omega)
      have HZ := Lib.hid hz
      clear hz
      refine wp_region_aft_tail 14 mixed (by kernel_rfl) ?_
      simp only [List.take_succ_cons, List.take_zero, List.drop_succ_cons, List.drop_zero]
      repeat (go_big_quiet_step (fail))
      refine wpQuiet_nil ?_
      rintro _ ⟨y, rfl⟩
      have hyb : Below y.v.heap.size y.v (y.v.alloc (.cells #[.int .i64 n, .int .i64 p.make, .int .i64 z] 3)) := (Below.refl _ _).alloc (Nat.le_refl _) _
      have HN : Hid (Calls Try.prog 69 #[.slice (some ⟨y.v.heap.size, 0, none⟩) 3 3] (y.v.alloc (.cells #[.int .i64 n, .int .i64 p.make, .int .i64 z] 3)) fun e w' => e = .returned (.int .i64 (n + (p.make + (z + 0)))) ∧ (y.v.alloc (.cells #[.int .i64 n, .int .i64 p.make, .int .i64 z] 3)) = w') := by
        exact sum69 (l := [n, p.make, z]) (c := 3) (ints_of3 (World.alloc_heap_new y.v (.cells #[.int .i64 n, .int .i64 p.make, .int .i64 z] 3))) (by simp) (m := 9223372036854775807) (fun x hx => by
          simp at hx
          omega) (by simp [sumL]; omega)
      have hsw := HW.out.size
      have HB2 : Hid (Below w.heap.size w (y.v.alloc (.cells #[.int .i64 n, .int .i64 p.make, .int .i64 z] 3))) := by
        have hs1 := HB1.out.2.1.size
        have e1 : Below wr.heap.size wr w1 := by rw [HBF.out]; exact HB1.out.2.1
        have e2 : Below wr.heap.size wr y.v := e1.trans (y.h.mono e1.size)
        have e3 := e2.trans (hyb.mono e2.size)
        exact HW.out.trans (e3.mono hsw)
      clear y4 y5 z1 hyb hsw v1
      go_wp2_with fail
      refine HN.out.mono ?_
      rintro e w4 ⟨rfl, rfl⟩
      go_wp2_with fail
      go_roundw
      case rel => exact ⟨k + 1, by omega, by go_num, by rw [HT.out, HZ.out], HB2.out⟩
      case measure => simp [intOf]; omega
    · have hke : l.take k = l := List.take_of_length_le (by omega)
      rw [hke]
      clear hke
      go_wp2_with fail
      go_ret
      exact ⟨rfl, HW.out⟩
set_option maxHeartbeats 2000000 in
theorem rplan34 {p : Prs} {A : PrsA} {l : List Fme} {a : Option Addr} {c : Nat} {w : World} (ha : IsFmes w a l) (hl : l.length ≤ 1000) (hs : ∀ f ∈ l, f.slots.length ≤ 1000) :
    Calls Try.prog 34 #[p.v A, .slice a l.length c] w fun e w' => e = .returned (.bool (planOk p l)) ∧ Below w.heap.size w w' := by
  have hb0 : Below w.heap.size w (w.alloc (.cells (p.arr A) 27)) := (Below.refl _ w).alloc (Nat.le_refl _) _
  have q0 := World.alloc_heap_new w (.cells (p.arr A) 27)
  have HX := Lib.hid (And.intro q0 (And.intro hb0 (ha.mono hb0)))
  have HS := Lib.hid hs
  clear hb0 q0 ha hs
  go_enter Try.func34, Try.ntmps34
  refine wp_seq_hid ?_
  intro K0 HK0
  go_wp2_with fail
  refine HK0.out _ _ ?_
  clear HK0 K0
  revert HX
  generalize w.alloc (.cells (p.arr A) 27) = w1
  generalize w.heap.size = bp
  intro HX
  have HPC := Lib.hid (prs_cells HX.out.1)
  go_wp2_with fail
  go_loopw [5] (fun i wr => ∃ k : Nat, k ≤ l.length ∧ i = .int .i64 k ∧ Hid (∀ x ∈ l.take k, fmeOk p x = true) ∧ Hid (Below w1.heap.size w1 wr)) (fun i _ => l.length - (intOf i).toNat)
  case atStart => exact ⟨0, by omega, rfl, fun x hx => by simp at hx, Below.refl _ _⟩
  case round =>
    obtain ⟨k, hk, rfl, HR, HB⟩ := hrel
    obtain ⟨m0, m1, m2, m3, m4, m5, m6, m7, m8, m9⟩ := HPC.out.mono HB.out
    by_cases hlt : k < l.length
    · obtain ⟨b, off, hab, ai, ci, c0, c1, c6⟩ := (HX.out.2.2.mono HB.out) k hlt
      subst hab
      have HTK : Hid (l.take (k + 1) = l.take k ++ [gf l k]) := by
        rw [Hid, List.take_succ_eq_append_getElem hlt]
        simp [gf, hlt]
      have hin : gf l k ∈ l := by simp [gf, hlt]
      have HIN := Lib.hid hin
      have HSL := Lib.hid (HS.out _ hin)
      clear hin
      have HF := Lib.hid c6
      clear c6
      revert c0 c1 HTK HIN HSL HF
      generalize gf l k = x
      intro c0 c1 HTK HIN HSL HF
      have y0 := fun y : Aft wr.heap.size wr => cell_stays y.h m0
      have y1 := fun y : Aft wr.heap.size wr => cell_stays y.h m1
      have y2 := fun y : Aft wr.heap.size wr => cell_stays y.h m2
      have y3 := fun y : Aft wr.heap.size wr => cell_stays y.h m3
      have y4 := fun y : Aft wr.heap.size wr => cell_stays y.h m4
      have y5 := fun y : Aft wr.heap.size wr => cell_stays y.h m5
      have y6 := fun y : Aft wr.heap.size wr => cell_stays y.h m6
      have y7 := fun y : Aft wr.heap.size wr => cell_stays y.h m7
      have y8 := fun y : Aft wr.heap.size wr => cell_stays y.h m8
      have y9 := fun y : Aft wr.heap.size wr => cell_stays y.h m9
      have z0 := fun y : Aft wr.heap.size wr => cell_stays y.h c0
      have z1 := fun y : Aft wr.heap.size wr => cell_stays y.h c1
      have HC : Hid (∀ y : Aft wr.heap.size wr, Calls Try.prog 47 #[p.v A, x.v ai ci] y.v fun e w' => e = .returned (.bool (fmeOk p x)) ∧ Below y.v.heap.size y.v w') := fun y => forme47 (HF.out.mono y.h) HSL.out
      clear m0 m1 m2 m3 m4 m5 m6 m7 m8 m9 c0 c1
      cases hx : fmeOk p x
      all_goals
        have HX2 := Lib.hid hx
        rw [hx] at HC
        clear hx
        go_upto_region 4 with fail
        refine wp_region_aft mixed (by kernel_rfl) ?_
        repeat (go_big_quiet_step ((go_at_call 47; exact calls_aft (HC.out _))))
        refine wpQuiet_nil ?_
        rintro _ ⟨y, rfl⟩
        have HB2 := Lib.hid (HB.out.trans (y.h.mono HB.out.size))
        clear y0 y1 y2 y3 y4 y5 y6 y7 y8 y9 z0 z1
        go_wp2_with fail
      · go_ret
        have e : l.all (fmeOk p) = false := by
          rw [List.all_eq_false]
          exact ⟨x, HIN.out, by rw [HX2.out]; decide⟩
        exact ⟨ret_bool (by unfold planOk; rw [e]; simp), HX.out.2.1.trans (HB2.out.mono (Nat.le_of_lt (heap_lt HX.out.1)))⟩
      · go_roundw
        case rel => exact ⟨k + 1, by omega, by go_num, fun y hy => by
          rw [HTK.out, List.mem_append] at hy
          rcases hy with hy | hy
          · exact HR.out y hy
          · rw [List.mem_singleton] at hy; rw [hy]; exact HX2.out, HB2.out⟩
        case measure => simp [intOf]; omega
    · have HD : Hid (l.all (fmeOk p) = true) := by
        rw [Hid, List.all_eq_true]
        intro x hx
        exact HR.out x (by rw [List.take_of_length_le (by omega)]; exact hx)
      obtain ⟨q, hq⟩ : ∃ q, decide ((l.length : Int) ≤ p.formes) = q := ⟨_, rfl⟩
      have HV : Hid (planOk p l = q) := by
        show planOk p l = q
        unfold planOk
        rw [HD.out, hq, Bool.and_true]
      clear HR
      go_wp2_with fail
      go_ret
      exact ⟨ret_bool HV.out.symm, HX.out.2.1.trans (HB.out.mono (Nat.le_of_lt (heap_lt HX.out.1)))⟩
end Go.Proofs.Ytjkhclijmcmdjaa
namespace Go.Proofs.Ytjkhclijmcmdjaa
open Go.RowKit
set_option linter.unusedVariables false
set_option linter.unusedSimpArgs false
theorem field23 (x y : Int) (w : World) : (Instr.field 23 (.agg #[.int .i64 x, .int .i64 y]) 0).run Try.prog w = .ok (.int .i64 x) w := by
  simp [Instr.field, Try.underlying23, go_sem]
  rfl
/-- A plan of valid formes: few of them. -/
structure PlanR (p : Prs) (l : List Fme) : Prop where
  len : l.length ≤ 2
  ok : ∀ f ∈ l, fmeOk p f = true
theorem least_take {p : Prs} {l : List Fme} {k : Nat} (h : k < l.length) (v : Nat) : p.least (l.take (k + 1)) v = p.least (l.take k) v + gi (gf l k).slots v * (p.good (gf l k).times).lo := by
  unfold Prs.least
  rw [List.take_succ_eq_append_getElem h, List.map_append, sumL_append]
  simp [sumL, gf, h, Prs.gives]
theorem PlanR.fme {p : Prs} {l : List Fme} (R : PlanR p l) {k v : Nat} (hk : k < l.length) (hv : v < p.wanted.length) : FmeR (gf l k) v := fmeR_of (R.ok _ (by simp [gf, hk])) hv
theorem PlanR.part {p : Prs} {l : List Fme} (R : PlanR p l) (S : Spoil p) {v : Nat} (hv : v < p.wanted.length) : ∀ k, k ≤ l.length → 0 ≤ p.least (l.take k) v ∧ p.least (l.take k) v ≤ k * (6 * 1048576)
  | 0, _ => by simp [Prs.least, sumL]
  | k + 1, hk => by
    have h1 := R.part S hv k (by omega)
    have h2 := gives_bd S (R.fme (k := k) (by omega) hv)
    rw [least_take (by omega)]
    omega
theorem few_some {p : Prs} {l : List Fme} {v : Nat} (hv : v < p.wanted.length) (h : p.least l v < gi p.wanted v) (h0 : ∀ u, u < v → gi p.wanted u ≤ p.least l u) : p.few l = some v := by
  unfold Prs.few
  rw [List.find?_range_eq_some]
  exact ⟨by simpa using h, by simpa using hv, fun u hu => by simpa using h0 u hu⟩
theorem few_none {p : Prs} {l : List Fme} (h0 : ∀ u, u < p.wanted.length → gi p.wanted u ≤ p.least l u) : p.few l = none := by
  unfold Prs.few
  rw [List.find?_eq_none]
  intro u hu
  simpa using h0 u (List.mem_range.1 hu)
end Go.Proofs.Ytjkhclijmcmdjaa
namespace Go.Proofs.Ytjkhclijmcmdjaa
open Go.RowKit
set_option linter.unusedVariables false
set_option linter.unusedSimpArgs false
def spV (l : List Spn) : List Value := l.flatMap fun s => [.int .i64 s.lo, .int .i64 s.hi]
theorem spV_cons (x : Spn) (r : List Spn) : spV (x :: r) = .int .i64 x.lo :: .int .i64 x.hi :: spV r := by simp [spV]
theorem spV_append (l m : List Spn) : spV (l ++ m) = spV l ++ spV m := by simp [spV]
theorem spV_len : ∀ l : List Spn, (spV l).length = l.length * 2
  | [] => rfl
  | x :: r => by rw [spV_cons, List.length_cons, List.length_cons, spV_len r, List.length_cons]; omega
theorem spV_at : ∀ {l : List Spn} {i : Nat}, i < l.length → (spV l)[i * 2]? = some (.int .i64 (gs l i).lo) ∧ (spV l)[i * 2 + 1]? = some (.int .i64 (gs l i).hi)
  | x :: r, 0, _ => by rw [spV_cons]; exact ⟨rfl, rfl⟩
  | x :: r, i + 1, h => by
    rw [spV_cons]
    have e1 : (i + 1) * 2 = i * 2 + 1 + 1 := by omega
    rw [e1]
    simp only [List.getElem?_cons_succ]
    have e2 : gs (x :: r) (i + 1) = gs r i := by simp [gs]
    rw [e2]
    exact spV_at (by simpa using h)
theorem own_spns {w : World} {B : Nat} {a : Option Addr} {l : List Spn} {c : Nat} (h : w.ownsRow B 23 2 (.slice a l.length c) l.length (spV l)) : IsSpns w a l := fun i hi => by
  obtain ⟨g, cap, e, _, _, _, _, hc⟩ := own_cell h (by omega)
  cases e
  refine ⟨g, 0, rfl, ?_, ?_⟩ <;> rw [Nat.zero_add]
  · exact hc _ _ (spV_at hi).1
  · exact hc _ _ (spV_at hi).2
theorem info_parts2 {t : TypeId} {z : Value} {n m : Nat} (h : (Try.prog.info? t).map (fun i => (i.zero, i.size, i.bytes)) = some (some z, n, m)) : ∃ i, Try.prog.info? t = some i ∧ i.zero = some z ∧ i.size = n ∧ i.bytes = m := by
  cases hi : Try.prog.info? t with
  | none => rw [hi] at h; cases h
  | some i => rw [hi] at h; simp at h; exact ⟨i, rfl, h.1, h.2.1, h.2.2⟩
theorem infoS : (Try.prog.info? 23).map (fun i => (i.zero, i.size, i.bytes)) = some (some (.agg #[.int .i64 0, .int .i64 0]), 2, 16) := by kernel_rfl
/-- A span more, behind a row of one's own. -/
theorem append_spn {W w : World} {B : Nat} {v : Value} {l : List Spn} (hb : Below B W w) (hB : B ≤ w.heap.size) (hl : l.length ≤ 1000) (h : w.ownsRow B 23 2 v l.length (spV l)) (x : Spn) :
    ∃ v' w', (Builtin.append_ #[33, 33] 33 #[v, .slice (some ⟨w.heap.size, 0, none⟩) 1 1]).run Try.prog (w.alloc (.cells x.arr 23)) = .ok v' w' ∧ w'.ownsRow B 23 2 v' (l ++ [x]).length (spV (l ++ [x])) ∧ Below B W w' ∧ w'.heap.size ≥ B := by
  obtain ⟨i0, hi0, hz0, hz1, hz2⟩ := info_parts2 infoS
  have q := World.alloc_heap_new w (.cells x.arr 23)
  obtain ⟨v', w', hr, hn, hg⟩ := append_rows (P := Try.prog) (w := w.alloc (.cells x.arr 23)) B 33 33 23 i0 _ 2 16 Try.underlying33 hi0 hz0 hz1 hz2 rfl (by decide) v l.length _ (h.alloc _) (some ⟨w.heap.size, 0, none⟩) 1 1 [.int .i64 x.lo, .int .i64 x.hi] rfl
    (fun _ => ⟨_, rfl, fun j u hj => by
      have e : ((⟨w.heap.size, 0, none⟩ : Addr).add j) = ⟨w.heap.size, j, none⟩ := by unfold Addr.add; split <;> simp_all
      rw [e, cell_of_heap q]
      match j, hj with
      | 0, hj => simpa using hj
      | 1, hj => simpa using hj
      | (j + 2), hj => simp at hj⟩) (by intro u hu; simp at hu; rcases hu with rfl | rfl <;> rfl) (by simp [maxLen]; omega) (by omega) (by simp; omega)
  refine ⟨v', w', hr, ?_, grown_below (hb.alloc hB _) (h.alloc _) hg (by simp; omega), ?_⟩
  · rw [spV_append]
    simpa [spV] using hn
  · have := hg.size
    simp at this; omega
theorem spoil_of {p : Prs} (hv : p.valid = true) : Spoil p := by
  unfold Prs.valid at hv
  simp only [Bool.and_eq_true, Prs.spoilOk, decide_eq_true_eq] at hv
  exact ⟨hv.1.1.1.2.1.1, hv.1.1.1.2.1.2, hv.1.1.1.2.2⟩
theorem wanted_of {p : Prs} (hv : p.valid = true) : 1 ≤ p.wanted.length ∧ p.wanted.length ≤ 4 := by
  unfold Prs.valid Prs.sizeOk at hv
  simp only [Bool.and_eq_true, inR, decide_eq_true_eq] at hv
  omega
theorem formes_of {p : Prs} (hv : p.valid = true) : 1 ≤ p.formes ∧ p.formes ≤ 2 := by
  unfold Prs.valid Prs.sizeOk at hv
  simp only [Bool.and_eq_true, inR, decide_eq_true_eq] at hv
  omega
theorem room_of {p : Prs} (hv : p.valid = true) : 1 ≤ p.room ∧ p.room ≤ 6 := by
  unfold Prs.valid Prs.sizeOk at hv
  simp only [Bool.and_eq_true, inR, decide_eq_true_eq] at hv
  omega
theorem pence_of {p : Prs} (hv : p.valid = true) : (0 ≤ p.make ∧ p.make ≤ 1099511627776) ∧ (0 ≤ p.sheet ∧ p.sheet ≤ 1099511627776) ∧ (0 ≤ p.paper ∧ p.paper ≤ 1099511627776) ∧ 0 ≤ p.money ∧ p.money ≤ 1099511627776 := by
  unfold Prs.valid Prs.penceOk at hv
  simp only [Bool.and_eq_true, inR, decide_eq_true_eq] at hv
  omega
theorem planR_of {p : Prs} (hv : p.valid = true) {l : List Fme} (h : planOk p l = true) : PlanR p l := by
  unfold planOk at h
  simp only [Bool.and_eq_true, decide_eq_true_eq, List.all_eq_true] at h
  exact ⟨by have := formes_of hv; omega, h.2⟩
theorem costR_of {p : Prs} (hv : p.valid = true) {l : List Fme} (h : planOk p l = true) : CostR p l := by
  have R := planR_of hv h
  have hp := pence_of hv
  refine ⟨hp.1, hp.2.1, R.len, fun f hf => ?_⟩
  have := R.ok f hf
  unfold fmeOk at this
  simp only [Bool.and_eq_true, inR, decide_eq_true_eq] at this
  omega
def gvL (p : Prs) (f : Fme) (k : Nat) : List Spn := (List.range k).map fun v => p.gives f v
theorem gvL_succ (p : Prs) (f : Fme) (k : Nat) : gvL p f (k + 1) = gvL p f k ++ [p.gives f k] := by simp [gvL, List.range_succ]
theorem gvL_len (p : Prs) (f : Fme) (k : Nat) : (gvL p f k).length = k := by simp [gvL]
end Go.Proofs.Ytjkhclijmcmdjaa
namespace Go.Proofs.Ytjkhclijmcmdjaa
open Go.RowKit
set_option linter.unusedVariables false
set_option linter.unusedSimpArgs false
abbrev dfr (be : Nat) : List Deferred := [{ target := .fn (.func 41) #[], args := #[.pointer (some ⟨be, 0, none⟩)] }]
theorem leaves41_ok {fn : Func} {tmps : Array Value} {R : Ending → World → Prop} {be : Nat} {w : World} {v : Value} (hv : (results fn tmps).run Try.prog w = .ok v w) (hR : R (.returned v) w) : Leaves Try.prog fn tmps R (dfr be) .returning w := by
  refine ⟨by simp, _, _, 41, #[.pointer (some ⟨be, 0, none⟩)], rfl, ?_, ?_⟩
  · simp [invoke, go_sem, cf41]
  · refine CallsD.mono (caught_ok _ w) ?_
    rintro e u' w' ⟨rfl, rfl, rfl⟩
    exact ⟨v, hv, hR⟩
/-- The world behind a call that caught. -/
def caughtW (w : World) (be : Nat) (x : Int) : World := (w.alloc (.cells #[.int .i64 x] 103)).setCell ⟨be, 0, none⟩ (.int .i64 x)
theorem leaves41_no {fn : Func} {tmps : Array Value} {R : Ending → World → Prop} {be : Nat} {x : Int} {y : Value} {w : World} {v : Value} (hc : w.cell? ⟨be, 0, none⟩ = some y) (hf : w.frozen? ⟨be, 0, none⟩ = false) (hv : (results fn tmps).run Try.prog (caughtW w be x) = .ok v (caughtW w be x)) (hR : R (.returned v) (caughtW w be x)) :
    Leaves Try.prog fn tmps R (dfr be) (.panicking [{ v := .iface 103 (.agg #[.int .i64 x]), recovered := false }]) w := by
  refine ⟨by simp, _, _, 41, #[.pointer (some ⟨be, 0, none⟩)], rfl, ?_, ?_⟩
  · simp [invoke, go_sem, cf41]
  · refine CallsD.mono (caught_no x hc hf) ?_
    rintro e u' w'' ⟨rfl, rfl, rfl⟩
    have hs : settle (.panicking [{ v := .iface 103 (.agg #[.int .i64 x]), recovered := true }]) = .returning := rfl
    simp only [hs]
    exact ⟨v, hv, hR⟩
theorem door_ok {fn : Func} {tmps : Array Value} {R : Ending → World → Prop} {be : Nat} {w : World} {v : Value} (hv : (results fn tmps).run Try.prog w = .ok v w) (hR : R (.returned v) w) : bodyPostX Try.prog fn R .ret { tmps := tmps, defers := dfr be } w :=
  ⟨[], _, rfl, leaves41_ok hv hR⟩
theorem door_no {fn : Func} {tmps : Array Value} {R : Ending → World → Prop} {be : Nat} {x y : Int} {w : World} {v : Value} (h : w.heap[be]? = some (.cells #[.int .i64 y] 34 (0, 0))) (hv : (results fn tmps).run Try.prog (caughtW w be x) = .ok v (caughtW w be x)) (hR : R (.returned v) (caughtW w be x)) :
    bodyPostX Try.prog fn R (.panic [{ v := .iface 103 (.agg #[.int .i64 x]), recovered := false }]) { tmps := tmps, defers := dfr be } w :=
  ⟨[], _, rfl, leaves41_no (y := .int .i64 y) (by rw [cell_of_heap h]; rfl) (frozen_of_heap h) hv hR⟩
theorem caught_heap {w : World} {be : Nat} {x y : Int} (h : w.heap[be]? = some (.cells #[.int .i64 y] 34 (0, 0))) : (caughtW w be x).heap[be]? = some (.cells #[.int .i64 x] 34 (0, 0)) := by
  have h2 : (w.alloc (.cells #[.int .i64 x] 103)).heap[be]? = some (.cells #[.int .i64 y] 34 (0, 0)) := (Below.heap_alloc _ _ _ (heap_lt h)).trans h
  exact heap_setCell_at (k := 0) h2 (.int .i64 x)
theorem caught_other {w : World} {be k : Nat} {x : Int} (hk : k < w.heap.size) (hne : k ≠ be) : (caughtW w be x).heap[k]? = w.heap[k]? :=
  (Below.heap_setCell _ _ _ _ hne).trans (Below.heap_alloc _ _ _ hk)
theorem caught_below {B : Nat} {A w : World} {be : Nat} {x : Int} (hb : Below B A w) (hB : B ≤ be) (hw : B ≤ w.heap.size) : Below B A (caughtW w be x) :=
  (hb.alloc hw _).setCell (p := ⟨be, _, none⟩) hB _
/-- A result in a slot, an error in a cell. -/
theorem res_t34 {fn : Func} {t u : Tmp} (h : fn.results = #[.tmp t, .cell u 34]) (tmps : Array Value) {w : World} {b : Nat} {x : Value} (hp : tmps.getD u undef = .pointer (some ⟨b, 0, none⟩)) (hx : w.cell? ⟨b, 0, none⟩ = some x) :
    (results fn tmps).run Try.prog w = .ok (.tuple #[tmps.getD t undef, x]) w := by
  have hp' : tmps[u]?.getD undef = .pointer (some ⟨b, 0, none⟩) := by simpa using hp
  simp [results, h, hp', hx, go_sem]
set_option maxRecDepth 100000 in
set_option maxHeartbeats 4000000 in
theorem cost19 {p : Prs} {A : PrsA} {l : List Fme} {a : Option Addr} {c : Nat} {w : World} (hP : IsPrs w p A) (hS : p.Small) (ha : IsFmes w a l) (hl : l.length ≤ 1000) (hs : ∀ f ∈ l, f.slots.length ≤ 1000) :
    Calls Try.prog 19 #[p.v A, .slice a l.length c] w fun e w' => e = .returned (.tuple #[.int .i64 (costE p l).1, .int .i64 (costE p l).2]) ∧ Below w.heap.size w w' := by
  have HX := Lib.hid (alloc2 w (p.arr A) #[.int .i64 0] 27 34)
  have HF := Lib.hid (And.intro (hP.mono (alloc2 w (p.arr A) #[.int .i64 0] 27 34).2.2) (ha.mono (alloc2 w (p.arr A) #[.int .i64 0] 27 34).2.2))
  have HS := Lib.hid (And.intro hS hs)
  clear hP ha hS hs
  refine calls_of_wp_x Try.func19 rfl ?_
  simp only [Try.ntmps19, List.size_toArray, List.length_cons, List.length_nil, Nat.reduceAdd, Nat.reduceSub, Array.replicate_succ, Array.replicate_zero, List.push_toArray, List.append_toArray, List.nil_append, List.cons_append]
  conv => arg 2; whnf
  refine wp_seq_hid ?_
  intro K0 HK0
  go_wp2_with fail
  refine HK0.out _ _ ?_
  clear HK0 K0
  revert HX HF
  generalize (w.alloc (.cells (p.arr A) 27)).alloc (.cells #[.int .i64 0] 34) = w1
  generalize hbe : w.heap.size + 1 = be
  generalize hbp : w.heap.size = bp
  intro HX HF
  refine wp_seq_hid ?_
  intro K1 HK1
  go_wp2_with fail
  refine HK1.out _ _ ?_
  clear HK1 K1
  obtain ⟨m0, m1, m2, m3, m4, m5, m6, m7, m8, m9⟩ := prs_cells HX.out.1
  cases hv : p.valid with
  | false =>
    go_wp2_with fail
    refine (open_no HF.out.1 HS.out.1 hv).mono ?_
    rintro e w2 ⟨rfl, hb⟩
    have HB := Lib.hid hb
    clear hb
    go_wp2_with fail
    have hq := (HB.out.block _ (heap_lt HX.out.2.1)).trans HX.out.2.1
    have hE : p.openE (planOk p l) = 1 := by unfold Prs.openE; rw [hv]; rfl
    have HE : costE p l = (0, 1) := by unfold costE; simp only; rw [hE]; rfl
    have hlt := heap_lt HX.out.1
    have hsz := HB.out.size
    refine door_no hq (res_t34 rfl _ rfl (by rw [cell_of_heap (caught_heap hq)]; rfl)) ⟨by rw [HE]; rfl, caught_below (HX.out.2.2.trans (HB.out.mono (by omega))) (by omega) (by omega)⟩
  | true =>
    have HV := Lib.hid hv
    refine wp_seq_hid ?_
    intro K2 HK2
    go_wp2_with fail
    refine (open_yes HF.out.1 HS.out.1 hv).mono ?_
    rintro e w2 ⟨bq, rfl, hPR, hbq, hb⟩
    have HB := Lib.hid (And.intro hb (And.intro hPR (HF.out.2.mono hb)))
    clear hb hPR hbq hv m0 m1 m2 m3 m4 m5 m6 m7 m8 m9
    go_wp2_with fail
    refine HK2.out _ _ ?_
    clear HK2 K2
    have CP := isPlan49 (c := c) HB.out.2.1 HB.out.2.2 hl HS.out.2
    cases hok : planOk p l with
    | false =>
      rw [hok] at CP
      have HCP := Lib.hid CP
      clear CP
      go_wp2_with fail
      refine HCP.out.mono ?_
      rintro e w3 ⟨he, hb3⟩
      have he2 : e = .panicked [{ v := .iface 103 (.agg #[.int .i64 2]), recovered := false }] := he
      subst he2
      have HB3 := Lib.hid (HB.out.1.trans (hb3.mono HB.out.1.size))
      clear hb3 he
      go_wp2_with fail
      have hq := (HB3.out.block _ (heap_lt HX.out.2.1)).trans HX.out.2.1
      have hE : p.openE (planOk p l) = 2 := by unfold Prs.openE; rw [HV.out, hok]; rfl
      have HE : costE p l = (0, 2) := by unfold costE; simp only; rw [hE]; rfl
      have hlt := heap_lt HX.out.1
      have hsz := HB3.out.size
      refine door_no hq (res_t34 rfl _ rfl (by rw [cell_of_heap (caught_heap hq)]; rfl)) ⟨by rw [HE]; rfl, caught_below (HX.out.2.2.trans (HB3.out.mono (by omega))) (by omega) (by omega)⟩
    | true =>
      rw [hok] at CP
      have HCP := Lib.hid CP
      have HOK := Lib.hid hok
      clear CP hok
      refine wp_seq_hid ?_
      intro K3 HK3
      go_wp2_with fail
      refine HCP.out.mono ?_
      rintro e w3 ⟨he, hb3⟩
      have he2 : e = .returned (.tuple #[]) := he
      subst he2
      have HB3 := Lib.hid (And.intro (HB.out.1.trans (hb3.mono HB.out.1.size)) (And.intro (HB.out.2.1.mono hb3) (HB.out.2.2.mono hb3)))
      clear hb3 he
      go_wp2_with fail
      refine HK3.out _ _ ?_
      clear HK3 K3
      have CC := Lib.hid (cost51 (c := c) HB3.out.2.1 HB3.out.2.2 (costR_of HV.out HOK.out))
      refine wp_seq_hid ?_
      intro K4 HK4
      go_wp2_with fail
      refine CC.out.mono ?_
      rintro e w4 ⟨rfl, hb4⟩
      have HB4 := Lib.hid (HB3.out.1.trans (hb4.mono HB3.out.1.size))
      clear hb4
      have hq := (HB4.out.block _ (heap_lt HX.out.2.1)).trans HX.out.2.1
      have HQ := Lib.hid hq
      have c0 : w4.cell? ⟨be, 0, none⟩ = some (.int .i64 0) := by rw [cell_of_heap hq]; rfl
      have f0 : w4.frozen? ⟨be, 0, none⟩ = false := frozen_of_heap hq
      clear hq
      go_wp2_with fail
      refine HK4.out _ _ ?_
      clear HK4 K4 c0 f0
      have h5 := heap_setCell_at (k := 0) HQ.out (.int .i64 0)
      have hE : p.openE (planOk p l) = 0 := by unfold Prs.openE; rw [HV.out, HOK.out]; rfl
      have HE : costE p l = (p.cost l, 0) := by unfold costE; simp only; rw [hE]; rfl
      have hlt := heap_lt HX.out.1
      have hsz := HB4.out.size
      refine wp_ret ?_
      refine door_ok (res_t34 rfl _ rfl (by rw [cell_of_heap h5]; rfl)) ⟨by rw [HE]; rfl, ?_⟩
      exact (HX.out.2.2.trans (HB4.out.mono (by omega))).setCell (p := ⟨be, _, none⟩) (by show bp ≤ be; omega) _
end Go.Proofs.Ytjkhclijmcmdjaa
