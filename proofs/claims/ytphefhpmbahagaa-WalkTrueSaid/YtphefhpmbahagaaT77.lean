/- WalkTrue: the walk. -/
import Derived.Test.YtphefhpmbahagaaT76
import Derived.Test.YtphefhpmbahagaaT52
namespace Go.Proofs.Ytphefhpmbahagaa
open Go.RowKit
set_option linter.unusedVariables false
set_option linter.unusedSimpArgs false

theorem order_nodup {t : Tr} {o : List Int} (h : t.order o = true) : o.Nodup := by
  have h : (o.all t.view && decide o.Nodup) = true := h
  rw [Bool.and_eq_true, decide_eq_true_eq] at h
  exact h.2
theorem wp_seq_hid2 {P : Program} {x y z : Code} {Q : Exit → Act → World → Prop} {a : Act} {w : World} (h : ∀ K, Hid (∀ a' w', z.wp P Q a' w' → K a' w') → ∀ K2, Hid (∀ a' w', y.wp P (Exit.then K Q) a' w' → K2 a' w') → x.wp P (Exit.then K2 Q) a w) :
    (Code.seq x (Code.seq y z)).wp P Q a w :=
  wp_seq_hid fun K2 H2 => h (z.wp P Q) (fun _ _ h => h) K2 (fun a' w' hy => H2 a' w' (wp_seq hy))
set_option maxRecDepth 100000 in
set_option maxHeartbeats 8000000 in
theorem walkTrue_any {t : Tr} {A : TrA} {w : World} (ht : IsTr w t A) (hw : t.ways.length ≤ 9223372036854775807) {o : List Int} {oa : Option Addr} {oc : Nat} (ho : IsInts w oa o) {ub : Option Addr} {lb cb : Nat} (hu : IsU16 w ub lb) (hlb : lb ≤ 9223372036854775807) :
    Calls Try.prog 6 #[t.v A, .slice oa o.length oc, .slice ub lb cb] w fun e w' => e = .returned (.bool true) ∧ Below w.heap.size w w' := by
  have e1 : (w.alloc (.cells (t.cells A) 25)).heap.size = w.heap.size + 1 := by simp
  have hb0 : Below w.heap.size w ((w.alloc (.cells (t.cells A) 25)).alloc (.cells #[.slice ub lb cb] 48)) := ((Below.refl _ w).alloc (Nat.le_refl _) _).alloc (by simp) _
  have q5 : ((w.alloc (.cells (t.cells A) 25)).alloc (.cells #[.slice ub lb cb] 48)).heap[w.heap.size + 1]? = some (.cells #[.slice ub lb cb] 48 (0, 0)) := by
    have := World.alloc_heap_new (w.alloc (.cells (t.cells A) 25)) (.cells #[.slice ub lb cb] 48)
    rw [e1] at this
    exact this
  have q0 : ((w.alloc (.cells (t.cells A) 25)).alloc (.cells #[.slice ub lb cb] 48)).heap[w.heap.size]? = some (.cells (t.cells A) 25 (0, 0)) := by
    have h1 := World.alloc_heap_new w (.cells (t.cells A) 25)
    have h2 : Below (w.alloc (.cells (t.cells A) 25)).heap.size (w.alloc (.cells (t.cells A) 25)) ((w.alloc (.cells (t.cells A) 25)).alloc (.cells #[.slice ub lb cb] 48)) := (Below.refl _ _).alloc (Nat.le_refl _) _
    exact (h2.block _ (heap_lt h1)).trans h1
  have HW := Lib.hid (And.intro hb0 (And.intro q0 (And.intro q5 (And.intro (ht.mono hb0) (And.intro (ho.mono hb0) (hu.mono hb0))))))
  have HG : Hid (∀ v, IsTr v t A → Calls Try.prog 12 #[t.v A, .slice oa o.length oc, .int .i64 6] v fun e w' => e = .returned (.bool (t.great o 6)) ∧ Below v.heap.size v w') := fun v h => great12 h hw 6
  have HLB := Lib.hid hlb
  have hmf : ∀ (fn : Fn) (first cap : Array Value) (w : World), (Instr.makeFunc fn first cap).run Try.prog w = .ok (.func fn first cap) w := fun _ _ _ _ => rfl
  clear hb0 q0 q5 hu ht hw ho e1
  go_enter Try.func6, Try.ntmps6
  refine wp_seq_hid ?_
  intro K0 HK0
  go_wp2_with fail
  refine HK0.out _ _ ?_
  refine wp_seq_hid ?_
  intro K1 HK1
  revert HW
  generalize (w.alloc (.cells (t.cells A) 25)).alloc (.cells #[.slice ub lb cb] 48) = w1
  intro HW
  have KP : Hid (∀ v, Below w1.heap.size w1 v → v.heap[w.heap.size]? = some (.cells (t.cells A) 25 (0, 0)) ∧ IsTr v t A ∧ IsInts v oa o ∧ Below w.heap.size w v) := fun v h => ⟨(h.block _ (heap_lt HW.out.2.1)).trans HW.out.2.1, HW.out.2.2.2.1.mono h, HW.out.2.2.2.2.1.mono h, HW.out.1.trans (h.mono HW.out.1.size)⟩
  have KU : Hid (∀ v, Below w1.heap.size w1 v → v.heap[w.heap.size + 1]? = some (.cells #[.slice ub lb cb] 48 (0, 0)) ∧ IsU16 v ub lb) := fun v h => ⟨(h.block _ (heap_lt HW.out.2.2.1)).trans HW.out.2.2.1, HW.out.2.2.2.2.2.mono h⟩
  have HWL : Hid (w.heap.size + 1 < w1.heap.size) := heap_lt HW.out.2.2.1
  have HB := Lib.hid (Below.refl w1.heap.size w1)
  obtain ⟨k0, k1, k2, k3, k4⟩ := tr_cells (KP.out w1 HB.out).1
  go_wp2_with fail
  refine (HG.out _ (KP.out w1 HB.out).2.1).mono ?_
  rintro e b1 ⟨rfl, hb⟩
  have HX := Lib.hid (HB.out.trans (hb.mono HB.out.size))
  clear hb HB HG k0 k1 k2 k3 k4
  have HB := HX
  clear HX
  cases hg : t.great o 6
  case true =>
    go_wp2_with fail
    refine (alive13 _).mono ?_
    rintro e c1 ⟨rfl, hb⟩
    have HX := Lib.hid (HB.out.trans (hb.mono HB.out.size))
    clear hb
    go_wp2_with fail
    go_ret
    exact ⟨rfl, (KP.out _ HX.out).2.2.2⟩
  have HN := Lib.hid (great_no hg)
  clear hg
  have k5 : b1.cell? ⟨w.heap.size + 1, 0, none⟩ = some (.slice ub lb cb) := by rw [cell_of_heap (KU.out b1 HB.out).1]; rfl
  by_cases hl0 : lb = 0
  case pos =>
    have hlz : ((lb : Int) == 0) = true := by simp; omega
    go_wp2_with fail
    refine (alive13 _).mono ?_
    rintro e c1 ⟨rfl, hb⟩
    have HX := Lib.hid (HB.out.trans (hb.mono HB.out.size))
    clear hb
    go_wp2_with fail
    go_ret
    exact ⟨rfl, (KP.out _ HX.out).2.2.2⟩
  have hlz : ((lb : Int) == 0) = false := by simp; omega
  have HL0 : Hid (0 < lb) := by show 0 < lb; omega
  go_wp2_with fail
  refine HK1.out _ _ ?_
  clear HK1 K1
  clear HK0 K0 hlz hl0 k5
  have C14 : Hid (∀ (a b : Int), walkedE t o = (a, b) → ∀ v, Below w1.heap.size w1 v → Calls Try.prog 14 #[t.v A, .slice oa o.length oc] v fun e w' => e = .returned (.tuple #[.int .i64 a, .int .i64 b]) ∧ Below v.heap.size v w') := fun a b he v h => by
    have := walked14 (cap := oc) (KP.out v h).2.1 HN.out.1 HN.out.2.1 (KP.out v h).2.2.1
    rw [he] at this; exact this
  have C16 : Hid (∀ (l : List Spn) (x y b : Int), timesE t o = (l, ⟨x, y⟩, b) → ∀ v, Below w1.heap.size w1 v → Calls Try.prog 16 #[t.v A, .slice oa o.length oc] v fun e w' => ∃ av cv, e = .returned (.tuple #[.slice av l.length cv, .agg #[.int .i64 x, .int .i64 y], .int .i64 b]) ∧ IsSpns w' av l ∧ Below v.heap.size v w') := fun l x y b he v h => by
    have := times16 (cap := oc) (KP.out v h).2.1 HN.out.1 HN.out.2.1 (KP.out v h).2.2.1
    rw [he] at this; exact this
  have C18 : Hid (∀ (a : Int) (q : Bool) (b : Int), lateE t o = (a, q, b) → ∀ v, Below w1.heap.size w1 v → Calls Try.prog 18 #[t.v A, .slice oa o.length oc] v fun e w' => e = .returned (.tuple #[.int .i64 a, .bool q, .int .i64 b]) ∧ Below v.heap.size v w') := fun a q b he v h => by
    have := late18 (cap := oc) (KP.out v h).2.1 HN.out.1 HN.out.2.1 (KP.out v h).2.2.1
    rw [he] at this; exact this
  by_cases hE : openE t (t.order o) = 0
  case neg =>
    have hW : walkedE t o = (0, openE t (t.order o)) := by unfold walkedE; rw [if_neg hE]
    have hT : timesE t o = ([], ⟨0, 0⟩, openE t (t.order o)) := by unfold timesE; rw [if_neg hE]
    have hL : lateE t o = (0, false, openE t (t.order o)) := by unfold lateE; rw [if_neg hE]
    have HE := Lib.hid (And.intro hW (And.intro hT hL))
    clear hW hT hL
    revert HE
    generalize openE t (t.order o) = E at hE
    intro HE
    refine wp_seq_hid ?_
    intro K3 HK3
    obtain ⟨k0, k1, k2, k3, k4⟩ := tr_cells (KP.out b1 HB.out).1
    go_wp2_with fail
    refine (C14.out _ _ HE.out.1 _ HB.out).mono ?_
    rintro e b2 ⟨rfl, hb⟩
    have HX := Lib.hid (HB.out.trans (hb.mono HB.out.size))
    clear hb HB C14 k0 k1 k2 k3 k4
    have HB := HX
    clear HX
    go_wp2_with fail
    refine HK3.out _ _ ?_
    clear HK3 K3
    refine wp_seq_hid ?_
    intro K4 HK4
    obtain ⟨k0, k1, k2, k3, k4⟩ := tr_cells (KP.out b2 HB.out).1
    go_wp2_with fail
    refine (C16.out _ _ _ _ HE.out.2.1 _ HB.out).mono ?_
    rintro e b3 ⟨av, cv, rfl, hs1, hb⟩
    have HX := Lib.hid (And.intro (HB.out.trans (hb.mono HB.out.size)) hs1)
    clear hb HB C16 k0 k1 k2 k3 k4 hs1
    have HB := HX
    clear HX
    go_simp
    go_wp2_with fail
    have q7 := World.alloc_heap_new b3 (.cells #[.int .i64 0, .int .i64 0] 33)
    have hb7 : Below b3.heap.size b3 (b3.alloc (.cells #[.int .i64 0, .int .i64 0] 33)) := (Below.refl _ _).alloc (Nat.le_refl _) _
    have HX := Lib.hid (And.intro (HB.out.1.trans (hb7.mono HB.out.1.size)) (And.intro (HB.out.2.mono hb7) q7))
    clear hb7 HB q7
    have HB := HX
    clear HX
    refine HK4.out _ _ ?_
    clear HK4 K4
    revert HB
    generalize (b3.alloc (.cells #[.int .i64 0, .int .i64 0] 33)) = v1
    generalize b3.heap.size = pb1
    intro HB
    refine wp_seq_hid ?_
    intro K5 HK5
    obtain ⟨k0, k1, k2, k3, k4⟩ := tr_cells (KP.out v1 HB.out.1).1
    go_wp2_with fail
    refine (C18.out _ _ _ HE.out.2.2 _ HB.out.1).mono ?_
    rintro e b4 ⟨rfl, hb⟩
    have HX := Lib.hid (And.intro (HB.out.1.trans (hb.mono HB.out.1.size)) (And.intro (HB.out.2.1.mono hb) ((hb.block _ (heap_lt HB.out.2.2)).trans HB.out.2.2)))
    clear hb HB C18 k0 k1 k2 k3 k4
    have HB := HX
    clear HX
    go_wp2_with fail
    refine HK5.out _ _ ?_
    clear HK5 K5
    have hb : (E != 0) = true := by simpa using hE
    have hee : (E == E) = true := by simp
    have heq : ∀ w, (binOp .eql 33 (.agg #[.int .i64 0, .int .i64 0]) (.agg #[.int .i64 0, .int .i64 0])).run Try.prog w = .ok (.bool true) w := fun w => by rw [eql33 ⟨0, 0⟩ ⟨0, 0⟩]; simp
    have x0 : b4.cell? ⟨pb1, 0, none⟩ = some (.int .i64 0) := by rw [cell_of_heap HB.out.2.2]; rfl
    have x1 : b4.cell? ⟨pb1, 1, none⟩ = some (.int .i64 0) := by rw [cell_of_heap HB.out.2.2]; rfl
    clear hE
    go_wp2_with fail
    refine (alive13 _).mono ?_
    rintro e c1 ⟨rfl, hb⟩
    have HX := Lib.hid (HB.out.1.trans (hb.mono HB.out.1.size))
    clear hb
    go_wp2_with fail
    go_ret
    exact ⟨rfl, (KP.out _ HX.out).2.2.2⟩
  obtain ⟨l, lo, hx, wv, v, each, g, hW, hT, hL, hlo, hhi, TF⟩ := true_facts hE
  have HE := Lib.hid (And.intro hW (And.intro hT hL))
  have HF := Lib.hid (And.intro hlo (And.intro hhi TF))
  have HVO := Lib.hid (openE_zero hE)
  clear hW hT hL hlo hhi TF hE
  refine wp_seq_hid ?_
  intro K3 HK3
  obtain ⟨k0, k1, k2, k3, k4⟩ := tr_cells (KP.out b1 HB.out).1
  go_wp2_with fail
  refine (C14.out _ _ HE.out.1 _ HB.out).mono ?_
  rintro e b5 ⟨rfl, hb⟩
  have HX := Lib.hid (HB.out.trans (hb.mono HB.out.size))
  clear hb HB C14 k0 k1 k2 k3 k4
  have HB := HX
  clear HX
  go_wp2_with fail
  refine HK3.out _ _ ?_
  clear HK3 K3
  refine wp_seq_hid ?_
  intro K4 HK4
  obtain ⟨k0, k1, k2, k3, k4⟩ := tr_cells (KP.out b5 HB.out).1
  go_wp2_with fail
  refine (C16.out _ _ _ _ HE.out.2.1 _ HB.out).mono ?_
  rintro e b6 ⟨av, cv, rfl, hs1, hb⟩
  have HX := Lib.hid (And.intro (HB.out.trans (hb.mono HB.out.size)) hs1)
  clear hb HB C16 k0 k1 k2 k3 k4 hs1
  have HB := HX
  clear HX
  go_simp
  go_wp2_with fail
  have q7 := World.alloc_heap_new b6 (.cells #[.int .i64 lo, .int .i64 hx] 33)
  have hb7 : Below b6.heap.size b6 (b6.alloc (.cells #[.int .i64 lo, .int .i64 hx] 33)) := (Below.refl _ _).alloc (Nat.le_refl _) _
  have HX := Lib.hid (And.intro (HB.out.1.trans (hb7.mono HB.out.1.size)) (And.intro (HB.out.2.mono hb7) q7))
  clear hb7 HB q7
  have HB := HX
  clear HX
  refine HK4.out _ _ ?_
  clear HK4 K4
  revert HB
  generalize (b6.alloc (.cells #[.int .i64 lo, .int .i64 hx] 33)) = v1
  generalize b6.heap.size = pb1
  intro HB
  refine wp_seq_hid ?_
  intro K5 HK5
  obtain ⟨k0, k1, k2, k3, k4⟩ := tr_cells (KP.out v1 HB.out.1).1
  go_wp2_with fail
  refine (C18.out _ _ _ HE.out.2.2 _ HB.out.1).mono ?_
  rintro e b7 ⟨rfl, hb⟩
  have HX := Lib.hid (And.intro (HB.out.1.trans (hb.mono HB.out.1.size)) (And.intro (HB.out.2.1.mono hb) ((hb.block _ (heap_lt HB.out.2.2)).trans HB.out.2.2)))
  clear hb HB C18 k0 k1 k2 k3 k4
  have HB := HX
  clear HX
  go_wp2_with fail
  refine HK5.out _ _ ?_
  clear HK5 K5
  clear HE
  refine wp_seq_hid ?_
  intro K6 HK6
  have C33 := rtour33 (KP.out b7 HB.out.1).2.1 HN.out.1
  rw [HVO.out.1] at C33
  obtain ⟨k0, k1, k2, k3, k4⟩ := tr_cells (KP.out b7 HB.out.1).1
  go_wp2_with fail
  refine (C33).mono ?_
  rintro e b8 ⟨rfl, hb⟩
  have HX := Lib.hid (And.intro (HB.out.1.trans (hb.mono HB.out.1.size)) (And.intro (HB.out.2.1.mono hb) ((hb.block _ (heap_lt HB.out.2.2)).trans HB.out.2.2)))
  clear hb HB C33 k0 k1 k2 k3 k4
  have HB := HX
  clear HX
  have hn16 : t.frm.length ≤ 6 := (fit_of_valid HVO.out.1).n
  have C34 := rorder34 (cap := oc) (KP.out b8 HB.out.1).2.1 (by omega) HN.out.2.1 (KP.out b8 HB.out.1).2.2.1
  rw [HVO.out.2] at C34
  obtain ⟨k0, k1, k2, k3, k4⟩ := tr_cells (KP.out b8 HB.out.1).1
  go_wp2_with fail
  refine (C34).mono ?_
  rintro e b9 ⟨rfl, hb⟩
  have HX := Lib.hid (And.intro (HB.out.1.trans (hb.mono HB.out.1.size)) (And.intro (HB.out.2.1.mono hb) ((hb.block _ (heap_lt HB.out.2.2)).trans HB.out.2.2)))
  clear hb HB C34 k0 k1 k2 k3 k4
  have HB := HX
  clear HX
  go_wp2_with fail
  refine HK6.out _ _ ?_
  clear HK6 K6
  refine wp_seq_hid ?_
  intro K8 HK8
  have hll : ((l.length : Int) != (o.length : Int)) = false := by have := HF.out.2.2.len; simp; omega
  have REST : Hid (∀ {s0 s2 s4 s6 s8 s11 s15 s16 s17 s18 s19 s20 s21 s22 s23 s24 s25 s26 s27 s28 s29 s30 s31 s32 s33 s34 s35 s36 s37 s38 s39 s40 s41 s42 s43 s44 s45 s46 s47 s48 s49 s50 s51 s52 s53 s54 s55 s56 s57 s58 s59 s60 s61 s62 s63 s64 s65 s66 s67 s68 s69 s70 s71 s72 s73 s74 s75 s76 s77 s78 s79 s80 s81 s82 s83 s84 s85 s86 s87 s88 s89 s90 s91 s92 s93 s94 s95 s96 s97 s98 s99 s100 s101 s102 s103 s104 s105 s106 s107 s108 s109 s110 s111 s112 s113 s114 s115 s116 s117 s118 s119 s120 s121 s122 s123 s124 s125 s126 s127 s128 s129 s130 s131 s132 s133 s134 s135 s136 s137 s138 s139 s140 s141 s142 s143 s144 s145 s146 s147 s148 s149 s150 s151 s152 s153 s154 s155 s156 s157 s158 s159 s160 s161 s162 s163 s164 s165 s166 s167 s168 s169 s170 s171 s172 s173 s174 s175 s176 s177 s178 s179 s180 s181 s182 s183 s184 s185 s186 s187 s188 s189 s190 s191 s192 s193 s194 s195 s196 s197 s198 s199 s200 s201 s202 s203 s204 s205 s206 s207 s208 s209 s210 s211 s212 s213 s214 s215 s216 s217 s218 s219 s220 s221 s222 s223 s224 s225 s226 s227 s228 s229 s230 s231 s232 s233 s234 s235 s236 s237 s238 s239 s240 s241 s242 s243 s244 s245 s246 s247 s248 s249 s250 s251 s252 s253 s254 s255 s256 s257 s258 s259 s260 s261 s262 s263 s264 s265 s266 s267 : Value}, K8 { tmps := #[s0, .slice oa o.length oc, s2, .pointer (some ⟨w.heap.size, 0, none⟩), s4, .pointer (some ⟨w.heap.size + 1, 0, none⟩), s6, .int .i64 wv, s8, .slice av l.length cv, .pointer (some ⟨pb1, 0, none⟩), s11, .int .i64 v, .bool each, .int .i64 g, s15, s16, s17, s18, s19, s20, s21, s22, s23, s24, s25, s26, s27, s28, s29, s30, s31, s32, s33, s34, s35, s36, s37, s38, s39, s40, s41, s42, s43, s44, s45, s46, s47, s48, s49, s50, s51, s52, s53, s54, s55, s56, s57, s58, s59, s60, s61, s62, s63, s64, s65, s66, s67, s68, s69, s70, s71, s72, s73, s74, s75, s76, s77, s78, s79, s80, s81, s82, s83, s84, s85, s86, s87, s88, s89, s90, s91, s92, s93, s94, s95, s96, s97, s98, s99, s100, s101, s102, s103, s104, s105, s106, s107, s108, s109, s110, s111, s112, s113, s114, s115, s116, s117, s118, s119, s120, s121, s122, s123, s124, s125, s126, s127, s128, s129, s130, s131, s132, s133, s134, s135, s136, s137, s138, s139, s140, s141, s142, s143, s144, s145, s146, s147, s148, s149, s150, s151, s152, s153, s154, s155, s156, s157, s158, s159, s160, s161, s162, s163, s164, s165, s166, s167, s168, s169, s170, s171, s172, s173, s174, s175, s176, s177, s178, s179, s180, s181, s182, s183, s184, s185, s186, s187, s188, s189, s190, s191, s192, s193, s194, s195, s196, s197, s198, s199, s200, s201, s202, s203, s204, s205, s206, s207, s208, s209, s210, s211, s212, s213, s214, s215, s216, s217, s218, s219, s220, s221, s222, s223, s224, s225, s226, s227, s228, s229, s230, s231, s232, s233, s234, s235, s236, s237, s238, s239, s240, s241, s242, s243, s244, s245, s246, s247, s248, s249, s250, s251, s252, s253, s254, s255, s256, s257, s258, s259, s260, s261, s262, s263, s264, s265, s266, s267], defers := [] } b9) := by
    intro s0 s2 s4 s6 s8 s11 s15 s16 s17 s18 s19 s20 s21 s22 s23 s24 s25 s26 s27 s28 s29 s30 s31 s32 s33 s34 s35 s36 s37 s38 s39 s40 s41 s42 s43 s44 s45 s46 s47 s48 s49 s50 s51 s52 s53 s54 s55 s56 s57 s58 s59 s60 s61 s62 s63 s64 s65 s66 s67 s68 s69 s70 s71 s72 s73 s74 s75 s76 s77 s78 s79 s80 s81 s82 s83 s84 s85 s86 s87 s88 s89 s90 s91 s92 s93 s94 s95 s96 s97 s98 s99 s100 s101 s102 s103 s104 s105 s106 s107 s108 s109 s110 s111 s112 s113 s114 s115 s116 s117 s118 s119 s120 s121 s122 s123 s124 s125 s126 s127 s128 s129 s130 s131 s132 s133 s134 s135 s136 s137 s138 s139 s140 s141 s142 s143 s144 s145 s146 s147 s148 s149 s150 s151 s152 s153 s154 s155 s156 s157 s158 s159 s160 s161 s162 s163 s164 s165 s166 s167 s168 s169 s170 s171 s172 s173 s174 s175 s176 s177 s178 s179 s180 s181 s182 s183 s184 s185 s186 s187 s188 s189 s190 s191 s192 s193 s194 s195 s196 s197 s198 s199 s200 s201 s202 s203 s204 s205 s206 s207 s208 s209 s210 s211 s212 s213 s214 s215 s216 s217 s218 s219 s220 s221 s222 s223 s224 s225 s226 s227 s228 s229 s230 s231 s232 s233 s234 s235 s236 s237 s238 s239 s240 s241 s242 s243 s244 s245 s246 s247 s248 s249 s250 s251 s252 s253 s254 s255 s256 s257 s258 s259 s260 s261 s262 s263 s264 s265 s266 s267
    refine HK8.out _ _ ?_
    clear HK8 K8
    clear hll
    have KD : Hid (∀ u, Below b9.heap.size b9 u → u.heap[w.heap.size]? = some (.cells (t.cells A) 25 (0, 0)) ∧ IsTr u t A ∧ IsInts u oa o ∧ IsSpns u av l ∧ u.heap[pb1]? = some (.cells #[.int .i64 lo, .int .i64 hx] 33 (0, 0)) ∧ Below w.heap.size w u) := fun u h =>
      have h1 := KP.out u (HB.out.1.trans (h.mono HB.out.1.size))
      ⟨h1.1, h1.2.1, h1.2.2.1, HB.out.2.1.mono h, (h.block _ (heap_lt HB.out.2.2)).trans HB.out.2.2, h1.2.2.2⟩
    have KC : Hid (∀ (ba k : Nat) (u : World), k ≤ 1000 → b9.heap.size ≤ ba → DrT b9 ba k u → Calls Try.prog 35 #[.pointer (some ⟨ba, 0, none⟩), .pointer (some ⟨w.heap.size + 1, 0, none⟩)] u fun e w' => ∃ x : Int, e = .returned (.int .u16 x) ∧ (0 ≤ x ∧ x ≤ 65535) ∧ DrT b9 ba (k + 1) w' ∧ Same (fun i => i = ba) u w') := fun ba k u hk h0 h =>
      next35 hk h0 (KU.out b9 HB.out.1).1 (KU.out b9 HB.out.1).2 HL0.out HLB.out h
    clear KP KU HL0 HLB
    refine wp_seq_hid ?_
    intro K10 HK10
    go_wp2_with fail
    have qa := World.alloc_heap_new b9 (.cells #[.int .i64 0] 3)
    have hba : Below b9.heap.size b9 (b9.alloc (.cells #[.int .i64 0] 3)) := (Below.refl _ _).alloc (Nat.le_refl _) _
    refine HK10.out _ _ ?_
    clear HK10 K10
    have HD : Hid (DrT b9 b9.heap.size 0 (b9.alloc (.cells #[.int .i64 0] 3))) := ⟨hba, qa⟩
    clear hba qa
    revert HD
    generalize (b9.alloc (.cells #[.int .i64 0] 3)) = v4
    intro HD
    refine wp_seq_hid ?_
    intro K11 HK11
    go_wp2_with fail
    refine HK11.out _ _ ?_
    clear HK11 K11
    change Code.wp _ _ _ { tmps := #[s0, .slice oa o.length oc, s2, .pointer (some ⟨w.heap.size, 0, none⟩), s4, .pointer (some ⟨w.heap.size + 1, 0, none⟩), s6, .int .i64 wv, s8, .slice av l.length cv, .pointer (some ⟨pb1, 0, none⟩), s11, .int .i64 v, .bool each, .int .i64 g, .pointer (some ⟨b9.heap.size, 0, none⟩), .func (.func 35) #[] #[.pointer (some ⟨b9.heap.size, 0, none⟩), .pointer (some ⟨w.heap.size + 1, 0, none⟩)], s17, s18, s19, s20, s21, s22, s23, s24, s25, s26, s27, s28, s29, s30, s31, s32, s33, s34, s35, s36, s37, s38, s39, s40, s41, s42, s43, s44, s45, s46, s47, s48, s49, s50, s51, s52, s53, s54, s55, s56, s57, s58, s59, s60, s61, s62, s63, s64, s65, s66, s67, s68, s69, s70, s71, s72, s73, s74, s75, s76, s77, s78, s79, s80, s81, s82, s83, s84, s85, s86, s87, s88, s89, s90, s91, s92, s93, s94, s95, s96, s97, s98, s99, s100, s101, s102, s103, s104, s105, s106, s107, s108, s109, s110, s111, s112, s113, s114, s115, s116, s117, s118, s119, s120, s121, s122, s123, s124, s125, s126, .func (.func 35) #[] #[.pointer (some ⟨b9.heap.size, 0, none⟩), .pointer (some ⟨w.heap.size + 1, 0, none⟩)], s128, s129, s130, s131, s132, s133, s134, s135, s136, s137, s138, s139, s140, s141, s142, s143, s144, s145, s146, s147, s148, s149, s150, s151, s152, s153, s154, s155, s156, s157, s158, s159, s160, s161, s162, s163, s164, s165, s166, s167, s168, s169, s170, s171, s172, s173, s174, s175, s176, s177, s178, s179, s180, s181, s182, s183, s184, s185, s186, s187, s188, s189, s190, s191, s192, s193, s194, s195, s196, s197, s198, s199, s200, s201, s202, s203, s204, s205, s206, s207, s208, s209, s210, s211, s212, s213, s214, s215, s216, s217, s218, s219, s220, s221, s222, s223, s224, s225, s226, s227, s228, s229, s230, s231, s232, s233, s234, s235, s236, s237, s238, s239, s240, s241, s242, s243, s244, s245, s246, s247, s248, s249, s250, s251, s252, s253, s254, s255, s256, s257, s258, s259, s260, s261, s262, s263, s264, s265, s266, s267], defers := [] } _
    obtain ⟨k0, k1, k2, k3, k4⟩ := tr_cells (KD.out v4 HD.out.below).1
    refine wp_seq_hid ?_
    intro K12 HK12
    go_wp2_with fail
    refine HK12.out _ _ ?_
    clear HK12 K12
    clear k0 k1 k2 k3 k4
    refine wp_seq_hid ?_
    intro K13 HK13
    go_wp2_with fail
    go_loopw [17, 18, 19, 132] (fun nw wk lt i wr => ∃ (k : Nat) (now : Int) (wb lt' : Bool), k ≤ o.length ∧ nw = .int .i64 now ∧ wk = .bool wb ∧ lt = .bool lt' ∧ i = .int .i64 k ∧ Hid (TrueI t o wv v g k now wb lt') ∧ Hid (DrT b9 b9.heap.size (2 * k) wr)) (fun _ _ _ i _ => o.length - (intOf i).toNat)
    case atStart => exact ⟨0, t.dawn, true, false, by omega, rfl, rfl, rfl, rfl, ⟨⟨Int.le_refl _, Int.le_refl _⟩, fun _ => rfl, fun _ j hj => by omega, fun _ _ j hj => by omega, fun _ => rfl⟩, HD.out⟩
    case round =>
      obtain ⟨k, now, wb, lt', hk, rfl, rfl, rfl, rfl, HI, HDR⟩ := hrel
      have HKD := Lib.hid (KD.out wr HDR.out.below)
      by_cases hlt : k < o.length
      · obtain ⟨ab, ao, haa, hca⟩ := HKD.out.2.2.1 k hlt
        subst haa
        obtain ⟨m, hm, hmn⟩ := view_nat (order_view HVO.out.2 _ (gi_mem' hlt))
        rw [hm] at hca
        have HM := Lib.hid hm
        have HFT := Lib.hid (fit_of_valid HVO.out.1)
        clear hm
        obtain ⟨fb, fo, fe, f0, f1⟩ := HKD.out.2.1.frm m hmn
        obtain ⟨k0, k1, k2, k3, k4⟩ := tr_cells HKD.out.1
        rw [fe] at k1
        refine wp_seq_hid ?_
        intro KL14 HKL14
        go_wp2_with fail
        refine HKL14.out _ _ ?_
        clear HKL14 KL14
        refine wp_seq_hid ?_
        intro KL15 HKL15
        go_wp2_with fail
        refine HKL15.out _ _ ?_
        clear HKL15 KL15
        refine wp_seq_hid ?_
        intro KLB HKLB
        refine wp_block ?_
        refine wp_seq_hid ?_
        intro K15 HK15
        go_wp2_with fail
        refine HK15.out _ _ ?_
        clear HK15 K15
        refine wp_seq_hid ?_
        intro K16 HK16
        go_wp2_with fail
        have qw := World.alloc_heap_new wr (.cells #[.int .i64 (gs t.frm m).lo, .int .i64 (gs t.frm m).hi] 33)
        have hbw : Below wr.heap.size wr (wr.alloc (.cells #[.int .i64 (gs t.frm m).lo, .int .i64 (gs t.frm m).hi] 33)) := (Below.refl _ wr).alloc (Nat.le_refl _) _
        refine HK16.out _ _ ?_
        clear HK16 K16
        have HV := Lib.hid (And.intro (HDR.out.mono hbw) (And.intro hbw qw))
        clear hbw qw k0 k1 k2 k3 k4 f0 f1 hca
        revert HV
        generalize (wr.alloc (.cells #[.int .i64 (gs t.frm m).lo, .int .i64 (gs t.frm m).hi] 33)) = V0
        intro HV
        obtain ⟨s, hs⟩ : ∃ s : Spn, s = t.wayAt o k := ⟨_, rfl⟩
        have HS := Lib.hid hs
        have hsok := (ok_iff _).1 (wayAt_ok HFT.out (order_view HVO.out.2) hlt)
        rw [← hs] at hsok
        have HSO := Lib.hid hsok
        have hne : wr.heap.size ≠ b9.heap.size := by have := heap_lt HDR.out.at_; omega
        have HNE := Lib.hid hne
        have hml : m < t.light.length := by have := HFT.out.light; omega
        have hms : m < t.stay.length := by have := HFT.out.stay; omega
        clear hs hsok hne
        refine wp_seq_hid ?_
        intro K17 HK17
        have REST17 : Hid (∀ {x6 x23 x133 x134 x135 x136 x137 x138 x139 x140 x141 x142 x143 x144 x145 x146 x147 x148 x149 x150 x151 x152 x153 x154 x155 x156 x157 x158 x159 x160 x161 x162 x163 x164 x165 x166 x167 x168 x169 x170 x171 x172 x173 x174 x175 x176 x177 x178 x179 x180 x181 x182 x183 x184 x185 x186 x187 x188 x189 x190 x191 x192 x193 x194 x195 x196 x197 x198 x199 x200 x201 x202 x203 x204 x205 x206 x207 x208 x209 x210 x211 x212 x213 x214 x215 x216 x217 x218 x219 x220 x221 x222 x223 x224 x225 x226 x227 x228 x229 x230 x231 x232 x233 x234 x235 x236 x237 x238 x239 : Value} {V : World}, DrT b9 b9.heap.size (2 * k) V → V.heap[wr.heap.size]? = some (.cells #[.int .i64 s.lo, .int .i64 s.hi] 33 (0, 0)) → K17 { tmps := #[s0, .slice (some ⟨ab, ao, none⟩) o.length oc, s2, .pointer (some ⟨w.heap.size, 0, none⟩), s4, .pointer (some ⟨w.heap.size + 1, 0, none⟩), x6, .int .i64 wv, s8, .slice av l.length cv, .pointer (some ⟨pb1, 0, none⟩), s11, .int .i64 v, .bool each, .int .i64 g, .pointer (some ⟨b9.heap.size, 0, none⟩), .func (.func 35) #[] #[.pointer (some ⟨b9.heap.size, 0, none⟩), .pointer (some ⟨w.heap.size + 1, 0, none⟩)], .int .i64 now, .bool wb, .bool lt', .int .i64 (k : Int), .int .i64 (m : Int), .pointer (some ⟨wr.heap.size, 0, none⟩), x23, s24, s25, s26, s27, s28, s29, s30, s31, s32, s33, s34, s35, s36, s37, s38, s39, s40, s41, s42, s43, s44, s45, s46, s47, s48, s49, s50, s51, s52, s53, s54, s55, s56, s57, s58, s59, s60, s61, s62, s63, s64, s65, s66, s67, s68, s69, s70, s71, s72, s73, s74, s75, s76, s77, s78, s79, s80, s81, s82, s83, s84, s85, s86, s87, s88, s89, s90, s91, s92, s93, s94, s95, s96, s97, s98, s99, s100, s101, s102, s103, s104, s105, s106, s107, s108, s109, s110, s111, s112, s113, s114, s115, s116, s117, s118, s119, s120, s121, s122, s123, s124, s125, s126, .func (.func 35) #[] #[.pointer (some ⟨b9.heap.size, 0, none⟩), .pointer (some ⟨w.heap.size + 1, 0, none⟩)], .pointer (some ⟨w.heap.size, 0, none⟩), .int .i64 t.dawn, .slice (some ⟨ab, ao, none⟩) o.length oc, .int .i64 (o.length : Int), .int .i64 (k : Int), x133, x134, x135, x136, x137, x138, x139, x140, x141, x142, x143, x144, x145, x146, x147, x148, x149, x150, x151, x152, x153, x154, x155, x156, x157, x158, x159, x160, x161, x162, x163, x164, x165, x166, x167, x168, x169, x170, x171, x172, x173, x174, x175, x176, x177, x178, x179, x180, x181, x182, x183, x184, x185, x186, x187, x188, x189, x190, x191, x192, x193, x194, x195, x196, x197, x198, x199, x200, x201, x202, x203, x204, x205, x206, x207, x208, x209, x210, x211, x212, x213, x214, x215, x216, x217, x218, x219, x220, x221, x222, x223, x224, x225, x226, x227, x228, x229, x230, x231, x232, x233, x234, x235, x236, x237, x238, x239, s240, s241, s242, s243, s244, s245, s246, s247, s248, s249, s250, s251, s252, s253, s254, s255, s256, s257, s258, s259, s260, s261, s262, s263, s264, s265, s266, s267], defers := [] } V) := by
          intro x6 x23 x133 x134 x135 x136 x137 x138 x139 x140 x141 x142 x143 x144 x145 x146 x147 x148 x149 x150 x151 x152 x153 x154 x155 x156 x157 x158 x159 x160 x161 x162 x163 x164 x165 x166 x167 x168 x169 x170 x171 x172 x173 x174 x175 x176 x177 x178 x179 x180 x181 x182 x183 x184 x185 x186 x187 x188 x189 x190 x191 x192 x193 x194 x195 x196 x197 x198 x199 x200 x201 x202 x203 x204 x205 x206 x207 x208 x209 x210 x211 x212 x213 x214 x215 x216 x217 x218 x219 x220 x221 x222 x223 x224 x225 x226 x227 x228 x229 x230 x231 x232 x233 x234 x235 x236 x237 x238 x239 V hd0 hq0
          have HD0 := Lib.hid (And.intro hd0 hq0)
          clear hd0 hq0
          refine HK17.out _ _ ?_
          clear HK17 K17
          refine wp_seq_hid ?_
          intro K19 HK19
          obtain ⟨lb2, lo2, le, _, _⟩ := (KD.out V HD0.out.1.below).2.1.light m hml
          go_upto_region 19 with fail
          refine wpIn_wide.1 (tru19 (bx := w.heap.size) (bw := wr.heap.size) (ba := b9.heap.size) (b5 := w.heap.size + 1) (now := now) (lo := s.lo) (hi := s.hi) (lg := (gs t.light m).lo) (v := m) (n := t.light.length) (ab := lb2) (ao := lo2) (ac := A.cl)
            (S0 := fun u => DrT b9 b9.heap.size (2 * k) u ∧ u.heap[wr.heap.size]? = some (.cells #[.int .i64 s.lo, .int .i64 s.hi] 33 (0, 0)))
            (S1 := fun x u => (0 ≤ x ∧ x ≤ 65535) ∧ DrT b9 b9.heap.size (2 * k + 1) u ∧ u.heap[wr.heap.size]? = some (.cells #[.int .i64 s.lo, .int .i64 s.hi] 33 (0, 0)))
            (S2 := fun x p u => (s.lo ≤ p ∧ p ≤ s.hi) ∧ DrT b9 b9.heap.size (2 * k + 1) u) hml ?h0 ?l1 ?c3 ?c4 ?l7 ?l11 ?hQ)
          case h0 => exact ⟨HD0.out.1.mono (Below.refl _ V).drew, HD0.out.2⟩
          case l1 =>
            intro x u h
            have hq : u.heap[wr.heap.size]? = some (.cells #[.int .i64 s.lo, .int .i64 s.hi] 33 (0, 0)) := h.elim (fun h => h.2) (fun h => h.2.2)
            exact ⟨by rw [cell_of_heap hq]; rfl, by rw [cell_of_heap hq]; rfl⟩
          case c3 => exact fun u h => (KC.out _ _ u (by have := HN.out.2.1; omega) (Nat.le_refl _) h.1).mono fun e w' ⟨x, h1, h2, h3, h4⟩ => ⟨x, h1, h2, h3, (h4.block _ (heap_lt h.2) HNE.out).trans h.2⟩
          case c4 => exact fun x u h => (pick36 HSO.out h.1).mono fun e w' ⟨p, h1, h2, h3⟩ => ⟨p, h1, h2, h.2.1.mono h3⟩
          case l7 =>
            intro x p u h
            have hb : Below b9.heap.size b9 u := h.elim (fun h => h.1.below) (fun h => h.elim (fun h => h.2.1.below) (fun h => h.2.below))
            have := (tr_cells (KD.out u hb).1).2.2.2.2
            rw [le] at this; exact this
          case l11 =>
            intro x p u h
            have hb : Below b9.heap.size b9 u := h.elim (fun h => h.1.below) (fun h => h.elim (fun h => h.2.1.below) (fun h => h.2.below))
            obtain ⟨_, _, e, d0, _⟩ := (KD.out u hb).2.1.light m hml
            rw [le] at e; cases e; exact d0
          rintro x p u ⟨hp, hd⟩
          have HU := Lib.hid hd
          clear hd le HD0
          have hlow := at_low HFT.out (order_view HVO.out.2) k hk
          have hnow := HI.out.now
          have ha1 : sel false (t.at_ o k).2 = (t.at_ o k).2.1 := rfl
          have ha2 : sel true (t.at_ o k).2 = (t.at_ o k).2.2 := rfl
          have hl16 := HN.out.2.1
          have hs3 := HSO.out
          have hwr : IntKind.i64.wrap (now + p) = now + p := IntWalk.i64_in _ (by omega)
          rw [hwr]
          have hb1 := minAt_low HFT.out (order_view HVO.out.2) true hlt
          obtain ⟨is, his⟩ : ∃ is, decide ((gs t.light m).hi < max (now + p) (gs t.light m).lo) = is := ⟨_, rfl⟩
          obtain ⟨sv, hsv⟩ : ∃ sv, ((m : Int) == v) = sv := ⟨_, rfl⟩
          obtain ⟨b, hb⟩ : ∃ b, max (now + p) (gs t.light m).lo = b := ⟨_, rfl⟩
          rw [hb] at his ⊢
          have hMt : (gi o k).toNat = m := by rw [HM.out]; rfl
          obtain ⟨n1, n2, n4, n0, nx⟩ := TrueI.next (is := is) (sv := sv) (b := b) (p := p) HF.out.2.2 (order_nodup HVO.out.2) hlt HI.out (by rw [← HS.out]; exact hp) (by rw [hMt]; exact hb) (by rw [hMt]; exact his) (by rw [HM.out]; exact hsv)
          rw [hMt] at nx
          have HX := Lib.hid (And.intro n4 (And.intro n0 nx))
          have HBB : Hid (-100000 ≤ b ∧ b ≤ 200000) := by
            have hb0 := minAt_low HFT.out (order_view HVO.out.2) false hlt
            show -100000 ≤ b ∧ b ≤ 200000
            omega
          clear hlow hnow ha1 ha2 hl16 hs3 hwr hb1 hb hMt n4 n0 nx hp
          have HKU := Lib.hid (KD.out u HU.out.below)
          obtain ⟨sb, so, se, d0, d1⟩ := HKU.out.2.2.2.1 k (by rw [HF.out.2.2.len]; exact hlt)
          subst se
          rw [HF.out.2.2.at_ k hlt] at d0 d1
          simp only at d0 d1
          have hg1 : decide (b < t.minAt false o k) = false := by simp; omega
          have hg2 : decide (t.minAt true o k < b) = false := by simp; omega
          have hkl : k < l.length := by rw [HF.out.2.2.len]; exact hlt
          clear n1 n2
          revert d0 d1 hg1 hg2
          generalize t.minAt false o k = M0
          generalize t.minAt true o k = M1
          intro d0 d1 hg1 hg2
          have HQ2 := Lib.hid (And.intro hg1 hg2)
          clear hg1 hg2
          refine HK19.out _ _ ?_
          clear HK19 K19
          refine wp_seq_hid ?_
          intro K20 HK20
          have hg1 := HQ2.out.1
          have hg2 := HQ2.out.2
          go_wp2_with fail
          refine HK20.out _ _ ?_
          clear HK20 K20
          clear hg1 hg2 HQ2 d0 d1
          obtain ⟨lb2, lo2, le, _, d1⟩ := HKU.out.2.1.light m hml
          obtain ⟨k0, k1, k2, k3, k4⟩ := tr_cells HKU.out.1
          rw [le] at k4
          refine wp_seq_hid ?_
          intro K22 HK22
          go_wp2_with fail
          refine HK22.out _ _ ?_
          clear HK22 K22
          clear d1 le k0 k1 k2 k3 k4 his
          refine wp_seq_hid2 ?_
          intro K24 HK24 K23 HK23
          have REST24 : Hid (∀ {x6 x23 x133 x134 x135 x136 x137 x138 x139 x140 x141 x142 x143 x144 x145 x146 x147 x148 x149 x150 x151 x152 x153 x154 x155 x156 x157 x158 x159 x160 x161 x162 x163 x164 x165 x166 x167 x168 x169 x170 x171 x172 x173 x174 x175 x176 x177 x178 x179 x180 x181 x182 x183 x184 x185 x186 x187 x188 x189 x190 x191 x192 x193 x194 x195 x196 x197 x198 x199 x200 x201 x202 x203 x204 x205 x206 x207 x208 x209 x210 x211 x212 x213 x214 x215 x216 x217 x218 x219 x220 x221 x222 x223 x224 x225 x226 x227 x228 x229 x230 x231 x232 x233 x234 x235 x236 x237 x238 x239 : Value} {q1 q2 : Bool}, q1 = (wb && !is) → q2 = (lt' || (g == 0 && sv)) → K24 { tmps := #[s0, .slice (some ⟨ab, ao, none⟩) o.length oc, s2, .pointer (some ⟨w.heap.size, 0, none⟩), s4, .pointer (some ⟨w.heap.size + 1, 0, none⟩), x6, .int .i64 wv, s8, .slice (some ⟨sb, so, none⟩) l.length cv, .pointer (some ⟨pb1, 0, none⟩), s11, .int .i64 v, .bool each, .int .i64 g, .pointer (some ⟨b9.heap.size, 0, none⟩), .func (.func 35) #[] #[.pointer (some ⟨b9.heap.size, 0, none⟩), .pointer (some ⟨w.heap.size + 1, 0, none⟩)], .int .i64 b, .bool q1, .bool q2, .int .i64 (k : Int), .int .i64 (m : Int), .pointer (some ⟨wr.heap.size, 0, none⟩), x23, s24, s25, s26, s27, s28, s29, s30, s31, s32, s33, s34, s35, s36, s37, s38, s39, s40, s41, s42, s43, s44, s45, s46, s47, s48, s49, s50, s51, s52, s53, s54, s55, s56, s57, s58, s59, s60, s61, s62, s63, s64, s65, s66, s67, s68, s69, s70, s71, s72, s73, s74, s75, s76, s77, s78, s79, s80, s81, s82, s83, s84, s85, s86, s87, s88, s89, s90, s91, s92, s93, s94, s95, s96, s97, s98, s99, s100, s101, s102, s103, s104, s105, s106, s107, s108, s109, s110, s111, s112, s113, s114, s115, s116, s117, s118, s119, s120, s121, s122, s123, s124, s125, s126, .func (.func 35) #[] #[.pointer (some ⟨b9.heap.size, 0, none⟩), .pointer (some ⟨w.heap.size + 1, 0, none⟩)], .pointer (some ⟨w.heap.size, 0, none⟩), .int .i64 t.dawn, .slice (some ⟨ab, ao, none⟩) o.length oc, .int .i64 (o.length : Int), .int .i64 (k : Int), x133, x134, x135, x136, x137, x138, x139, x140, x141, x142, x143, x144, x145, x146, x147, x148, x149, x150, x151, x152, x153, x154, x155, x156, x157, x158, x159, x160, x161, x162, x163, x164, x165, x166, x167, x168, x169, x170, x171, x172, x173, x174, x175, x176, x177, x178, x179, x180, x181, x182, x183, x184, x185, x186, x187, x188, x189, x190, x191, x192, x193, x194, x195, x196, x197, x198, x199, x200, x201, x202, x203, x204, x205, x206, x207, x208, x209, x210, x211, x212, x213, x214, x215, x216, x217, x218, x219, x220, x221, x222, x223, x224, x225, x226, x227, x228, x229, x230, x231, x232, x233, x234, x235, x236, x237, x238, x239, s240, s241, s242, s243, s244, s245, s246, s247, s248, s249, s250, s251, s252, s253, s254, s255, s256, s257, s258, s259, s260, s261, s262, s263, s264, s265, s266, s267], defers := [] } u) := by
            intro x6 x23 x133 x134 x135 x136 x137 x138 x139 x140 x141 x142 x143 x144 x145 x146 x147 x148 x149 x150 x151 x152 x153 x154 x155 x156 x157 x158 x159 x160 x161 x162 x163 x164 x165 x166 x167 x168 x169 x170 x171 x172 x173 x174 x175 x176 x177 x178 x179 x180 x181 x182 x183 x184 x185 x186 x187 x188 x189 x190 x191 x192 x193 x194 x195 x196 x197 x198 x199 x200 x201 x202 x203 x204 x205 x206 x207 x208 x209 x210 x211 x212 x213 x214 x215 x216 x217 x218 x219 x220 x221 x222 x223 x224 x225 x226 x227 x228 x229 x230 x231 x232 x233 x234 x235 x236 x237 x238 x239 q1 q2 hq1 hq2
            clear HK23 K23
            refine HK24.out _ _ ?_
            clear HK24 K24
            obtain ⟨tb, to_, te, _, _⟩ := HKU.out.2.1.stay m hms
            have hz := (ok_iff _).1 (HFT.out.oks m hmn)
            have HZ := Lib.hid hz
            have HQQ := Lib.hid (And.intro hq1 hq2)
            clear hz hq1 hq2 hsv
            go_upto_region 26 with fail
            refine wpIn_wide.1 (tru26 (bx := w.heap.size) (ba := b9.heap.size) (b5 := w.heap.size + 1) (now := b) (lo := (gs t.stay m).lo) (hi := (gs t.stay m).hi) (v := m) (n := t.stay.length) (ab := tb) (ao := to_) (ac := A.cs)
              (S0 := fun u => DrT b9 b9.heap.size (2 * k + 1) u)
              (S1 := fun x u => (0 ≤ x ∧ x ≤ 65535) ∧ DrT b9 b9.heap.size (2 * k + 2) u)
              (S2 := fun x p u => ((gs t.stay m).lo ≤ p ∧ p ≤ (gs t.stay m).hi) ∧ DrT b9 b9.heap.size (2 * k + 2) u) hms ?h0 ?l2 ?l5 ?c7 ?c8 ?hQ2)
            case h0 => exact HU.out.mono (Below.refl _ _).drew
            case l2 =>
              intro x u h
              have hb : Below b9.heap.size b9 u := h.elim (fun h => h.below) (fun h => h.2.below)
              have := (tr_cells (KD.out u hb).1).2.2.2.1
              rw [te] at this; exact this
            case l5 =>
              intro x u h
              have hb : Below b9.heap.size b9 u := h.elim (fun h => h.below) (fun h => h.2.below)
              obtain ⟨_, _, e, d0, d1⟩ := (KD.out u hb).2.1.stay m hms
              rw [te] at e; cases e; exact ⟨d0, d1⟩
            case c7 => exact fun u h => (KC.out _ _ u (by have := HN.out.2.1; omega) (Nat.le_refl _) h).mono fun e w' ⟨x, h1, h2, h3, h4⟩ => ⟨x, h1, h2, h3⟩
            case c8 => exact fun x u h => (pick36 HZ.out h.1).mono fun e w' ⟨p, h1, h2, h3⟩ => ⟨p, h1, h2, h.2.mono h3⟩
            rintro x p u2 ⟨hp, hd⟩
            have HU2 := Lib.hid hd
            have hz := HZ.out
            have hbb := HBB.out
            have hwr : IntKind.i64.wrap (b + p) = b + p := IntWalk.i64_in _ (by omega)
            rw [hwr]
            have HNX := Lib.hid (HX.out.2.2 p hp)
            clear hd te hz hbb hwr hp
            have hol := HN.out.2.1
            go_wp2_with fail
            refine HKLB.out _ _ ?_
            go_wp2_with fail
            go_roundw
            case rel => exact ⟨k + 1, b + p, q1, q2, by omega, rfl, rfl, rfl, by go_num, by rw [HQQ.out.1, HQQ.out.2]; exact HNX.out, HU2.out⟩
            case measure => simp [intOf]; omega
          clear HK24
          have HGW := Lib.hid HF.out.2.2.gw
          rcases HGW.out with ⟨g4, -⟩ | ⟨g0, -⟩
          case inl =>
            obtain ⟨e1, e2, e3⟩ := HX.out.1 g4
            subst g4 e1 e2 e3
            go_wp2_with fail
            refine HK23.out _ _ ?_
            go_wp2_with fail
            refine REST24.out ?_ ?_
            · rfl
            · simp
          subst g0
          obtain ⟨h1, h2⟩ := HX.out.2.1 rfl
          have HO := Lib.hid (And.intro h1 h2)
          clear h1 h2 HX HGW
          cases sv
          all_goals cases is
          all_goals cases lt'
          all_goals cases wb
          all_goals cases each
          all_goals first
            | (have h := HO.out; simp at h; done)
            | skip
          all_goals
            clear HO
            go_wp2_with fail
            refine HK23.out _ _ ?_
            go_wp2_with fail
            refine REST24.out ?_ ?_ <;> simp
        by_cases hk0 : k = 0
        · have hg0 : decide (0 < k) = false := by simp; omega
          have HWF : gs t.frm m = s := by rw [HS.out]; have := HM.out; subst hk0; rw [wayAt_zero, this, Int.toNat_natCast]
          rw [HWF] at HV
          clear hk0 HWF
          go_wp2_with fail
          exact REST17.out HV.out.1 HV.out.2.2
        · have hg0 : decide (0 < k) = true := by simp; omega
          have HK0 := Lib.hid hk0
          clear hk0
          go_upto_region 18 with fail
          obtain ⟨j, hkj0⟩ : ∃ j : Nat, k = j + 1 := ⟨k - 1, by have := HK0.out; omega⟩
          have HKJ := Lib.hid hkj0
          have hjk : j < k := by omega
          have hol := HN.out.2.1
          clear hkj0
          obtain ⟨mp, hmp, hmpn⟩ := view_nat (order_view HVO.out.2 _ (gi_mem' (show j < o.length by omega)))
          obtain ⟨wb2, wo, we, rai, rc, r0, r1⟩ := HKD.out.2.1.ways mp (by have := HFT.out.ways; omega)
          have hrow := HFT.out.rows mp hmpn
          obtain ⟨rb, ro, re, p0, p1⟩ := r1 m (by omega)
          subst re
          have k2 := (tr_cells HKD.out.1).2.2.1
          rw [we] at k2
          have hs' : gs (gw t.ways mp) m = s := by
            rw [HS.out]
            have := wayAt_succ t (o := o) (j := j) (by omega) (by omega)
            rw [← HKJ.out, hmp, HM.out, Int.toNat_natCast, Int.toNat_natCast] at this
            exact this.symm
          rw [hs'] at p0 p1
          obtain ⟨_, _, hee, hcj⟩ := HKD.out.2.2.1 j (by omega)
          cases hee
          rw [hmp] at hcj
          have hV0 := HV.out.2.1
          have hV0s := heap_lt HV.out.2.2
          have hwV : wr.heap.size ≤ V0.heap.size := hV0.size
          refine wpIn_wide.1 (tru18 (bx := w.heap.size) (sb := wr.heap.size) (k := k) (v := m) (cap := oc) (n := o.length) (ab := ab) (ao := ao) (j := j) (m := mp) (wb := wb2) (wo := wo) (wn := t.ways.length) (wc := A.cw) (rb := rb) (ro := ro) (rn := (gw t.ways mp).length) (rc := rc) (s := s)
            (S0 := fun u => Below V0.heap.size V0 u) (S1 := fun u => DrT b9 b9.heap.size (2 * k) u ∧ u.heap[wr.heap.size]? = some (.cells #[.int .i64 s.lo, .int .i64 s.hi] 33 (0, 0))) ?a1 ?a2 ?a3 ?a4 ?h0 ?l1 ?l6 ?l8 ?l11 ?c12 ?hQ3)
          case a1 =>
            have e : ((k : Int) - 1) = (j : Int) := by have := HKJ.out; omega
            rw [e]; exact IntWalk.i64_in _ (by omega)
          case a2 => omega
          case a3 => have := HFT.out.ways; omega
          case a4 => omega
          case h0 => exact (Below.refl _ V0).drew
          case l1 => exact fun u hu => cell_stays hu (cell_stays hV0 k2)
          case l6 => exact fun u hu => cell_stays hu (cell_stays hV0 hcj)
          case l8 => exact fun u hu => cell_stays hu (cell_stays hV0 r0)
          case l11 => exact fun u hu => ⟨cell_stays hu (cell_stays hV0 p0), cell_stays hu (cell_stays hV0 p1)⟩
          case c12 =>
            intro u hu
            have hq := (hu.block _ hV0s).trans HV.out.2.2
            have hb2 : Below wr.heap.size wr ((u.setCell ⟨wr.heap.size, 0, none⟩ (.int .i64 s.lo)).setCell ⟨wr.heap.size, 1, none⟩ (.int .i64 s.hi)) := ((hV0.trans (hu.mono hwV)).setCell (Nat.le_refl _) _).setCell (Nat.le_refl _) _
            refine ⟨⟨_, by rw [cell_of_heap hq]; rfl⟩, frozen_of_heap hq, ⟨_, by rw [cell_of_heap hq]; rfl⟩, frozen_of_heap hq, HDR.out.mono hb2, heap_setCell_at (k := 1) (heap_setCell_at (k := 0) hq _) _⟩
          intro V hvv
          go_wp2_with fail
          exact REST17.out hvv.1 hvv.2
      · obtain rfl : k = o.length := by omega
        have hbd := HI.out.now
        have x0 : wr.cell? ⟨pb1, 0, none⟩ = some (.int .i64 lo) := by rw [cell_of_heap HKD.out.2.2.2.2.1]; rfl
        have x1 : wr.cell? ⟨pb1, 1, none⟩ = some (.int .i64 hx) := by rw [cell_of_heap HKD.out.2.2.2.2.1]; rfl
        have hg1 : decide (lo ≤ now) = true := by have := HF.out.1; simp; omega
        have hg2 : decide (now ≤ hx) = true := by have := HF.out.2.1; simp; omega
        obtain ⟨e2, e0⟩ := TrueI.end_ HF.out.2.2 HI.out
        have hx3 : (wb = true ∧ (wv != 2) = false ∧ (wv != 0) = true) ∨ (wb = false ∧ (wv != 2) = true ∧ (wv != 0) = false) ∨ ((wv != 2) = true ∧ (wv != 0) = true) := by
          by_cases h2 : wv = 2
          · exact .inl ⟨e2 h2, by simpa using h2, by simp; omega⟩
          · by_cases h0 : wv = 0
            · exact .inr (.inl ⟨e0 h0, by simpa using h2, by simpa using h0⟩)
            · exact .inr (.inr ⟨by simpa using h2, by simpa using h0⟩)
        clear hbd e2 e0
        rcases hx3 with ⟨rfl, y2, y0⟩ | ⟨rfl, y2, y0⟩ | ⟨y2, y0⟩
        all_goals
          go_wp2_with fail
          refine HK13.out _ _ ?_
          go_wp2_with fail
          refine (alive13 _).mono ?_
          rintro e c1 ⟨rfl, hb⟩
          have HX := Lib.hid (HDR.out.below.trans (hb.mono HDR.out.below.size))
          clear hb
          go_wp2_with fail
          go_ret
          exact ⟨rfl, (KD.out _ HX.out).2.2.2.2.2⟩
  clear HK8
  rcases HF.out.2.2.gw with ⟨g4, w2⟩ | ⟨g0, hwv⟩
  · subst g4 w2
    clear HF
    go_wp2_with fail
    exact REST.out
  · subst g0
    have hwb : (wv == 2) = false := by simpa using hwv
    clear HF
    go_wp2_with fail
    exact REST.out
end Go.Proofs.Ytphefhpmbahagaa
