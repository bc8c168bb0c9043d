/- WalkShortest: the walk. -/
import Derived.Test.YtphefhpmbahagaaT72
import Derived.Test.YtphefhpmbahagaaT52
namespace Go.Proofs.Ytphefhpmbahagaa
open Go.RowKit
set_option linter.unusedVariables false
set_option linter.unusedSimpArgs false

structure OwnFacts (t : Tr) (own : List Int) (ca e wv : Int) (l : List Int) : Prop where
  w2 : wv = 2 → e = 0
  w0 : wv ≠ 0 → 0 < ca
  best : e = 0 → wv = 2 → t.takes l ≤ t.takes own ∧
    (t.takes own = t.takes l → ∀ c, c < t.frm.length → (∀ j, j < c → gi own j = gi l j) → gi own c ≠ gi l c → gi l c < gi own c)
structure ShortAll (t : Tr) (su ca e : Int) (l most : List Int) : Prop where
  su0 : 0 ≤ su
  suca : su ≤ ca
  ca7 : ca ≤ 720
  esu : (e == 0) = decide (0 < su)
  ord : t.order most = true
  mlen : most.length ≤ 6
  e04 : e = 0 ∨ (e = 4 ∧ l = [] ∧ most.length < t.frm.length)
  best : e = 0 → l.length = t.frm.length ∧ most = l ∧ t.order l = true ∧ walkedE t l = (2, 0)
  own : ∀ {own : List Int}, IsPerm t.frm.length own → ∃ wv, walkedE t own = (wv, 0) ∧ OwnFacts t own ca e wv l
theorem short_all {t : Tr} (hv : t.valid = true) : ∃ su ca e l most, shortE t = (l, e) ∧ toursE t = (su, ca, 0) ∧ mostE t = (most, 0) ∧ ShortAll t su ca e l most := by
  obtain ⟨su, ca, e, wv, l, most, h1, h2, h3, h4, F⟩ := short_facts hv (perm_range _)
  refine ⟨su, ca, e, l, most, h1, h2, h3, F.su0, F.suca, F.ca7, F.esu, F.ord, F.mlen, F.e04, fun h => ⟨(F.best h).1, (F.best h).2.1, (F.best h).2.2.1, (F.best h).2.2.2.1⟩, fun {own} hp => ?_⟩
  obtain ⟨su', ca', e', wv', l', most', g1, g2, g3, g4, G⟩ := short_facts hv hp
  rw [h1] at g1; rw [h2] at g2
  obtain ⟨rfl, rfl⟩ := Prod.mk.inj g1
  obtain ⟨rfl, g5⟩ := Prod.mk.inj g2
  obtain ⟨rfl, _⟩ := Prod.mk.inj g5
  exact ⟨wv', g4, G.w2, G.w0, fun h => (G.best h).2.2.2.2⟩
set_option maxRecDepth 100000 in
set_option maxHeartbeats 8000000 in
theorem walkShortest_any {t : Tr} {A : TrA} {w : World} (ht : IsTr w t A) (hw : t.ways.length ≤ 9223372036854775807) {ub : Option Addr} {lb cb : Nat} (hu : IsU8 w ub lb) (hlb : lb ≤ 9223372036854775807) :
    Calls Try.prog 7 #[t.v A, .slice ub lb cb] w fun e w' => e = .returned (.bool true) ∧ Below w.heap.size w w' := by
  have hb0 : Below w.heap.size w (w.alloc (.cells (t.cells A) 25)) := (Below.refl _ w).alloc (Nat.le_refl _) _
  have q0 := World.alloc_heap_new w (.cells (t.cells A) 25)
  have HW := Lib.hid (And.intro hb0 (And.intro q0 (And.intro (ht.mono hb0) (hu.mono hb0))))
  have HG : Hid (∀ v, IsTr v t A → Calls Try.prog 12 #[t.v A, .slice none 0 0, .int .i64 6] v fun e w' => e = .returned (.bool (t.great [] 6)) ∧ Below v.heap.size v w') := fun v h => great12 (o := []) (a := none) (cap := 0) h hw 6
  have HLB := Lib.hid hlb
  clear hb0 q0 hu ht hw hlb
  go_enter Try.func7, Try.ntmps7
  refine wp_seq_hid ?_
  intro K0 HK0
  go_wp2_with fail
  refine HK0.out _ _ ?_
  refine wp_seq_hid ?_
  intro K1 HK1
  revert HW
  generalize w.alloc (.cells (t.cells A) 25) = w1
  intro HW
  have KP : Hid (∀ v, Below w1.heap.size w1 v → v.heap[w.heap.size]? = some (.cells (t.cells A) 25 (0, 0)) ∧ IsTr v t A ∧ IsU8 v ub lb ∧ Below w.heap.size w v) := fun v h => ⟨(h.block _ (heap_lt HW.out.2.1)).trans HW.out.2.1, HW.out.2.2.1.mono h, HW.out.2.2.2.mono h, HW.out.1.trans (h.mono HW.out.1.size)⟩
  have HWL : Hid (w.heap.size < w1.heap.size) := heap_lt HW.out.2.1
  have HB := Lib.hid (Below.refl w1.heap.size w1)
  obtain ⟨k0, k1, k2, k3, k4⟩ := tr_cells (KP.out w1 HB.out).1
  go_wp2_with fail
  refine (HG.out _ (KP.out w1 HB.out).2.1).mono ?_
  rintro e b1 ⟨rfl, hb⟩
  have HX := Lib.hid (HB.out.trans (hb.mono HB.out.size))
  clear hb HB HG k0 k1 k2 k3 k4
  have HB := HX
  clear HX
  cases hg : t.great [] 6
  case true =>
    go_wp2_with fail
    refine (alive13 _).mono ?_
    rintro e c1 ⟨rfl, hb⟩
    have HX := Lib.hid (HB.out.trans (hb.mono HB.out.size))
    clear hb
    go_wp2_with fail
    go_ret
    exact ⟨rfl, (KP.out _ HX.out).2.2.2⟩
  have HN := Lib.hid (great_no hg)
  clear hg
  go_wp2_with fail
  refine HK1.out _ _ ?_
  clear HK1 K1
  clear HK0 K0
  have C25 : Hid (∀ (l : List Int) (x : Int), shortE t = (l, x) → ∀ v, Below w1.heap.size w1 v → Calls Try.prog 25 #[t.v A] v fun e w' => ∃ av cv, e = .returned (.tuple #[.slice av l.length cv, .int .i64 x]) ∧ IsInts w' av l ∧ Below v.heap.size v w') := fun l x he v h => by
    refine (shortest25 (KP.out v h).2.1 HN.out.1).mono ?_
    rw [he]
    rintro e w' ⟨⟨po, ov, pa, pc⟩, rfl, ho, hat, hb⟩
    have ho : po = l := ho
    subst ho
    exact ⟨pa, pc, rfl, hat.ints, hb⟩
  have C27 : Hid (∀ (l : List Int) (x : Int), mostE t = (l, x) → ∀ v, Below w1.heap.size w1 v → Calls Try.prog 27 #[t.v A] v fun e w' => ∃ av cv, e = .returned (.tuple #[.slice av l.length cv, .int .i64 x]) ∧ IsInts w' av l ∧ Below v.heap.size v w') := fun l x he v h => by
    refine (most27 (KP.out v h).2.1 HN.out.1).mono ?_
    rw [he]
    rintro e w' ⟨⟨po, ov, pa, pc⟩, rfl, ho, hat, hb⟩
    have ho : po = l := ho
    subst ho
    exact ⟨pa, pc, rfl, hat.ints, hb⟩
  have C23 : Hid (∀ (a b x : Int), toursE t = (a, b, x) → ∀ v, Below w1.heap.size w1 v → Calls Try.prog 23 #[t.v A] v fun e w' => e = .returned (.tuple #[.int .i64 a, .int .i64 b, .int .i64 x]) ∧ Below v.heap.size v w') := fun a b x he v h => by
    have := tours23 (KP.out v h).2.1 HN.out.1
    rw [he] at this; exact this
  have C33 : Hid (∀ (q : Bool), t.valid = q → ∀ v, Below w1.heap.size w1 v → Calls Try.prog 33 #[t.v A] v fun e w' => e = .returned (.bool q) ∧ Below v.heap.size v w') := fun q he v h => by
    have := rtour33 (KP.out v h).2.1 HN.out.1
    rw [he] at this; exact this
  cases hv : t.valid
  case false =>
    have HE := Lib.hid (short_err hv)
    refine wp_seq_hid ?_
    intro K3 HK3
    obtain ⟨k0, k1, k2, k3, k4⟩ := tr_cells (KP.out b1 HB.out).1
    go_wp2_with fail
    refine (C25.out _ _ HE.out.1 _ HB.out).mono ?_
    rintro e b2 ⟨av1, cv1, rfl, hs1, hb⟩
    have HX := Lib.hid (And.intro (HB.out.trans (hb.mono HB.out.size)) hs1)
    clear hb HB k0 k1 k2 k3 k4 hs1
    have HB := HX
    clear HX
    go_wp2_with fail
    refine HK3.out _ _ ?_
    clear HK3 K3
    refine wp_seq_hid ?_
    intro K4 HK4
    obtain ⟨k0, k1, k2, k3, k4⟩ := tr_cells (KP.out b2 HB.out.1).1
    go_wp2_with fail
    refine (C23.out _ _ _ HE.out.2.1 _ HB.out.1).mono ?_
    rintro e b3 ⟨rfl, hb⟩
    have HX := Lib.hid (And.intro (HB.out.1.trans (hb.mono HB.out.1.size)) (HB.out.2.mono hb))
    clear hb HB k0 k1 k2 k3 k4
    have HB := HX
    clear HX
    go_wp2_with fail
    refine HK4.out _ _ ?_
    clear HK4 K4
    refine wp_seq_hid ?_
    intro K5 HK5
    obtain ⟨k0, k1, k2, k3, k4⟩ := tr_cells (KP.out b3 HB.out.1).1
    go_wp2_with fail
    refine (C27.out _ _ HE.out.2.2 _ HB.out.1).mono ?_
    rintro e b4 ⟨av2, cv2, rfl, hs2, hb⟩
    have HX := Lib.hid (And.intro (HB.out.1.trans (hb.mono HB.out.1.size)) (And.intro (HB.out.2.mono hb) hs2))
    clear hb HB k0 k1 k2 k3 k4 hs2
    have HB := HX
    clear HX
    go_wp2_with fail
    refine HK5.out _ _ ?_
    clear HK5 K5
    have HV := Lib.hid hv
    clear hv
    refine wp_seq_hid ?_
    intro K6 HK6
    obtain ⟨k0, k1, k2, k3, k4⟩ := tr_cells (KP.out b4 HB.out.1).1
    go_wp2_with fail
    refine (C33.out _ HV.out _ HB.out.1).mono ?_
    rintro e b5 ⟨rfl, hb⟩
    have HX := Lib.hid (And.intro (HB.out.1.trans (hb.mono HB.out.1.size)) (And.intro (HB.out.2.1.mono hb) (HB.out.2.2.mono hb)))
    clear hb HB k0 k1 k2 k3 k4
    have HB := HX
    clear HX
    go_wp2_with fail
    refine (alive13 _).mono ?_
    rintro e c1 ⟨rfl, hb⟩
    have HX := Lib.hid (HB.out.1.trans (hb.mono HB.out.1.size))
    clear hb
    go_wp2_with fail
    go_ret
    exact ⟨rfl, (KP.out _ HX.out).2.2.2⟩
  case true =>
    have HV := Lib.hid hv
    clear hv
    obtain ⟨su, ca, le, l, most, hS, hT, hM, hF⟩ := short_all HV.out
    have HE := Lib.hid (And.intro hS (And.intro hT hM))
    have HF := Lib.hid hF
    clear hS hT hM hF
    refine wp_seq_hid ?_
    intro K3 HK3
    obtain ⟨k0, k1, k2, k3, k4⟩ := tr_cells (KP.out b1 HB.out).1
    go_wp2_with fail
    refine (C25.out _ _ HE.out.1 _ HB.out).mono ?_
    rintro e b6 ⟨av1, cv1, rfl, hs1, hb⟩
    have HX := Lib.hid (And.intro (HB.out.trans (hb.mono HB.out.size)) hs1)
    clear hb HB k0 k1 k2 k3 k4 hs1
    have HB := HX
    clear HX
    go_wp2_with fail
    refine HK3.out _ _ ?_
    clear HK3 K3
    refine wp_seq_hid ?_
    intro K4 HK4
    obtain ⟨k0, k1, k2, k3, k4⟩ := tr_cells (KP.out b6 HB.out.1).1
    go_wp2_with fail
    refine (C23.out _ _ _ HE.out.2.1 _ HB.out.1).mono ?_
    rintro e b7 ⟨rfl, hb⟩
    have HX := Lib.hid (And.intro (HB.out.1.trans (hb.mono HB.out.1.size)) (HB.out.2.mono hb))
    clear hb HB k0 k1 k2 k3 k4
    have HB := HX
    clear HX
    go_wp2_with fail
    refine HK4.out _ _ ?_
    clear HK4 K4
    refine wp_seq_hid ?_
    intro K5 HK5
    obtain ⟨k0, k1, k2, k3, k4⟩ := tr_cells (KP.out b7 HB.out.1).1
    go_wp2_with fail
    refine (C27.out _ _ HE.out.2.2 _ HB.out.1).mono ?_
    rintro e b8 ⟨av2, cv2, rfl, hs2, hb⟩
    have HX := Lib.hid (And.intro (HB.out.1.trans (hb.mono HB.out.1.size)) (And.intro (HB.out.2.mono hb) hs2))
    clear hb HB k0 k1 k2 k3 k4 hs2
    have HB := HX
    clear HX
    go_wp2_with fail
    refine HK5.out _ _ ?_
    clear HK5 K5
    clear C25 C27 C23
    refine wp_seq_hid ?_
    intro K6 HK6
    go_wp2_with fail
    refine HK6.out _ _ ?_
    clear HK6 K6
    refine wp_seq_hid ?_
    intro K8 HK8
    obtain ⟨k0, k1, k2, k3, k4⟩ := tr_cells (KP.out b8 HB.out.1).1
    go_wp2_with fail
    refine HK8.out _ _ ?_
    clear HK8 K8
    clear k0 k1 k2 k3 k4
    have h6 : t.frm.length ≤ 6 := (fit_of_valid HV.out).n
    have HML : Hid (most.length ≤ 16) := by have := HF.out.mlen; show most.length ≤ 16; omega
    have g1 : decide (su < 0) = false := by have := HF.out.su0; simp; omega
    have g2 : decide (ca < su) = false := by have := HF.out.suca; simp; omega
    have g3 : decide (720 < ca) = false := by have := HF.out.ca7; simp; omega
    obtain ⟨q, g4, g5⟩ : ∃ q : Bool, (le == 0) = q ∧ decide (0 < su) = q := ⟨_, HF.out.esu, rfl⟩
    have g6 : (q != q) = false := by simp
    refine wp_seq_hid ?_
    intro K9 HK9
    obtain ⟨k0, k1, k2, k3, k4⟩ := tr_cells (KP.out b8 HB.out.1).1
    go_wp2_with fail
    refine (C33.out _ HV.out _ HB.out.1).mono ?_
    rintro e b9 ⟨rfl, hb⟩
    have HX := Lib.hid (And.intro (HB.out.1.trans (hb.mono HB.out.1.size)) (And.intro (HB.out.2.1.mono hb) (HB.out.2.2.mono hb)))
    clear hb HB C33 k0 k1 k2 k3 k4
    have HB := HX
    clear HX
    obtain ⟨k0, k1, k2, k3, k4⟩ := tr_cells (KP.out b9 HB.out.1).1
    have C34 := rorder34 (cap := cv2) (KP.out b9 HB.out.1).2.1 (by omega) HML.out HB.out.2.2
    rw [HF.out.ord] at C34
    go_wp2_with fail
    refine C34.mono ?_
    rintro e c0 ⟨rfl, hb⟩
    clear C34
    have HX := Lib.hid (And.intro (HB.out.1.trans (hb.mono HB.out.1.size)) (And.intro (HB.out.2.1.mono hb) (HB.out.2.2.mono hb)))
    clear hb HB k0 k1 k2 k3 k4
    have HB := HX
    clear HX
    go_wp2_with fail
    refine HK9.out _ _ ?_
    clear HK9 K9
    clear g1 g2 g3 g4 g5 g6
    refine wp_seq_hid ?_
    intro K11 HK11
    go_wp2_with fail
    refine (other37 (n := t.frm.length) (cb := cb) (by omega) (KP.out c0 HB.out.1).2.2.1 HLB.out).mono ?_
    rintro e c1 ⟨own, ao, co, rfl, hp, hs3, hb⟩
    have HP := Lib.hid hp
    clear hp
    have HX := Lib.hid (And.intro (HB.out.1.trans (hb.mono HB.out.1.size)) (And.intro (HB.out.2.1.mono hb) (And.intro (HB.out.2.2.mono hb) hs3)))
    clear hb HB hs3
    have HB := HX
    clear HX
    go_wp2_with fail
    refine HK11.out _ _ ?_
    clear HK11 K11
    obtain ⟨wv, hW, hX⟩ := HF.out.own HP.out
    have HX2 := Lib.hid hX
    have HOE := Lib.hid (openE_mk HV.out (order_mk HP.out.2.1 HP.out.2.2))
    have HOL : Hid (own.length ≤ 16) := by have := HP.out.1; show own.length ≤ 16; omega
    have C14 : Hid (∀ (o : List Int) (x : Int) (a : Option Addr) (c : Nat), walkedE t o = (x, 0) → o.length ≤ 16 → ∀ v, Below w1.heap.size w1 v → IsInts v a o → Calls Try.prog 14 #[t.v A, .slice a o.length c] v fun e w' => e = .returned (.tuple #[.int .i64 x, .int .i64 0]) ∧ Below v.heap.size v w') := fun o x a c he hl v h ha => by
      have := walked14 (cap := c) (KP.out v h).2.1 HN.out.1 hl ha
      rw [he] at this; exact this
    have HWE := Lib.hid hW
    clear hW hX
    refine wp_seq_hid ?_
    intro K12 HK12
    obtain ⟨k0, k1, k2, k3, k4⟩ := tr_cells (KP.out c1 HB.out.1).1
    go_wp2_with fail
    refine (C14.out _ _ _ _ HWE.out HOL.out _ HB.out.1 HB.out.2.2.2).mono ?_
    rintro e b10 ⟨rfl, hb⟩
    have HX := Lib.hid (And.intro (HB.out.1.trans (hb.mono HB.out.1.size)) (And.intro (HB.out.2.1.mono hb) (And.intro (HB.out.2.2.1.mono hb) (HB.out.2.2.2.mono hb))))
    clear hb HB k0 k1 k2 k3 k4
    have HB := HX
    clear HX
    go_wp2_with fail
    refine HK12.out _ _ ?_
    clear HK12 K12
    refine wp_seq_hid ?_
    intro K13 HK13
    rcases HF.out.e04 with rfl | ⟨rfl, rfl, hml⟩
    · have REST : Hid (∀ {s0 s1 s3 s7 s8 s9 s11 s15 s16 s17 s18 s19 s20 s21 s22 s23 s24 s25 s26 s27 s28 s29 s30 s31 s32 s33 s34 s35 s36 s37 s38 s39 s40 s41 s42 s43 s44 s45 s46 s47 s48 s49 s50 s51 s52 s53 s54 s55 s56 s57 s58 s59 s60 s61 s62 s63 s64 s65 s66 s67 s68 s69 s70 s71 s72 s73 s74 s75 s76 s77 s78 s79 s80 s81 s82 s83 s84 s85 s86 s87 s88 s89 s90 s91 s92 s93 s94 s95 s96 s97 s98 s99 s100 s101 s102 s103 s104 s105 s106 s107 s108 s109 s110 s111 s112 s113 s114 s115 s116 s117 s118 s119 s120 s121 s122 s123 s124 s125 s126 s127 s128 s129 s130 s131 s132 s133 s134 s135 s136 s137 s138 s139 s140 s141 s142 s143 s144 s145 s146 s147 s148 s149 s150 s151 s152 s153 s154 s155 s156 s157 s158 s159 s160 s161 s162 s163 s164 s165 s166 s167 s168 s169 s170 s171 s172 s173 s174 s175 s176 s177 s178 s179 s180 s181 s182 s183 s184 s185 s186 s187 s188 s189 s190 s191 s192 s193 s194 s195 s196 s197 s198 s199 s200 s201 s202 s203 s204 s205 s206 s207 s208 s209 s210 s211 s212 s213 s214 s215 s216 s217 s218 s219 s220 s221 s222 s223 s224 s225 s226 s227 s228 s229 s230 s231 s232 s233 s234 s235 s236 s237 s238 s239 s240 s241 s242 s243 s244 s245 s246 s247 s248 s249 s250 s251 s252 s253 : Value} {v : World}, Below w1.heap.size w1 v → IsInts v av1 l → IsInts v av2 most → IsInts v ao own → K13 { tmps := #[s0, s1, .pointer (some ⟨w.heap.size, 0, none⟩), s3, .bool false, .slice av1 l.length cv1, .int .i64 0, s7, s8, s9, .slice av2 most.length cv2, s11, .int .i64 (t.frm.length : Int), .slice ao own.length co, .int .i64 wv, s15, s16, s17, s18, s19, s20, s21, s22, s23, s24, s25, s26, s27, s28, s29, s30, s31, s32, s33, s34, s35, s36, s37, s38, s39, s40, s41, s42, s43, s44, s45, s46, s47, s48, s49, s50, s51, s52, s53, s54, s55, s56, s57, s58, s59, s60, s61, s62, s63, s64, s65, s66, s67, s68, s69, s70, s71, s72, s73, s74, s75, s76, s77, s78, s79, s80, s81, s82, s83, s84, s85, s86, s87, s88, s89, s90, s91, s92, s93, s94, s95, s96, s97, s98, s99, s100, s101, s102, s103, s104, s105, s106, s107, s108, s109, s110, s111, s112, s113, s114, s115, s116, s117, s118, s119, s120, s121, s122, s123, s124, s125, s126, s127, s128, s129, s130, s131, s132, s133, s134, s135, s136, s137, s138, s139, s140, s141, s142, s143, s144, s145, s146, s147, s148, s149, s150, s151, s152, s153, s154, s155, s156, s157, s158, s159, s160, s161, s162, s163, s164, s165, s166, s167, s168, s169, s170, s171, s172, s173, s174, s175, s176, s177, s178, s179, s180, s181, s182, s183, s184, s185, s186, s187, s188, s189, s190, s191, s192, s193, s194, s195, s196, s197, s198, s199, s200, s201, s202, s203, s204, s205, s206, s207, s208, s209, s210, s211, s212, s213, s214, s215, s216, s217, s218, s219, s220, s221, s222, s223, s224, s225, s226, s227, s228, s229, s230, s231, s232, s233, s234, s235, s236, s237, s238, s239, s240, s241, s242, s243, s244, s245, s246, s247, s248, s249, s250, s251, s252, s253], defers := [] } v) := by
        intro s0 s1 s3 s7 s8 s9 s11 s15 s16 s17 s18 s19 s20 s21 s22 s23 s24 s25 s26 s27 s28 s29 s30 s31 s32 s33 s34 s35 s36 s37 s38 s39 s40 s41 s42 s43 s44 s45 s46 s47 s48 s49 s50 s51 s52 s53 s54 s55 s56 s57 s58 s59 s60 s61 s62 s63 s64 s65 s66 s67 s68 s69 s70 s71 s72 s73 s74 s75 s76 s77 s78 s79 s80 s81 s82 s83 s84 s85 s86 s87 s88 s89 s90 s91 s92 s93 s94 s95 s96 s97 s98 s99 s100 s101 s102 s103 s104 s105 s106 s107 s108 s109 s110 s111 s112 s113 s114 s115 s116 s117 s118 s119 s120 s121 s122 s123 s124 s125 s126 s127 s128 s129 s130 s131 s132 s133 s134 s135 s136 s137 s138 s139 s140 s141 s142 s143 s144 s145 s146 s147 s148 s149 s150 s151 s152 s153 s154 s155 s156 s157 s158 s159 s160 s161 s162 s163 s164 s165 s166 s167 s168 s169 s170 s171 s172 s173 s174 s175 s176 s177 s178 s179 s180 s181 s182 s183 s184 s185 s186 s187 s188 s189 s190 s191 s192 s193 s194 s195 s196 s197 s198 s199 s200 s201 s202 s203 s204 s205 s206 s207 s208 s209 s210 s211 s212 s213 s214 s215 s216 s217 s218 s219 s220 s221 s222 s223 s224 s225 s226 s227 s228 s229 s230 s231 s232 s233 s234 s235 s236 s237 s238 s239 s240 s241 s242 s243 s244 s245 s246 s247 s248 s249 s250 s251 s252 s253 v HBv hi1 hi2 hi3
        have HB := Lib.hid (And.intro HBv (And.intro hi1 (And.intro hi2 hi3)))
        clear HBv hi1 hi2 hi3
        refine HK13.out _ _ ?_
        clear HK13 K13
        refine wp_seq_hid ?_
        intro K15 HK15
        go_wp2_with fail
        refine HK15.out _ _ ?_
        clear HK15 K15
        have HLL : Hid (l.length ≤ 16) := by have := (HF.out.best rfl).1; show l.length ≤ 16; omega
        refine wp_seq_hid ?_
        intro K17 HK17
        obtain ⟨k0, k1, k2, k3, k4⟩ := tr_cells (KP.out v HB.out.1).1
        go_wp2_with fail
        refine (C14.out _ _ _ _ (HF.out.best rfl).2.2.2 HLL.out _ HB.out.1 HB.out.2.1).mono ?_
        rintro e b1 ⟨rfl, hb⟩
        have HX := Lib.hid (And.intro (HB.out.1.trans (hb.mono HB.out.1.size)) (And.intro (HB.out.2.1.mono hb) (And.intro (HB.out.2.2.1.mono hb) (HB.out.2.2.2.mono hb))))
        clear hb HB C14 k0 k1 k2 k3 k4
        have HB := HX
        clear HX
        go_wp2_with fail
        refine HK17.out _ _ ?_
        clear HK17 K17
        obtain ⟨hll, hlm, hlo, _⟩ := HF.out.best rfl
        obtain rfl : l = most := hlm.symm
        obtain ⟨tl1, lo1, x1, hT1, hx1⟩ : ∃ tl lo x, timesE t l = (tl, ⟨lo, x⟩, 0) ∧ t.takes l = x := ⟨_, _, _, times_over (openE_mk HV.out hlo), rfl⟩
        obtain ⟨tl2, lo2, x2, hT2, hx2⟩ : ∃ tl lo x, timesE t own = (tl, ⟨lo, x⟩, 0) ∧ t.takes own = x := ⟨_, _, _, times_over HOE.out, rfl⟩
        have HT := Lib.hid (And.intro hT1 hT2)
        have HBE : Hid (wv = 2 → x1 ≤ x2 ∧ (x2 = x1 → ∀ c, c < t.frm.length → (∀ j, j < c → gi own j = gi l j) → gi own c ≠ gi l c → gi l c < gi own c)) := fun h => by
          have := HX2.out.best rfl h
          rw [hx1, hx2] at this; exact this
        have hln : ((l.length : Int) != (t.frm.length : Int)) = false := by simp; omega
        have HLN := Lib.hid hll
        have HON := Lib.hid HP.out.1
        have C16 : Hid (∀ (o : List Int) (tl : List Spn) (lo x : Int) (a : Option Addr) (c : Nat), timesE t o = (tl, ⟨lo, x⟩, 0) → o.length ≤ 16 → ∀ v, Below w1.heap.size w1 v → IsInts v a o → Calls Try.prog 16 #[t.v A, .slice a o.length c] v fun e w' => ∃ av cv, e = .returned (.tuple #[.slice av tl.length cv, .agg #[.int .i64 lo, .int .i64 x], .int .i64 0]) ∧ Below v.heap.size v w') := fun o tl lo x a c he hl v h ha => by
          have := times16 (cap := c) (KP.out v h).2.1 HN.out.1 hl ha
          rw [he] at this
          exact this.mono fun e w' ⟨av, cv, h1, h2, h3⟩ => ⟨av, cv, h1, h3⟩
        clear hT1 hT2 hx1 hx2 hll hlm hlo HF HX2
        refine wp_seq_hid ?_
        intro K18 HK18
        obtain ⟨k0, k1, k2, k3, k4⟩ := tr_cells (KP.out b1 HB.out.1).1
        go_wp2_with fail
        refine (C16.out _ _ _ _ _ _ HT.out.1 HLL.out _ HB.out.1 HB.out.2.1).mono ?_
        rintro e b2 ⟨av3, cv3, rfl, hb⟩
        have HX := Lib.hid (And.intro (HB.out.1.trans (hb.mono HB.out.1.size)) (And.intro (HB.out.2.1.mono hb) (And.intro (HB.out.2.2.1.mono hb) (HB.out.2.2.2.mono hb))))
        clear hb HB k0 k1 k2 k3 k4
        have HB := HX
        clear HX
        go_upto_region 18 with fail
        have q7 := World.alloc_heap_new b2 (.cells #[.int .i64 lo1, .int .i64 x1] 33)
        have hb7 : Below b2.heap.size b2 (b2.alloc (.cells #[.int .i64 lo1, .int .i64 x1] 33)) := (Below.refl _ _).alloc (Nat.le_refl _) _
        have HX := Lib.hid (And.intro (HB.out.1.trans (hb7.mono HB.out.1.size)) (And.intro (HB.out.2.1.mono hb7) (And.intro (HB.out.2.2.1.mono hb7) (And.intro (HB.out.2.2.2.mono hb7) q7))))
        clear hb7 HB q7
        have HB := HX
        clear HX
        revert HB
        generalize (b2.alloc (.cells #[.int .i64 lo1, .int .i64 x1] 33)) = v1
        generalize b2.heap.size = pb1
        intro HB
        go_wp2_with fail
        refine HK18.out _ _ ?_
        clear HK18 K18
        refine wp_seq_hid ?_
        intro K19 HK19
        obtain ⟨k0, k1, k2, k3, k4⟩ := tr_cells (KP.out v1 HB.out.1).1
        go_wp2_with fail
        refine (C16.out _ _ _ _ _ _ HT.out.2 HOL.out _ HB.out.1 HB.out.2.2.2.1).mono ?_
        rintro e b3 ⟨av4, cv4, rfl, hb⟩
        have HX := Lib.hid (And.intro (HB.out.1.trans (hb.mono HB.out.1.size)) (And.intro (HB.out.2.1.mono hb) (And.intro (HB.out.2.2.1.mono hb) (And.intro (HB.out.2.2.2.1.mono hb) ((hb.block _ (heap_lt HB.out.2.2.2.2)).trans HB.out.2.2.2.2)))))
        clear hb HB C16 k0 k1 k2 k3 k4
        have HB := HX
        clear HX
        go_upto_region 19 with fail
        have q7 := World.alloc_heap_new b3 (.cells #[.int .i64 lo2, .int .i64 x2] 33)
        have hb7 : Below b3.heap.size b3 (b3.alloc (.cells #[.int .i64 lo2, .int .i64 x2] 33)) := (Below.refl _ _).alloc (Nat.le_refl _) _
        have HX := Lib.hid (And.intro (HB.out.1.trans (hb7.mono HB.out.1.size)) (And.intro (HB.out.2.1.mono hb7) (And.intro (HB.out.2.2.1.mono hb7) (And.intro (HB.out.2.2.2.1.mono hb7) (And.intro ((hb7.block _ (heap_lt HB.out.2.2.2.2)).trans HB.out.2.2.2.2) q7)))))
        clear hb7 HB q7
        have HB := HX
        clear HX
        revert HB
        generalize (b3.alloc (.cells #[.int .i64 lo2, .int .i64 x2] 33)) = v2
        generalize b3.heap.size = pb2
        intro HB
        go_wp2_with fail
        refine HK19.out _ _ ?_
        clear HK19 K19
        refine wp_seq_hid ?_
        intro K20 HK20
        go_wp2_with fail
        have C31 := ints31 (ca := cv2) (cb := cv1) HB.out.2.2.1 HB.out.2.1 (by have := HLL.out; omega) (by have := HLL.out; omega)
        rw [show decide (l = l) = true by simp] at C31
        refine C31.mono ?_
        rintro e d1 ⟨rfl, hb⟩
        clear C31 hln
        have HX := Lib.hid (And.intro (HB.out.1.trans (hb.mono HB.out.1.size)) (And.intro (HB.out.2.1.mono hb) (And.intro (HB.out.2.2.1.mono hb) (And.intro (HB.out.2.2.2.1.mono hb) (And.intro ((hb.block _ (heap_lt HB.out.2.2.2.2.1)).trans HB.out.2.2.2.2.1) ((hb.block _ (heap_lt HB.out.2.2.2.2.2)).trans HB.out.2.2.2.2.2))))))
        clear hb HB
        have HB := HX
        clear HX
        go_wp2_with fail
        refine HK20.out _ _ ?_
        clear HK20 K20
        refine wp_seq_hid ?_
        intro K22 HK22
        by_cases hw2 : wv = 2
        case neg =>
          have hwb : (wv != 2) = true := by simpa using hw2
          go_wp2_with fail
          refine (alive13 _).mono ?_
          rintro e c1 ⟨rfl, hb⟩
          have HX := Lib.hid (HB.out.1.trans (hb.mono HB.out.1.size))
          clear hb
          go_wp2_with fail
          go_ret
          exact ⟨rfl, (KP.out _ HX.out).2.2.2⟩
        subst hw2
        obtain ⟨hx12, hxl⟩ := HBE.out rfl
        have HXL := Lib.hid hxl
        clear hxl HBE
        go_wp2_with fail
        refine HK22.out _ _ ?_
        clear HK22 K22
        refine wp_seq_hid ?_
        intro K24 HK24
        have hlt0 : decide (x2 < x1) = false := by simp; omega
        have x1c : d1.cell? ⟨pb1, 1, none⟩ = some (.int .i64 x1) := by rw [cell_of_heap HB.out.2.2.2.2.1]; rfl
        have x2c : d1.cell? ⟨pb2, 1, none⟩ = some (.int .i64 x2) := by rw [cell_of_heap HB.out.2.2.2.2.2]; rfl
        go_wp2_with fail
        refine HK24.out _ _ ?_
        clear HK24 K24
        clear hlt0 x1c x2c
        refine wp_seq_hid ?_
        intro K26 HK26
        go_wp2_with fail
        go_loopw [221] (fun i wr => ∃ k : Nat, k ≤ own.length ∧ i = .int .i64 k ∧ Hid (x2 = x1 → ∀ j, j < k → gi own j = gi l j) ∧ Hid (Below d1.heap.size d1 wr)) (fun i _ => own.length - (intOf i).toNat)
        case atStart => exact ⟨0, by omega, rfl, fun _ j hj => by omega, Below.refl _ _⟩
        case round =>
          obtain ⟨k, hk, rfl, HA, HW⟩ := hrel
          have HX := Lib.hid (And.intro (HB.out.1.trans (HW.out.mono HB.out.1.size)) (And.intro (HB.out.2.1.mono HW.out) (And.intro (HB.out.2.2.1.mono HW.out) (And.intro (HB.out.2.2.2.1.mono HW.out) (And.intro ((HW.out.block _ (heap_lt HB.out.2.2.2.2.1)).trans HB.out.2.2.2.2.1) ((HW.out.block _ (heap_lt HB.out.2.2.2.2.2)).trans HB.out.2.2.2.2.2))))))
          clear HB
          have HB := HX
          clear HX
          have hol6 : own.length ≤ 6 := by rw [HON.out]; exact h6
          by_cases hlt : k < own.length
          · have hl2 : k < l.length := by rw [HLN.out, ← HON.out]; exact hlt
            have x1c : wr.cell? ⟨pb1, 1, none⟩ = some (.int .i64 x1) := by rw [cell_of_heap HB.out.2.2.2.2.1]; rfl
            have x2c : wr.cell? ⟨pb2, 1, none⟩ = some (.int .i64 x2) := by rw [cell_of_heap HB.out.2.2.2.2.2]; rfl
            obtain ⟨b1, o1, rfl, e1⟩ := HB.out.2.2.2.1 k hlt
            obtain ⟨b2, o2, rfl, e2⟩ := HB.out.2.1 k hl2
            by_cases he : x2 = x1
            · have hbe : (x2 == x1) = true := by simpa using he
              have HLK := Lib.hid (HXL.out he k (by rw [← HON.out]; exact hlt) (HA.out he))
              have HAK : Hid (gi own k = gi l k → x2 = x1 → ∀ j, j < k + 1 → gi own j = gi l j) := fun h he j hj => by
                by_cases e : j = k
                · subst e; exact h
                · exact HA.out he j (by omega)
              clear he
              revert e1 e2 HLK HAK
              generalize gi own k = g1
              generalize gi l k = g2
              intro e1 e2 HLK HAK
              go_wp2_with fail
              have z1 := fun y : Aft wr.heap.size wr => cell_stays y.h x1c
              have z2 := fun y : Aft wr.heap.size wr => cell_stays y.h x2c
              have z3 := fun y : Aft wr.heap.size wr => cell_stays y.h e1
              have z4 := fun y : Aft wr.heap.size wr => cell_stays y.h e2
              have E1 := Lib.hid (And.intro e1 e2)
              clear e1 e2 x1c x2c
              by_cases hg : g1 = g2
              · have hbg : (g1 != g2) = false := by simpa using hg
                have HG := Lib.hid hg
                clear hg
                refine wp_region_aft mixed (by kernel_rfl) ?_
                repeat (go_big_quiet_step (fail))
                refine wpQuiet_nil ?_
                rintro _ ⟨y, rfl⟩
                clear z1 z2 z3 z4
                have HY := Lib.hid (HW.out.trans (y.h.mono HW.out.size))
                go_wp2_with fail
                go_roundw
                case rel => exact ⟨k + 1, by omega, by go_num, fun h => HAK.out HG.out h, HY.out⟩
                case measure => simp [intOf]; omega
              · have hbg : (g1 != g2) = true := by simpa using hg
                have hlt2 := HLK.out hg
                clear hg
                refine wp_region_aft mixed (by kernel_rfl) ?_
                repeat (go_big_quiet_step (fail))
                refine wpQuiet_nil ?_
                rintro _ ⟨y, rfl⟩
                clear z1 z2 z3 z4
                have f1 := cell_stays y.h E1.out.1
                have f2 := cell_stays y.h E1.out.2
                have HY := Lib.hid (HB.out.1.trans (y.h.mono HB.out.1.size))
                revert HY f1 f2
                generalize y.v = V
                intro f1 f2 HY
                go_wp2_with fail
                have z1 := fun y : Aft V.heap.size V => cell_stays y.h f1
                have z2 := fun y : Aft V.heap.size V => cell_stays y.h f2
                have C1 := Lib.hid (fun y : Aft V.heap.size V => alive13 y.v)
                clear f1 f2
                refine wp_region_aft mixed (by kernel_rfl) ?_
                repeat (go_big_quiet_step ((go_at_call 13; exact calls_aft (C1.out _))))
                refine wpQuiet_nil ?_
                rintro _ ⟨y2, rfl⟩
                clear z1 z2 C1
                go_wp2_with fail
                go_ret
                exact ⟨rfl, (KP.out _ (HY.out.trans (y2.h.mono HY.out.size))).2.2.2⟩
            · have hbe : (x2 == x1) = false := by simpa using he
              have HE2 := Lib.hid he
              clear he e1 e2
              go_wp2_with fail
              have z1 := fun y : Aft wr.heap.size wr => cell_stays y.h x1c
              have z2 := fun y : Aft wr.heap.size wr => cell_stays y.h x2c
              clear x1c x2c
              refine wp_region_aft mixed (by kernel_rfl) ?_
              repeat (go_big_quiet_step (fail))
              refine wpQuiet_nil ?_
              rintro _ ⟨y, rfl⟩
              clear z1 z2
              have HY := Lib.hid (HW.out.trans (y.h.mono HW.out.size))
              go_wp2_with fail
              go_roundw
              case rel => exact ⟨k + 1, by omega, by go_num, fun h => (HE2.out h).elim, HY.out⟩
              case measure => simp [intOf]; omega
          · obtain rfl : k = own.length := by omega
            go_wp2_with fail
            refine HK26.out _ _ ?_
            go_wp2_with fail
            refine (alive13 _).mono ?_
            rintro e c1 ⟨rfl, hb⟩
            have HX := Lib.hid (HB.out.1.trans (hb.mono HB.out.1.size))
            clear hb
            go_wp2_with fail
            go_ret
            exact ⟨rfl, (KP.out _ HX.out).2.2.2⟩
      have hx : (wv = 2 ∧ (wv == 2) = true ∧ (wv != 0) = true ∧ (ca == 0) = false) ∨ ((wv == 2) = false ∧ (wv != 0) = false) ∨ ((wv == 2) = false ∧ (wv != 0) = true ∧ (ca == 0) = false) := by
        have h1 := HX2.out.w0
        by_cases e2 : wv = 2
        · exact .inl ⟨e2, by simpa using e2, by simp; omega, by have := h1 (by omega); simp; omega⟩
        · by_cases e0 : wv = 0
          · exact .inr (.inl ⟨by simpa using e2, by simpa using e0⟩)
          · exact .inr (.inr ⟨by simpa using e2, by simpa using e0, by have := h1 e0; simp; omega⟩)
      clear HK13
      rcases hx with ⟨x1, x2, x3, x4⟩ | ⟨x2, x3⟩ | ⟨x2, x3, x4⟩
      all_goals
        clear HX2 HF
        go_wp2_with fail
        exact REST.out HB.out.1 HB.out.2.1 HB.out.2.2.1 HB.out.2.2.2
    · have hml2 : decide ((most.length : Int) < (t.frm.length : Int)) = true := by simp; omega
      have hx : ((wv == 2) = false ∧ (wv != 0) = false) ∨ ((wv == 2) = false ∧ (wv != 0) = true ∧ (ca == 0) = false) := by
        have h1 := HX2.out.w0
        have h2 := HX2.out.w2
        have e2 : (wv == 2) = false := by
          by_cases e : wv = 2
          · exact absurd (h2 e) (by decide)
          · simpa using e
        by_cases e0 : wv = 0
        · exact .inl ⟨e2, by simpa using e0⟩
        · exact .inr ⟨e2, by simpa using e0, by have := h1 e0; simp; omega⟩
      have HXL := Lib.hid hml
      clear HF HX2 hml
      rcases hx with ⟨x2, x3⟩ | ⟨x2, x3, x4⟩
      all_goals
        go_wp2_with fail
        refine HK13.out _ _ ?_
        clear HK13 K13
        go_wp2_with fail
        refine (alive13 _).mono ?_
        rintro e c1 ⟨rfl, hb⟩
        have HX := Lib.hid (HB.out.1.trans (hb.mono HB.out.1.size))
        clear hb
        go_wp2_with fail
        go_ret
        exact ⟨rfl, (KP.out _ HX.out).2.2.2⟩
end Go.Proofs.Ytphefhpmbahagaa
