/- WalkTurned: the walk. -/
import Derived.Test.YtphefhpmbahagaaT93
import Derived.Test.YtphefhpmbahagaaT95
namespace Go.Proofs.Ytphefhpmbahagaa
open Go.RowKit
set_option linter.unusedVariables false
set_option linter.unusedSimpArgs false

/-- Spans are copied into a row of their own. -/
theorem copy_spns0 {W w : World} {av : Option Addr} {l : List Spn} {cv : Nat} {xs : Value} (hk : l.length ≤ 16) (hb : Below W.heap.size W w) (hx : w.ownsRow W.heap.size 33 2 xs 0 []) (hi : IsSpns w av l) :
    ∃ (f : Option Addr) (c : Nat) (w' : World),(Builtin.append_ #[22,22] 22 #[xs,.slice av l.length cv]).run Try.prog w = .ok (.slice f l.length c) w' ∧ IsSpns w' f l ∧ Below W.heap.size W w' := by
  by_cases h0 : 0 < l.length
  · obtain ⟨g,c,w',h1,_,h2,h3⟩ := copy_spns (cv := cv) h0 hk hb hx hi
    exact ⟨_,c,w',h1,h2.spns,h3⟩
  · obtain rfl : l = [] := List.eq_nil_of_length_eq_zero (by omega)
    obtain ⟨i0,hi0,hz0,hz1,hz2⟩ := info_parts2 infoSp
    obtain ⟨v',w',hr,hn,hg,_⟩ := append_rows_at (P := Try.prog) (w := w) W.heap.size 22 22 33 i0 _ 2 16 Try.underlying22 hi0 hz0 hz1 hz2 rfl (by decide) xs 0 [] hx av ([] : List Spn).length cv (spV []) (spV_len []) (spns_news hi) spV_one (by simp [maxLen]) (by simp) hb.size
    rw [Nat.zero_add,List.nil_append] at hn
    have hb' : Below W.heap.size W w' := hb.grown hg hb.size (fun k hk => (hx.lt k hk).1)
    obtain ⟨f,c,rfl,_⟩ := own_slice hn
    exact ⟨f,c,w',hr,fun i hi' => by simp at hi',hb'⟩
set_option maxRecDepth 100000 in
set_option maxHeartbeats 4000000 in
theorem walkTurned_any {t : Tr} {A : TrA} {w : World} (ht : IsTr w t A) (hw : t.ways.length ≤ 9223372036854775807) {o : List Int} {oa : Option Addr} {oc : Nat} (ho : IsInts w oa o) {turn : Int} (htn : 0 ≤ turn ∧ turn ≤ 255) :
    Calls Try.prog 11 #[t.v A,.slice oa o.length oc,.int .u8 turn] w fun e w' => e = .returned (.bool true) ∧ Below w.heap.size w w' := by
  obtain ⟨c,rfl⟩ : ∃ c : Nat,turn = (c : Int) := ⟨turn.toNat,by omega⟩
  have hc : c ≤ 255 := by omega
  clear htn
  have e1 : (w.alloc (.cells (t.cells A) 25)).heap.size = w.heap.size + 1 := by simp
  have hb0 : Below w.heap.size w ((w.alloc (.cells (t.cells A) 25)).alloc (.cells #[.int .u8 (c : Int)] 5)) := ((Below.refl _ w).alloc (Nat.le_refl _) _).alloc (by simp) _
  have q5 : ((w.alloc (.cells (t.cells A) 25)).alloc (.cells #[.int .u8 (c : Int)] 5)).heap[w.heap.size + 1]? = some (.cells #[.int .u8 (c : Int)] 5 (0,0)) := by
    have := World.alloc_heap_new (w.alloc (.cells (t.cells A) 25)) (.cells #[.int .u8 (c : Int)] 5)
    rw [e1] at this
    exact this
  have q0 : ((w.alloc (.cells (t.cells A) 25)).alloc (.cells #[.int .u8 (c : Int)] 5)).heap[w.heap.size]? = some (.cells (t.cells A) 25 (0,0)) := by
    have h1 := World.alloc_heap_new w (.cells (t.cells A) 25)
    have h2 : Below (w.alloc (.cells (t.cells A) 25)).heap.size (w.alloc (.cells (t.cells A) 25)) ((w.alloc (.cells (t.cells A) 25)).alloc (.cells #[.int .u8 (c : Int)] 5)) := (Below.refl _ _).alloc (Nat.le_refl _) _
    exact (h2.block _ (heap_lt h1)).trans h1
  have HW := Lib.hid (And.intro hb0 (And.intro q0 (And.intro q5 (And.intro (ht.mono hb0) (ho.mono hb0)))))
  have HG : Hid (∀ v,IsTr v t A → Calls Try.prog 12 #[t.v A,.slice oa o.length oc,.int .i64 6] v fun e w' => e = .returned (.bool (t.great o 6)) ∧ Below v.heap.size v w') := fun v h => great12 h hw 6
  have hmf : ∀ (fn : Fn) (first cap : Array Value) (w : World),(Instr.makeFunc fn first cap).run Try.prog w = .ok (.func fn first cap) w := fun _ _ _ _ => rfl
  clear hb0 q0 q5 ht hw ho e1
  go_enter Try.func11,Try.ntmps11
  refine wp_seq_hid ?_
  intro K0 HK0
  go_wp2_with fail
  refine HK0.out _ _ ?_
  refine wp_seq_hid ?_
  intro K1 HK1
  revert HW
  generalize (w.alloc (.cells (t.cells A) 25)).alloc (.cells #[.int .u8 (c : Int)] 5) = w1
  intro HW
  have KP : Hid (∀ v,Below w1.heap.size w1 v → v.heap[w.heap.size]? = some (.cells (t.cells A) 25 (0,0)) ∧ IsTr v t A ∧ IsInts v oa o ∧ Below w.heap.size w v) := fun v h => ⟨(h.block _ (heap_lt HW.out.2.1)).trans HW.out.2.1,HW.out.2.2.2.1.mono h,HW.out.2.2.2.2.mono h,HW.out.1.trans (h.mono HW.out.1.size)⟩
  have KU : Hid (∀ v,Below w1.heap.size w1 v → v.cell? ⟨w.heap.size + 1,0,none⟩ = some (.int .u8 (c : Int))) := fun v h => by rw [cell_of_heap ((h.block _ (heap_lt HW.out.2.2.1)).trans HW.out.2.2.1)]; rfl
  have HWL : Hid (w.heap.size + 1 < w1.heap.size) := heap_lt HW.out.2.2.1
  have HB := Lib.hid (Below.refl w1.heap.size w1)
  obtain ⟨k0,k1,k2,k3,k4⟩ := tr_cells (KP.out w1 HB.out).1
  go_wp2_with fail
  refine (HG.out _ (KP.out w1 HB.out).2.1).mono ?_
  rintro e b1 ⟨rfl,hb⟩
  have HX := Lib.hid (HB.out.trans (hb.mono HB.out.size))
  clear hb HB HG k0 k1 k2 k3 k4
  have HB := HX
  clear HX
  cases hg : t.great o 6
  case true =>
    go_wp2_with fail
    refine (alive13 _).mono ?_
    rintro e c1 ⟨rfl,hb⟩
    have HX := Lib.hid (HB.out.trans (hb.mono HB.out.size))
    clear hb
    go_wp2_with fail
    go_ret
    exact ⟨rfl,(KP.out _ HX.out).2.2.2⟩
  have HN := Lib.hid (great_no hg)
  clear hg
  obtain ⟨k0,k1,k2,k3,k4⟩ := tr_cells (KP.out b1 HB.out).1
  have C33 := rtour33 (KP.out b1 HB.out).2.1 HN.out.1
  go_wp2_with fail
  refine (C33).mono ?_
  rintro e b2 ⟨rfl,hb⟩
  have HX := Lib.hid (HB.out.trans (hb.mono HB.out.size))
  clear hb HB C33 k0 k1 k2 k3 k4
  have HB := HX
  clear HX
  cases hv : t.valid
  case false =>
    go_wp2_with fail
    refine (alive13 _).mono ?_
    rintro e c1 ⟨rfl,hb⟩
    have HX := Lib.hid (HB.out.trans (hb.mono HB.out.size))
    clear hb
    go_wp2_with fail
    go_ret
    exact ⟨rfl,(KP.out _ HX.out).2.2.2⟩
  have HV := Lib.hid hv
  clear hv
  obtain ⟨k0,k1,k2,k3,k4⟩ := tr_cells (KP.out b2 HB.out).1
  obtain ⟨k0,k1,k2,k3,k4⟩ := tr_cells (KP.out b2 HB.out).1
  have h6 : t.frm.length ≤ 6 := (fit_of_valid HV.out).n
  have C34 := rorder34 (cap := oc) (KP.out b2 HB.out).2.1 (by omega) HN.out.2.1 (KP.out b2 HB.out).2.2.1
  go_wp2_with fail
  refine (C34).mono ?_
  rintro e b3 ⟨rfl,hb⟩
  have HX := Lib.hid (HB.out.trans (hb.mono HB.out.size))
  clear hb HB C34 k0 k1 k2 k3 k4
  have HB := HX
  clear HX
  cases ho : t.order o
  case false =>
    go_wp2_with fail
    refine (alive13 _).mono ?_
    rintro e c1 ⟨rfl,hb⟩
    have HX := Lib.hid (HB.out.trans (hb.mono HB.out.size))
    clear hb
    go_wp2_with fail
    go_ret
    exact ⟨rfl,(KP.out _ HX.out).2.2.2⟩
  have HO := Lib.hid ho
  clear ho
  have HFT := Lib.hid (fit_of_valid HV.out)
  go_wp2_with fail
  refine HK1.out _ _ ?_
  clear HK1 K1
  clear HK0 K0
  obtain ⟨k0,k1,k2,k3,k4⟩ := tr_cells (KP.out b3 HB.out).1
  refine wp_seq_hid ?_
  intro K3 HK3
  go_wp2_with fail
  have q3 := World.alloc_heap_new b3 (.cells #[.int .i64 (t.frm.length : Int)] 3)
  have hb3 : Below b3.heap.size b3 (b3.alloc (.cells #[.int .i64 (t.frm.length : Int)] 3)) := (Below.refl _ _).alloc (Nat.le_refl _) _
  have KQ : Hid (∀ v,Below b3.heap.size b3 v → v.heap[w.heap.size]? = some (.cells (t.cells A) 25 (0,0)) ∧ IsTr v t A ∧ IsInts v oa o ∧ Below w.heap.size w v ∧ v.cell? ⟨w.heap.size + 1,0,none⟩ = some (.int .u8 (c : Int))) := fun v h =>
    have hb := HB.out.trans (h.mono HB.out.size)
    ⟨(KP.out v hb).1,(KP.out v hb).2.1,(KP.out v hb).2.2.1,(KP.out v hb).2.2.2,KU.out v hb⟩
  refine HK3.out _ _ ?_
  clear HK3 K3 k0 k1 k2 k3 k4
  have H3 := Lib.hid (And.intro hb3 q3)
  clear hb3 q3
  revert H3
  generalize (b3.alloc (.cells #[.int .i64 (t.frm.length : Int)] 3)) = v3
  intro H3
  refine wp_seq_hid ?_
  intro K4 HK4
  go_wp2_with fail
  refine HK4.out _ _ ?_
  clear HK4 K4
  refine wp_seq_hid ?_
  intro K5 HK5
  have hn16 : t.frm.length ≤ 16 := by omega
  go_upto_region 5 with fail
  refine tur5 (bn := b3.heap.size) (n := t.frm.length) (dw := t.dawn) hn16 (tr_cells (KQ.out v3 H3.out.1).1).1 (by rw [cell_of_heap H3.out.2]; rfl) ?_
  rintro x74 x75 x76 x77 x78 x79 x80 x81 x82 x83 x84 x9 g1 g2 g3 g4 g9 v5 hb l1 l2 l3 l4 l9 n13 n14 n34 q1 q2 q3 q4 q9 rfl
  have PG : PutG v3 v5 g1 g2 g3 g4 g9 := ⟨l1,l2,l3,l4,l9,heap_lt q1,heap_lt q2,heap_lt q3,heap_lt q4,heap_lt q9,n13,n14,n34,fun e => by rw [e,q2] at q1; simp at q1,fun e => by rw [e,q2] at q3; simp at q3,fun e => by rw [e,q2] at q4; simp at q4,fun e => by rw [e,q1] at q9; simp at q9,fun e => by rw [e,q2] at q9; simp at q9,fun e => by rw [e,q3] at q9; simp at q9,fun e => by rw [e,q4] at q9; simp at q9⟩
  have H0 : Hid (Put v3 v5 g1 g2 g3 g4 g9 t.frm.length c t 0 0 0 0 v5) := ⟨hb,Nat.le_refl _,rfl,PutRow.made q1,PutRow.made q3,PutRow.made q4,PutWays.made q2⟩
  have H9 := Lib.hid q9
  have KR : Hid (∀ v,Below v3.heap.size v3 v → v.heap[w.heap.size]? = some (.cells (t.cells A) 25 (0,0)) ∧ IsTr v t A ∧ v.cell? ⟨w.heap.size + 1,0,none⟩ = some (.int .u8 (c : Int)) ∧ v.cell? ⟨b3.heap.size,0,none⟩ = some (.int .i64 (t.frm.length : Int))) := fun v h =>
    have hq := KQ.out v (H3.out.1.trans (h.mono H3.out.1.size))
    ⟨hq.1,hq.2.1,hq.2.2.2.2,by rw [cell_of_heap ((h.block _ (heap_lt H3.out.2)).trans H3.out.2)]; rfl⟩
  have KS : Hid (∀ v,Below v3.heap.size v3 v → IsInts v oa o ∧ Below w.heap.size w v) := fun v h =>
    have hq := KQ.out v (H3.out.1.trans (h.mono H3.out.1.size))
    ⟨hq.2.2.1,hq.2.2.2.1⟩
  have PGH := Lib.hid PG
  have HCC := Lib.hid hc
  clear hb q1 q2 q3 q4 q9 l1 l2 l3 l4 l9 n13 n14 n34 PG hc KQ
  go_wp2_with fail
  refine HK5.out _ _ ?_
  clear HK5 K5
  refine wp_seq_hid ?_
  intro K6 HK6
  refine tur_rows (p := v3) (V := v5) (t := t) (A := A) (bx := w.heap.size) (b5 := w.heap.size + 1) (bn := b3.heap.size) (c := c) (g1 := g1) (g2 := g2) (g3 := g3) (g4 := g4) (g9 := g9) HFT HCC.out PGH.out KR H9 H0 ?_
  intro y10 y11 y85 y86 y87 y88 y89 y90 y91 y92 y93 y94 y95 y96 y97 y98 y99 y100 y101 y102 y103 y104 y105 y106 y107 y108 y109 y110 y111 y112 y113 y114 y115 y116 y117 y118 y119 y120 y121 y122 y123 y124 y125 y126 y127 y128 y129 y130 y131 y132 y133 y134 y135 y136 y137 y138 y139 y140 y141 y142 y143 y144 y145 y146 y147 y148 y149 y150 y151 y152 y153 y154 w6 hP
  have h9 : w6.heap[g9]? = some (.cells ((t.turned c).cells ⟨some ⟨g1,0,none⟩,t.frm.length,some ⟨g2,0,none⟩,t.frm.length,some ⟨g3,0,none⟩,t.frm.length,some ⟨g4,0,none⟩,t.frm.length⟩) 25 (0,0)) := by
    have := hP.at9.trans H9.out
    rw [this]
    simp [Tr.cells,Tr.turned,turnL_len]
  have hXT := hP.tr
  obtain ⟨XA,hXA⟩ : ∃ XA : TrA,XA = ⟨some ⟨g1,0,none⟩,t.frm.length,some ⟨g2,0,none⟩,t.frm.length,some ⟨g3,0,none⟩,t.frm.length,some ⟨g4,0,none⟩,t.frm.length⟩ := ⟨_,rfl⟩
  rw [← hXA] at h9 hXT
  have KX : Hid (∀ v,Below w6.heap.size w6 v → v.heap[w.heap.size]? = some (.cells (t.cells A) 25 (0,0)) ∧ IsTr v t A ∧ v.cell? ⟨w.heap.size + 1,0,none⟩ = some (.int .u8 (c : Int)) ∧ v.cell? ⟨b3.heap.size,0,none⟩ = some (.int .i64 (t.frm.length : Int)) ∧ IsInts v oa o ∧ Below w.heap.size w v ∧ v.heap[g9]? = some (.cells ((t.turned c).cells XA) 25 (0,0)) ∧ IsTr v (t.turned c) XA) := fun v h =>
    have hb := hP.below.trans (h.mono hP.below.size)
    have r1 := KR.out v hb
    have r2 := KS.out v hb
    ⟨r1.1,r1.2.1,r1.2.2.1,r1.2.2.2,r2.1,r2.2,(h.block _ (heap_lt h9)).trans h9,hXT.mono h⟩
  clear hP h9 hXT hXA KR KS H0 H9 PGH
  refine HK6.out _ _ ?_
  clear HK6 K6
  refine wp_seq_hid ?_
  intro K17 HK17
  go_wp2_with fail
  refine HK17.out _ _ ?_
  clear HK17 K17
  refine wp_seq_hid ?_
  intro K18 HK18
  have hol := HN.out.2.1
  go_wp2_with fail
  go_loopw [12,157] (fun xs i wr => ∃ (k : Nat),k ≤ o.length ∧ i = .int .i64 k ∧ Hid (wr.ownsRow w6.heap.size 3 1 xs k (((o.map (tmap (sgm t.frm.length c))).take k).map (Value.int .i64))) ∧ Hid (Below w6.heap.size w6 wr)) (fun _ i _ => o.length - (intOf i).toNat)
  case atStart => exact ⟨0,by omega,rfl,World.ownsRow_nil _ _ _ _,Below.refl _ _⟩
  case round =>
    obtain ⟨k,hk,rfl,HR,HB2⟩ := hrel
    by_cases hlt : k < o.length
    · have HKX := Lib.hid (KX.out wr HB2.out)
      obtain ⟨ab,ao,haa,hca⟩ := HKX.out.2.2.2.2.1 k hlt
      subst haa
      obtain ⟨m,hm,hmn⟩ := view_nat (order_view HO.out _ (gi_mem' hlt))
      rw [hm] at hca
      have HM := Lib.hid hm
      clear hm
      refine wp_seq_hid ?_
      intro KL19 HKL19
      go_wp2_with fail
      refine HKL19.out _ _ ?_
      clear HKL19 KL19
      refine wp_seq_hid ?_
      intro KLc HKLc
      go_wp2_with fail
      refine HKLc.out _ _ ?_
      clear HKLc KLc
      refine wp_seq_hid ?_
      intro KLB HKLB
      refine wp_block ?_
      refine wp_seq_hid ?_
      intro K20 HK20
      go_wp2_with fail
      refine HK20.out _ _ ?_
      clear HK20 K20
      go_wp2_with fail
      refine (number43 HKX.out.2.2.1 HKX.out.2.2.2.1 HCC.out (by omega) (by omega) (by omega)).mono ?_
      rintro e V2 ⟨rfl,hb⟩
      subst hb
      obtain ⟨u,hu⟩ : ∃ u : Int,(((m + c) % t.frm.length : Nat) : Int) = u := ⟨_,rfl⟩
      rw [hu]
      have hown := HR.out
      obtain ⟨i0,hi0,hz0,hz1',hz2⟩ := info_parts infoI
      have hsz0 := HB2.out.size
      obtain ⟨v',w',hr,hown',hgr⟩ := append_one (P := Try.prog) (w := wr) w6.heap.size 26 26 3 i0 _ 8 Try.underlying26 hi0 hz0 hz1' hz2 rfl _ _ _ hown (.int .i64 u) rfl (by simp [maxLen]; omega) (by omega) (by omega)
      have hb1 : Below w6.heap.size w6 (wr.alloc (.cells #[.int .i64 u] 3)) := HB2.out.alloc (by omega) _
      have hb2 : Below w6.heap.size w6 w' := grown_below hb1 (hown.alloc _) hgr (by simp; omega)
      have HRUN := Lib.hid hr
      have HOWN : Hid (w'.ownsRow w6.heap.size 3 1 v' (k + 1) (((o.map (tmap (sgm t.frm.length c))).take (k + 1)).map (Value.int .i64))) := by
        have e : (o.map (tmap (sgm t.frm.length c))).take (k + 1) = (o.map (tmap (sgm t.frm.length c))).take k ++ [u] := by
          rw [List.take_succ_eq_append_getElem (by rw [List.length_map]; exact hlt)]
          have e2 : (o.map (tmap (sgm t.frm.length c)))[k]'(by rw [List.length_map]; exact hlt) = tmap (sgm t.frm.length c) (gi o k) := by simp [gi,hlt]
          rw [e2,HM.out,← hu]
          simp [tmap,sgm]
        rw [Hid,e,List.map_append]
        exact hown'
      have HB3 := Lib.hid hb2
      clear hown hown' hgr hr hb1 hb2 hu hsz0
      go_wp2_with (at_builtin; refine wpList_append_run rfl (.tmp 161) (.tmp 165) 26 rfl _ _ _ _ rfl rfl HRUN.out ?_)
      refine HKLB.out _ _ ?_
      go_wp2_with fail
      go_roundw
      case rel => exact ⟨k + 1,by omega,by go_num,HOWN.out,HB3.out⟩
      case measure => simp [intOf]; omega
    · have hke : k = o.length := by omega
      subst hke
      have hown := HR.out
      rw [List.take_of_length_le (by rw [List.length_map]; exact Nat.le_refl _)] at hown
      obtain ⟨ta,tc,hxs,_⟩ := own_slice hown
      subst hxs
      have hoo : IsInts wr ta (o.map (tmap (sgm t.frm.length c))) := by
        refine own_ints (base := w6.heap.size) (cap := tc) ?_
        rw [List.length_map]; exact hown
      have HKX := Lib.hid (KX.out wr HB2.out)
      have HOO := Lib.hid hoo
      clear hown hoo
      go_wp2_with fail
      refine HK18.out _ _ ?_
      refine wp_seq_hid ?_
      intro K23 HK23
      obtain ⟨k0,k1,k2,k3,k4⟩ := tr_cells HKX.out.1
      have hb0 : Below wr.heap.size wr (wr.alloc (.cells #[] 33)) := (Below.refl _ _).alloc (Nat.le_refl _) _
      obtain ⟨fa,fc,w7,hr1,hs7,hb7⟩ := copy_spns0 (W := wr) (cv := A.cf) (Nat.le_trans h6 (by decide)) hb0 (own_none33 (Nat.le_refl _)) (HKX.out.2.1.frm.mono hb0)
      have hb8 : Below w7.heap.size w7 (w7.alloc (.cells #[] 3)) := (Below.refl _ _).alloc (Nat.le_refl _) _
      obtain ⟨ka,kc,w8,hr2,hs8,hb9⟩ := copy_ints (W := w7) (cv := oc) hol hb8 (own_none3 (Nat.le_refl _)) ((HKX.out.2.2.2.2.1.mono hb7).mono hb8)
      have HRUN1 := Lib.hid hr1
      have HRUN2 := Lib.hid hr2
      have hbw : Below wr.heap.size wr w8 := hb7.trans (hb9.mono hb7.size)
      have HY := Lib.hid (KX.out w8 (HB2.out.trans (hbw.mono HB2.out.size)))
      have HTU : Hid (TuW t (t.turned c) A XA o (o.map (tmap (sgm t.frm.length c))) oa ta ka fa w.heap.size g9 (w.heap.size + 1) b3.heap.size c w w8) := ⟨HY.out.2.2.2.2.2.1,HY.out.1,HY.out.2.1,HY.out.2.2.2.2.2.2.1,HY.out.2.2.2.2.2.2.2,HY.out.2.2.2.2.1,HOO.out.mono hbw,hs8.ints,hs7.mono hb9,HY.out.2.2.1,HY.out.2.2.2.1⟩
      have k1' := cell_stays hb0 k1
      clear hb0 hr1 hs7 hb8 hr2 hs8 hbw hb7 hb9 k0 k2 k3 k4
      go_wp2_with (at_builtin; first | refine wpList_append_run rfl (.tmp 168) (.tmp 170) 22 rfl _ _ _ _ rfl rfl HRUN1.out ?_ | refine wpList_append_run rfl (.tmp 172) (.tmp 173) 26 rfl _ _ _ _ rfl rfl HRUN2.out ?_)
      refine HK23.out _ _ ?_
      exact tur24 HTU.out HV.out (valid_of_fit (turned_fit HFT.out c)) (turn_made c) HO.out rfl hol HCC.out
end Go.Proofs.Ytphefhpmbahagaa
