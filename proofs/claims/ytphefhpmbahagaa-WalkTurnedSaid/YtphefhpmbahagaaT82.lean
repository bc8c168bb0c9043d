/- Rows of spans that are copied; a narrower row. -/
import Derived.Test.YtphefhpmbahagaaT81
import Derived.Lib.MinMax
namespace Go.Proofs.Ytphefhpmbahagaa
open Go.RowKit
set_option linter.unusedVariables false
set_option linter.unusedSimpArgs false

/-- Spans as cells. -/
def spV (l : List Spn) : List Value := l.flatMap fun x => [.int .i64 x.lo,.int .i64 x.hi]
theorem spV_len : ∀ l : List Spn,(spV l).length = l.length * 2
  | [] => rfl
  | x :: r => by
    have e : spV (x :: r) = .int .i64 x.lo :: .int .i64 x.hi :: spV r := by simp [spV]
    rw [e,List.length_cons,List.length_cons,spV_len r,List.length_cons]; omega
theorem spV_at : ∀ {l : List Spn} {i : Nat},i < l.length → (spV l)[i * 2]? = some (.int .i64 (gs l i).lo) ∧ (spV l)[i * 2 + 1]? = some (.int .i64 (gs l i).hi)
  | [],i,h => by simp at h
  | y :: r,0,h => by simp [spV,gs]
  | y :: r,i + 1,h => by
    have := spV_at (l := r) (i := i) (by simpa using h)
    have e : spV (y :: r) = .int .i64 y.lo :: .int .i64 y.hi :: spV r := by simp [spV]
    have e2 : gs (y :: r) (i + 1) = gs r i := by simp [gs]
    rw [e,e2,show (i + 1) * 2 = i * 2 + 2 by omega]
    simpa using this
theorem spV_one {l : List Spn} : ∀ u ∈ spV l,u.oneCell' = true := fun u hu => by
  unfold spV at hu
  rw [List.mem_flatMap] at hu
  obtain ⟨x,_,hx⟩ := hu
  simp at hx
  rcases hx with rfl | rfl <;> rfl
theorem spns_news {w : World} {a : Option Addr} {l : List Spn} (h : IsSpns w a l) : l.length ≠ 0 → ∃ ad,a = some ad ∧ ∀ j u,(spV l)[j]? = some u → w.cell? (ad.add j) = some u := fun h0 => by
  obtain ⟨b,off,e,_,_⟩ := h 0 (by omega)
  refine ⟨⟨b,off,none⟩,e,fun j u hj => ?_⟩
  have hjl : j < l.length * 2 := by have := (List.getElem?_eq_some_iff.1 hj).1; rw [spV_len] at this; exact this
  have e2 : ((⟨b,off,none⟩ : Addr).add j) = ⟨b,off + j,none⟩ := by unfold Addr.add; split <;> simp_all
  rw [e2]
  obtain ⟨b',off',e',c0,c1⟩ := h (j / 2) (by omega)
  rw [e] at e'
  cases e'
  have hv := spV_at (l := l) (i := j / 2) (by omega)
  by_cases hm : j % 2 = 0
  · have ej : j / 2 * 2 = j := by omega
    rw [ej] at c0 hv
    rw [c0,← hv.1,hj]
  · have ej : j / 2 * 2 + 1 = j := by omega
    rw [ej] at hv
    rw [show off + j / 2 * 2 + 1 = off + j by omega] at c1
    rw [c1,← hv.2,hj]
/-- A row of spans in a block of its own. -/
structure SpRow (g : Nat) (l : List Spn) (w : World) : Prop where
  row : ∃ cur : Array Value,w.heap[g]? = some (.cells cur 33 (0,0)) ∧ ∀ i,i < l.length → cur[i * 2]? = some (.int .i64 (gs l i).lo) ∧ cur[i * 2 + 1]? = some (.int .i64 (gs l i).hi)
theorem SpRow.spns {g : Nat} {l : List Spn} {w : World} (h : SpRow g l w) : IsSpns w (some ⟨g,0,none⟩) l := fun i hi => by
  obtain ⟨cur,h1,h2⟩ := h.row
  refine ⟨g,0,rfl,?_,?_⟩
  · rw [cell_of_heap h1,Nat.zero_add]; exact (h2 i hi).1
  · rw [cell_of_heap h1,Nat.zero_add]; exact (h2 i hi).2
theorem SpRow.cells {g : Nat} {l : List Spn} {w : World} (h : SpRow g l w) {i : Nat} (hi : i < l.length) : w.cell? ⟨g,i * 2,none⟩ = some (.int .i64 (gs l i).lo) ∧ w.cell? ⟨g,i * 2 + 1,none⟩ = some (.int .i64 (gs l i).hi) := by
  obtain ⟨cur,h1,h2⟩ := h.row
  rw [cell_of_heap h1,cell_of_heap h1]
  exact h2 i hi
theorem SpRow.mono {g : Nat} {l : List Spn} {w w' : World} (h : SpRow g l w) (hb : Below w.heap.size w w') : SpRow g l w' := by
  obtain ⟨cur,h1,h2⟩ := h.row
  exact ⟨cur,(hb.block _ (heap_lt h1)).trans h1,h2⟩
theorem SpRow.frozen {g : Nat} {l : List Spn} {w : World} (h : SpRow g l w) (k : Nat) : w.frozen? ⟨g,k,none⟩ = false := by
  obtain ⟨cur,h1,_⟩ := h.row
  exact frozen_of_heap h1
theorem SpRow.hi {g : Nat} {l : List Spn} {w : World} (h : SpRow g l w) {i : Nat} (hi : i < l.length) (x : Int) : SpRow g (l.set i ⟨(gs l i).lo,x⟩) (w.setCell ⟨g,i * 2 + 1,none⟩ (.int .i64 x)) := by
  obtain ⟨cur,h1,h2⟩ := h.row
  refine ⟨_,heap_setCell_at h1 _,fun j hj => ?_⟩
  rw [List.length_set] at hj
  have hh := h2 j hj
  rw [gs_set hi]
  have hs : i * 2 + 1 < cur.size := (Array.getElem?_eq_some_iff.1 (h2 i hi).2).1
  by_cases e : i = j
  · subst e
    rw [if_pos rfl]
    refine ⟨?_,?_⟩
    · rw [Array.getElem?_setIfInBounds,if_neg (by omega)]; exact hh.1
    · rw [Array.getElem?_setIfInBounds,if_pos rfl,if_pos hs]
  · rw [if_neg e]
    refine ⟨?_,?_⟩
    · rw [Array.getElem?_setIfInBounds,if_neg (by omega)]; exact hh.1
    · rw [Array.getElem?_setIfInBounds,if_neg (by omega)]; exact hh.2
theorem SpRow.lo {g : Nat} {l : List Spn} {w : World} (h : SpRow g l w) {i : Nat} (hi : i < l.length) (x : Int) : SpRow g (l.set i ⟨x,(gs l i).hi⟩) (w.setCell ⟨g,i * 2,none⟩ (.int .i64 x)) := by
  obtain ⟨cur,h1,h2⟩ := h.row
  refine ⟨_,heap_setCell_at h1 _,fun j hj => ?_⟩
  rw [List.length_set] at hj
  have hh := h2 j hj
  rw [gs_set hi]
  have hs : i * 2 < cur.size := (Array.getElem?_eq_some_iff.1 (h2 i hi).1).1
  by_cases e : i = j
  · subst e
    rw [if_pos rfl]
    refine ⟨?_,?_⟩
    · rw [Array.getElem?_setIfInBounds,if_pos rfl,if_pos hs]
    · rw [Array.getElem?_setIfInBounds,if_neg (by omega)]; exact hh.2
  · rw [if_neg e]
    refine ⟨?_,?_⟩
    · rw [Array.getElem?_setIfInBounds,if_neg (by omega)]; exact hh.1
    · rw [Array.getElem?_setIfInBounds,if_neg (by omega)]; exact hh.2
/-- Spans are copied into a row of their own. -/
theorem copy_spns {W w : World} {av : Option Addr} {l : List Spn} {cv : Nat} {xs : Value} (h0 : 0 < l.length) (hk : l.length ≤ 16) (hb : Below W.heap.size W w) (hx : w.ownsRow W.heap.size 33 2 xs 0 []) (hi : IsSpns w av l) :
    ∃ (g c : Nat) (w' : World),(Builtin.append_ #[22,22] 22 #[xs,.slice av l.length cv]).run Try.prog w = .ok (.slice (some ⟨g,0,none⟩) l.length c) w' ∧ W.heap.size ≤ g ∧ SpRow g l w' ∧ Below W.heap.size W w' := by
  obtain ⟨i0,hi0,hz0,hz1,hz2⟩ := info_parts2 infoSp
  obtain ⟨v',w',hr,hn,hg,_⟩ := append_rows_at (P := Try.prog) (w := w) W.heap.size 22 22 33 i0 _ 2 16 Try.underlying22 hi0 hz0 hz1 hz2 rfl (by decide) xs 0 [] hx av l.length cv (spV l) (spV_len l) (spns_news hi) spV_one (by simp [maxLen]; omega) (by omega) hb.size
  rw [Nat.zero_add,List.nil_append] at hn
  have hb' : Below W.heap.size W w' := hb.grown hg hb.size (fun k hk => (hx.lt k hk).1)
  rcases hn.2 with ⟨_,h1⟩ | ⟨g,cap,cur,rfl,h1,h2,_⟩
  · omega
  · refine ⟨g,cap,w',hr,h1,⟨cur,h2,fun i hi' => ?_⟩,hb'⟩
    have hc : ∀ j u,(spV l)[j]? = some u → cur[j]? = some u := fun j u hj => by
      have := hn.cells (g := g) rfl j u hj
      have e : ((⟨g,0,none⟩ : Addr).add j) = ⟨g,j,none⟩ := by unfold Addr.add; split <;> simp_all
      rw [e,cell_of_heap h2] at this
      exact this
    exact ⟨hc _ _ (spV_at hi').1,hc _ _ (spV_at hi').2⟩
theorem own_none33 {w : World} {B : Nat} (h : B ≤ w.heap.size) : (w.alloc (.cells #[] 33)).ownsRow B 33 2 (.slice (some ⟨w.heap.size,0,none⟩) 0 0) 0 [] := World.ownsRow_made (e := 33) (size := 2) w #[] 0 (base := B) h (by simp [maxLen]) (by simp)
theorem own_none22 {w : World} {B : Nat} (h : B ≤ w.heap.size) : (w.alloc (.cells #[] 22)).ownsRow B 22 1 (.slice (some ⟨w.heap.size,0,none⟩) 0 0) 0 [] := World.ownsRow_made (e := 22) (size := 1) w #[] 0 (base := B) h (by simp [maxLen]) (by simp)
set_option maxRecDepth 100000 in
set_option maxHeartbeats 4000000 in
theorem narrow40 {w : World} {b7 i : Nat} {b : Int} {l : List Spn} {a : Option Addr} {cap : Nat} (hq : w.cell? ⟨b7,0,none⟩ = some (.int .u8 b)) (hb : 0 ≤ b ∧ b ≤ 255) (hi : i < l.length) (hl : l.length ≤ 16) (hok : (gs l i).ok = true) (ha : IsSpns w a l) :
    Calls Try.prog 40 #[.slice a l.length cap,.int .i64 (i : Int),.pointer (some ⟨b7,0,none⟩)] w fun e w' => ∃ g c,e = .returned (.slice (some ⟨g,0,none⟩) l.length c) ∧ w.heap.size ≤ g ∧ SpRow g (narL b l i) w' ∧ Below w.heap.size w w' := by
  obtain ⟨s0,s1,s2⟩ := (ok_iff _).1 hok
  have hb0 : Below w.heap.size w (w.alloc (.cells #[] 33)) := (Below.refl _ w).alloc (Nat.le_refl _) _
  obtain ⟨g,c,w2,hr,hg,hrow,hb2⟩ := copy_spns (cv := cap) (by omega) hl hb0 (own_none33 (Nat.le_refl _)) (ha.mono hb0)
  have hq2 := cell_stays hb2 hq
  obtain ⟨lo,hlo⟩ : ∃ lo,(gs l i).lo = lo := ⟨_,rfl⟩
  obtain ⟨hi',hhi⟩ : ∃ hi,(gs l i).hi = hi := ⟨_,rfl⟩
  have hc := hrow.cells hi
  rw [hlo,hhi] at hc
  rw [hlo] at s0 s1
  rw [hhi] at s1 s2
  have t1 : b.tmod 20 = b % 20 := Int.tmod_eq_emod_of_nonneg hb.1
  have t2 : b.tmod 3 = b % 3 := Int.tmod_eq_emod_of_nonneg hb.1
  have u1 := Int.emod_nonneg b (show (20 : Int) ≠ 0 by omega)
  have u2 := Int.emod_nonneg b (show (3 : Int) ≠ 0 by omega)
  have u3 := Int.emod_lt_of_pos b (show (0 : Int) < 20 by omega)
  have u4 := Int.emod_lt_of_pos b (show (0 : Int) < 3 by omega)
  have HNS : Hid (narS b (gs l i) = ⟨min (max lo (hi' - b % 20)) (lo + b % 3),max lo (hi' - b % 20)⟩) := by unfold narS; rw [hlo,hhi]; rfl
  obtain ⟨r1,hr1⟩ : ∃ r,b % 20 = r := ⟨_,rfl⟩
  obtain ⟨r2,hr2⟩ : ∃ r,b % 3 = r := ⟨_,rfl⟩
  rw [hr1] at t1 u1 u3 HNS
  rw [hr2] at t2 u2 u4 HNS
  have v0 : IntKind.i64.wrap b = b := IntWalk.i64_in _ (by omega)
  have v1 : IntKind.i64.wrap (hi' - r1) = hi' - r1 := IntWalk.i64_in _ (by omega)
  have v2 : IntKind.i64.wrap (lo + r2) = lo + r2 := IntWalk.i64_in _ (by omega)
  have HRUN := Lib.hid hr
  have HQ := Lib.hid hq
  have HROW := Lib.hid (And.intro hrow (And.intro hg hb2))
  have HLO := Lib.hid hlo
  have HHI := Lib.hid hhi
  clear hr hrow hg hb2 hb0 ha hq hok hlo hhi hr1 hr2
  go_enter Try.func40,Try.ntmps40
  go_wp2_with (at_builtin; refine wpList_append_run rfl (.tmp 6) (.tmp 7) 22 rfl _ _ _ _ rfl rfl HRUN.out ?_)
  have z1 := fun y : Aft w2.heap.size w2 => cell_stays y.h hc.1
  have z2 := fun y : Aft w2.heap.size w2 => cell_stays y.h hc.2
  have z3 := fun y : Aft w2.heap.size w2 => cell_stays y.h hq2
  refine wp_region_aft_tail 19 mixed (by kernel_rfl) ?_
  simp only [List.take_succ_cons,List.take_zero,List.drop_succ_cons,List.drop_zero]
  repeat (go_big_quiet_step (fail))
  refine wpQuiet_nil ?_
  rintro _ ⟨y,rfl⟩
  have HY := Lib.hid y.h
  revert HY
  generalize y.v = V
  intro HY
  clear z1 z2 z3
  have hq3 := cell_stays HY.out hq2
  have HR3 := Lib.hid (HROW.out.1.mono HY.out)
  have ca : V.cell? ⟨g,i * 2 + 1,none⟩ = some (.int .i64 hi') := by rw [(HR3.out.cells hi).2,HHI.out]
  have fa : V.frozen? ⟨g,i * 2 + 1,none⟩ = false := HR3.out.frozen _
  clear hq2 hc
  obtain ⟨nh,hnh⟩ : ∃ nh,max lo (hi' - r1) = nh := ⟨_,rfl⟩
  have hnb : 0 ≤ nh ∧ nh ≤ 1440 := by omega
  rw [hnh] at HNS ⊢
  clear hnh
  have hbw : Below w.heap.size w (V.setCell ⟨g,i * 2 + 1,none⟩ (.int .i64 nh)) := (HROW.out.2.2.trans (HY.out.mono HROW.out.2.2.size)).setCell HROW.out.2.1 _
  have hsr := HR3.out.hi hi nh
  rw [HLO.out] at hsr
  have HR4 := Lib.hid (And.intro hbw hsr)
  clear hbw hsr hq3
  go_upto_region 3 with fail
  clear ca fa
  revert HR4
  generalize (V.setCell ⟨g,i * 2 + 1,none⟩ (.int .i64 nh)) = V2
  intro HR4
  have hil : i < (l.set i ⟨lo,nh⟩).length := by rw [List.length_set]; exact hi
  have hgs : gs (l.set i ⟨lo,nh⟩) i = ⟨lo,nh⟩ := by rw [gs_set hi,if_pos rfl]
  have hc := HR4.out.2.cells hil
  rw [hgs] at hc
  have hq5 := cell_stays HR4.out.1 HQ.out
  have HIL := Lib.hid (And.intro hil hgs)
  clear hil hgs
  have z1 := fun y : Aft V2.heap.size V2 => cell_stays y.h hc.1
  have z2 := fun y : Aft V2.heap.size V2 => cell_stays y.h hc.2
  have z3 := fun y : Aft V2.heap.size V2 => cell_stays y.h hq5
  refine wp_region_aft_tail 19 mixed (by kernel_rfl) ?_
  simp only [List.take_succ_cons,List.take_zero,List.drop_succ_cons,List.drop_zero]
  repeat (go_big_quiet_step (fail))
  refine wpQuiet_nil ?_
  rintro _ ⟨y2,rfl⟩
  have HY2 := Lib.hid y2.h
  revert HY2
  generalize y2.v = V3
  intro HY2
  clear z1 z2 z3 hc hq5
  have HR5 := Lib.hid (HR4.out.2.mono HY2.out)
  have ca : V3.cell? ⟨g,i * 2,none⟩ = some (.int .i64 lo) := by rw [(HR5.out.cells HIL.out.1).1,HIL.out.2]
  have fa : V3.frozen? ⟨g,i * 2,none⟩ = false := HR5.out.frozen _
  go_wp2_with fail
  go_ret
  have hsr := HR5.out.lo HIL.out.1 (min nh (lo + r2))
  rw [HIL.out.2,List.set_set] at hsr
  refine ⟨g,c,rfl,HROW.out.2.1,?_,(HR4.out.1.trans (HY2.out.mono HR4.out.1.size)).setCell HROW.out.2.1 _⟩
  unfold narL
  rw [HNS.out]
  exact hsr
end Go.Proofs.Ytphefhpmbahagaa
