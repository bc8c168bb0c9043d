/- The order with the most views: the plain law; rows gathered by append. -/
import Derived.Test.YtphefhpmbahagaaT69
namespace Go.Proofs.Ytphefhpmbahagaa
open Go.RowKit
set_option linter.unusedVariables false
set_option linter.unusedSimpArgs false

theorem gi_take {o : List Int} {i k : Nat} (h : k < i) : gi (o.take i) k = gi o k := by simp [gi,h]
theorem at_take (t : Tr) {o : List Int} {i k : Nat} (h : k ≤ i) : t.at_ (o.take i) k = t.at_ o k := by unfold Tr.at_; rw [List.take_take,Nat.min_eq_left h]
theorem minAt_take (t : Tr) (q : Bool) {o : List Int} {i k : Nat} (h : k < i) : t.minAt q (o.take i) k = t.minAt q o k := by unfold Tr.minAt; rw [at_take t (by omega),gi_take h]
theorem take_sure {t : Tr} {o : List Int} (i : Nat) (h : t.is true o = true) : t.is true (o.take i) = true := by
  rw [is_iff] at h ⊢
  intro k hk
  rw [List.length_take] at hk
  rw [minAt_take t true (by omega),gi_take (by omega)]
  exact h k (by omega)
theorem sure_two {t : Tr} {o : List Int} (hE : openE t (t.order o) = 0) (h : t.is true o = true) : walkedE t o = (2,0) := by unfold walkedE; rw [if_pos hE,h]; rfl
theorem two_sure {t : Tr} {o : List Int} (hE : openE t (t.order o) = 0) (h : (walkedE t o).1 = 2) : t.is true o = true := by
  unfold walkedE at h
  rw [if_pos hE] at h
  cases e : t.is true o
  · rw [e] at h; cases e2 : t.is false o <;> rw [e2] at h <;> simp at h
  · rfl
theorem order_facts {t : Tr} {o : List Int} (h : t.order o = true) : o.Nodup ∧ ∀ v ∈ o,0 ≤ v ∧ v < t.frm.length := by
  have h : (o.all t.view && decide o.Nodup) = true := h
  rw [Bool.and_eq_true,decide_eq_true_eq,List.all_eq_true] at h
  refine ⟨h.2,fun v hv => ?_⟩
  obtain ⟨m,rfl,hm⟩ := view_nat (h.1 v hv)
  omega
/-- What the law asks of the order with the most views. -/
structure MostFacts (t : Tr) (l : List Int) : Prop where
  ord : t.order l = true
  len : l.length ≤ 6
  pre : ∀ i,walkedE t (l.take i) = (2,0)
  ins : ∀ x : List Int,x.length = l.length + 1 → t.order x = true → ∃ wv,walkedE t x = (wv,0) ∧ wv ≠ 2
  own : ∀ o : List Int,o.Nodup → (∀ v ∈ o,0 ≤ v ∧ v < t.frm.length) → openE t (t.order o) = 0 ∧ ∃ wv,walkedE t o = (wv,0) ∧ (wv = 2 → l.length ≤ o.length →
    o.length = l.length ∧ t.takes l ≤ t.takes o ∧ (t.takes o = t.takes l → ∀ c,c < o.length → (∀ j,j < c → gi o j = gi l j) → gi o c ≠ gi l c → gi l c < gi o c))
theorem most_facts {t : Tr} (hv : t.valid = true) : ∃ l,mostE t = (l,0) ∧ MostFacts t l := by
  have hF := fit_of_valid hv
  have hE : openE t true = 0 := by unfold openE; rw [hv]; rfl
  obtain ⟨f1,f2,f3,f4⟩ := best_facts t
  have hob : t.order (bestE t).1 = true := order_mk f1 f2
  have hbl := (all_in _ _ f1 f2).1
  have hb6 : (bestE t).1.length ≤ 6 := by have := hF.n; omega
  have t2 : mostE t = ((bestE t).1,0) := by unfold mostE; rw [if_pos hE]
  have hwz : ∀ o,openE t (t.order o) = 0 → walkedE t o = ((walkedE t o).1,0) := fun o h => by unfold walkedE; rw [if_pos h]
  have hlow : ∀ o : List Int,o.Nodup → (∀ v ∈ o,0 ≤ v ∧ v < t.frm.length) → t.is true o = true → ¬ ((bestE t).1.length < o.length ∨ (o.length = (bestE t).1.length ∧ (t.takes o < t.takes (bestE t).1 ∨ (t.takes o = t.takes (bestE t).1 ∧ cmpL o (bestE t).1 < 0)))) := fun o hd hr hs h => by
    have hlow := sure_low hd hr hs
    rw [f4,betE_lt] at hlow
    exact hlow h
  refine ⟨(bestE t).1,t2,hob,hb6,fun i => ?_,fun x hx ho => ?_,fun o hd hr => ?_⟩
  · have hd : ((bestE t).1.take i).Nodup := f1.sublist (List.take_sublist _ _)
    exact sure_two (openE_mk hv (order_mk hd (fun v h => f2 v (List.mem_of_mem_take h)))) (take_sure i f3)
  · have hE2 := openE_mk hv ho
    obtain ⟨hd,hr⟩ := order_facts ho
    refine ⟨_,hwz x hE2,fun h => hlow x hd hr (two_sure hE2 h) (.inl (by omega))⟩
  · have hE2 := openE_mk hv (order_mk hd hr)
    refine ⟨hE2,_,hwz o hE2,fun h hl => ?_⟩
    have hn := hlow o hd hr (two_sure hE2 h)
    have hlen : o.length = (bestE t).1.length := by
      by_cases e : (bestE t).1.length < o.length
      · exact absurd (.inl e) hn
      · omega
    refine ⟨hlen,?_,fun heq c hc hj hne => ?_⟩
    · by_cases e : t.takes o < t.takes (bestE t).1
      · exact absurd (.inr ⟨hlen,.inl e⟩) hn
      · omega
    · have hn2 : ¬ cmpL o (bestE t).1 < 0 := fun h => hn (.inr ⟨hlen,.inr ⟨heq,h⟩⟩)
      rcases cmpL_total o (bestE t).1 with h | h | h
      · exact absurd h hn2
      · exact absurd (by rw [h]) hne
      · exact cmpL_first hlen.symm h (by omega) (fun j hjc => (hj j hjc).symm) (Ne.symm hne)
theorem ints_news {w : World} {a : Option Addr} {l : List Int} (h : IsInts w a l) : l.length ≠ 0 → ∃ ad,a = some ad ∧ ∀ j u,(l.map (Value.int .i64))[j]? = some u → w.cell? (ad.add j) = some u := fun h0 => by
  obtain ⟨b,off,e,hc⟩ := h.at (k := 0) (by omega)
  refine ⟨⟨b,off,none⟩,e,fun j u hj => ?_⟩
  have hj' : j < l.length := by have := (List.getElem?_eq_some_iff.1 hj).1; simpa using this
  have e2 : ((⟨b,off,none⟩ : Addr).add j) = ⟨b,off + j,none⟩ := by unfold Addr.add; split <;> simp_all
  rw [e2,hc j hj']
  simp [hj'] at hj
  rw [← hj]
  simp [gi,hj']
/-- A fresh copy. -/
theorem copy_new {W w : World} {av : Option Addr} {pre : List Int} {cv : Nat} {xs : Value} (hk : pre.length ≤ 16) (hb : Below W.heap.size W w) (hx : w.ownsRow W.heap.size 3 1 xs 0 []) (hi : IsInts w av pre) :
    ∃ (r1 : Option Addr × Nat) (w' : World),(Builtin.append_ #[26,26] 26 #[xs,.slice av pre.length cv]).run Try.prog w = .ok (.slice r1.1 pre.length r1.2) w' ∧ Below W.heap.size W w' ∧ w'.ownsRow W.heap.size 3 1 (.slice r1.1 pre.length r1.2) pre.length (pre.map (Value.int .i64)) ∧
      (∀ k,k < w.heap.size → xs.ownBlock ≠ some k → w'.heap[k]? = w.heap[k]? ∧ (Value.slice r1.1 pre.length r1.2).ownBlock ≠ some k) := by
  obtain ⟨i0,hi0,hz0,hz1,hz2⟩ := info_parts infoI
  obtain ⟨v',w',hr,hn,hg,hor⟩ := append_rows_at (P := Try.prog) (w := w) W.heap.size 26 26 3 i0 _ 1 8 Try.underlying26 hi0 hz0 hz1 hz2 rfl (by decide) xs 0 [] hx av pre.length cv (pre.map (Value.int .i64)) (by simp) (ints_news hi) (by intro u hu; simp at hu; obtain ⟨x,_,rfl⟩ := hu; rfl) (by simp [maxLen]; omega) (by omega) hb.size
  rw [Nat.zero_add,List.nil_append] at hn
  obtain ⟨a',c',rfl,_⟩ := own_slice hn
  refine ⟨(a',c'),w',hr,hb.grown hg hb.size (fun k hk => (hx.lt k hk).1),hn,fun k hk hne => ⟨hg.block k hk (fun e => hne e.symm),fun e => ?_⟩⟩
  rcases hor with h | h
  · rw [h] at e; exact hne e
  · rw [h] at e; cases e; omega
/-- And one number more. -/
theorem copy_more {W w : World} {pre : List Int} {f : Int} {r1 : Option Addr × Nat} {ms : Nat} (hk : pre.length ≤ 16) (hb : Below W.heap.size W w) (hx : w.ownsRow W.heap.size 3 1 (.slice r1.1 pre.length r1.2) pre.length (pre.map (Value.int .i64))) (hm : w.heap[ms]? = some (.cells #[.int .i64 f] 3 (0,0))) :
    ∃ (r2 : Option Addr × Nat) (w' : World),(Builtin.append_ #[26,26] 26 #[.slice r1.1 pre.length r1.2,.slice (some ⟨ms,0,none⟩) 1 1]).run Try.prog w = .ok (.slice r2.1 (pre.length + 1) r2.2) w' ∧ Below W.heap.size W w' ∧ w'.ownsRow W.heap.size 3 1 (.slice r2.1 (pre.length + 1) r2.2) (pre ++ [f]).length ((pre ++ [f]).map (Value.int .i64)) := by
  obtain ⟨i0,hi0,hz0,hz1,hz2⟩ := info_parts infoI
  obtain ⟨v',w',hr,hn,hg,_⟩ := append_keep (P := Try.prog) (w := w) W.heap.size 26 26 3 i0 _ 8 Try.underlying26 hi0 hz0 hz1 hz2 rfl _ _ _ hx ⟨ms,0,none⟩ (.int .i64 f) (by rw [cell_of_heap hm]; rfl) rfl (by simp [maxLen]; omega) (by omega) hb.size
  obtain ⟨a',c',rfl,_⟩ := own_slice hn
  refine ⟨(a',c'),w',hr,hb.grown hg hb.size (fun k hk => (hx.lt k hk).1),?_⟩
  have e : (pre ++ [f]).length = pre.length + 1 := by simp
  have e2 : (pre ++ [f]).map (Value.int .i64) = pre.map (Value.int .i64) ++ [.int .i64 f] := by simp
  rw [e,e2]
  exact hn
theorem ownsRow_zero {w : World} {B : Nat} (h : B ≤ w.heap.size) : (w.alloc (.cells #[] 3)).ownsRow B 3 1 (.slice (some ⟨w.heap.size,0,none⟩) 0 0) 0 [] := World.ownsRow_made (e := 3) (size := 1) w #[] 0 (base := B) h (by simp [maxLen]) (by simp)

/-- A row of numbers grows by those of a slice. -/
theorem app_ints {W w : World} {av : Option Addr} {l m : List Int} {cv n : Nat} {r : Option Addr × Nat} (hn : n = l.length) (hk : l.length + m.length ≤ 40) (hb : Below W.heap.size W w) (hx : w.ownsRow W.heap.size 3 1 (.slice r.1 n r.2) n (l.map (Value.int .i64))) (hi : IsInts w av m) :
    ∃ (r1 : Option Addr × Nat) (w' : World),(Builtin.append_ #[26,26] 26 #[.slice r.1 n r.2,.slice av m.length cv]).run Try.prog w = .ok (.slice r1.1 (n + m.length) r1.2) w' ∧ Below W.heap.size W w' ∧ w'.ownsRow W.heap.size 3 1 (.slice r1.1 (n + m.length) r1.2) (n + m.length) ((l ++ m).map (Value.int .i64)) := by
  obtain ⟨i0,hi0,hz0,hz1,hz2⟩ := info_parts infoI
  obtain ⟨v',w',hr,hn,hg,hor⟩ := append_rows_at (P := Try.prog) (w := w) W.heap.size 26 26 3 i0 _ 1 8 Try.underlying26 hi0 hz0 hz1 hz2 rfl (by decide) _ n _ hx av m.length cv (m.map (Value.int .i64)) (by simp) (ints_news hi) (by intro u hu; simp at hu; obtain ⟨x,_,rfl⟩ := hu; rfl) (by simp [maxLen]; omega) (by omega) hb.size
  rw [← List.map_append] at hn
  obtain ⟨a',c',rfl,_⟩ := own_slice hn
  exact ⟨(a',c'),w',hr,hb.grown hg hb.size (fun k hk => (hx.lt k hk).1),hn⟩
end Go.Proofs.Ytphefhpmbahagaa
