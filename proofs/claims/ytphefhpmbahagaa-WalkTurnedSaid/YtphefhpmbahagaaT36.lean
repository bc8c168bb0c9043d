/- Tours. -/
import Derived.Test.YtphefhpmbahagaaT35
namespace Go.Proofs.Ytphefhpmbahagaa
open Go.RowKit
set_option linter.unusedVariables false
set_option linter.unusedSimpArgs false

/-! ### facts that stay through the rounds of a range over a function -/
structure KeepI (w0 : World) (L : Nat) (F : List (Nat × Obj)) (A : World) (C : Nat → Prop) : Prop where
  below : Below w0.heap.size w0 A
  at_ : ∀ p ∈ F,A.heap[p.1]? = some p.2
  mine : ∀ k,k < L → C k
theorem KeepI.stable {w0 : World} {L lb : Nat} {F : List (Nat × Obj)} {A B : World} {C : Nat → Prop} (h : KeepI w0 L F A C) (hs : Same (fun k => ¬ C k ∨ k = lb) A B) (hF : ∀ p ∈ F,p.1 < lb) (hw : w0.heap.size ≤ lb) (hl : lb < L) : KeepI w0 L F B C := by
  refine ⟨h.below.trans (hs.below h.below.size (fun k hk e => ?_)),fun p hp => ?_,h.mine⟩
  · rcases e with e | e
    · exact e (h.mine k (by omega))
    · omega
  · have h1 := h.at_ p hp
    refine (hs.block _ (heap_lt h1) (fun e => ?_)).trans h1
    have := hF p hp
    rcases e with e | e
    · exact e (h.mine _ (by omega))
    · omega
theorem KeepI.next {w0 : World} {lb : Nat} {F F' : List (Nat × Obj)} {V V' : World} {C K S M : Nat → Prop} (h : KeepI w0 (lb + 1) F V C) (hs : Same S V V') (hS : ∀ k,k < V.heap.size → S k → w0.heap.size ≤ k ∧ k < lb ∧ M k) (hF : ∀ p ∈ F',V'.heap[p.1]? = some p.2) (hl : lb + 1 ≤ V.heap.size) :
    Same (mayC M (lb + 1) C) V V' ∧ V'.heap[lb]? = V.heap[lb]? ∧ ∃ C' : Nat → Prop,(∀ k,k < lb + 1 → C' k) ∧ (∀ k,C' k → k < V'.heap.size) ∧ (∀ k,C' k → C k ∨ K k ∨ V.heap.size ≤ k) ∧ KeepI w0 (lb + 1) F' V' C' := by
  have hz := hs.size
  refine ⟨hs.mono (fun k hk e => ?_),hs.block _ (by omega) (fun e => by have := hS _ (by omega) e; omega),fun k => C k ∧ k < V.heap.size,fun k hk => ⟨h.mine k hk,by omega⟩,fun k hk => by have := hk.2; omega,fun k hk => .inl hk.1,?_⟩
  · have := hS k hk e
    exact ⟨h.mine k (by omega),fun _ => this.2.2⟩
  · refine ⟨h.below.trans (hs.below h.below.size (fun k hk e => ?_)),hF,fun k hk => ⟨h.mine k hk,by omega⟩⟩
    by_cases hV : k < V.heap.size
    · have := (hS k hV e).1; omega
    · have := h.below.size; omega

/-! ### tours,in plain words -/
theorem tourP_mem {n : Nat} : ∀ (d : Nat) (pre x : List Int),x ∈ tourP n d pre → pre.length + d = n → (∀ v ∈ pre,0 ≤ v ∧ v < n) → pre.Nodup → x.length = n ∧ (∀ v ∈ x,0 ≤ v ∧ v < n) ∧ x.Nodup
  | 0,pre,x,h,hl,hv,hd => by
    have : x = pre := by simpa [tourP] using h
    subst this
    exact ⟨by omega,hv,hd⟩
  | d + 1,pre,x,h,hl,hv,hd => by
    rw [tourP_succ,List.mem_flatMap] at h
    obtain ⟨v,hvn,hx⟩ := h
    have hvn : v < n := by simpa using hvn
    unfold onF at hx
    by_cases hm : (v : Int) ∈ pre
    · rw [if_pos hm] at hx; cases hx
    · rw [if_neg hm] at hx
      refine tourP_mem d _ x hx (by simp; omega) (fun u hu => ?_) ?_
      · rcases List.mem_append.1 hu with hu | hu
        · exact hv u hu
        · rw [List.mem_singleton.1 hu]; omega
      · rw [List.nodup_append]
        exact ⟨hd,by simp,fun a ha b hb => by rw [List.mem_singleton.1 hb]; intro e; subst e; exact hm ha⟩
theorem tour_mem {n : Nat} {x : List Int} (h : x ∈ toursL n) : x.length = n ∧ (∀ v ∈ x,0 ≤ v ∧ v < n) ∧ x.Nodup := tourP_mem n [] x h (by simp) (fun v hv => by cases hv) List.nodup_nil
theorem flatMap_le {α β : Type} (f : α → List β) (b : Nat) : ∀ (l : List α),(∀ x ∈ l,(f x).length ≤ b) → (l.flatMap f).length ≤ l.length * b
  | [],_ => by simp
  | x :: l,h => by
    have h1 := h x (by simp)
    have h2 := flatMap_le f b l (fun y hy => h y (by simp [hy]))
    rw [List.flatMap_cons,List.length_append,List.length_cons,Nat.add_mul]
    omega
theorem tourP_len (n : Nat) : ∀ (d : Nat) (pre : List Int),(tourP n d pre).length ≤ n ^ d
  | 0,pre => by simp [tourP]
  | d + 1,pre => by
    rw [tourP_succ]
    have := flatMap_le (onF n d pre) (n ^ d) (List.range n) (fun v _ => by
      unfold onF
      split
      · simp
      · exact tourP_len n d _)
    rw [List.length_range] at this
    rw [Nat.pow_succ,Nat.mul_comm]
    exact this
theorem tours_len {n : Nat} (h : n ≤ 6) : (toursL n).length ≤ 46656 := by
  refine Nat.le_trans (tourP_len n n []) ?_
  have h2 : n = 0 ∨ n = 1 ∨ n = 2 ∨ n = 3 ∨ n = 4 ∨ n = 5 ∨ n = 6 := by omega
  rcases h2 with rfl | rfl | rfl | rfl | rfl | rfl | rfl <;> decide
theorem tour_view {t : Tr} {x : List Int} (h : x ∈ toursL t.frm.length) : ∀ v ∈ x,t.view v = true := fun v hv => by
  have := (tour_mem h).2.1 v hv
  unfold Tr.view inR Tr.n
  simp; omega
/-- How many of the first k tours are sure,or can be. -/
def Tr.cnt (t : Tr) (q : Bool) (k : Nat) : Nat := ((toursL t.frm.length).take k).countP (t.is q)
theorem cnt_succ {t : Tr} {q : Bool} {k : Nat} {x : List Int} (h : (toursL t.frm.length)[k]? = some x) : t.cnt q (k + 1) = t.cnt q k + (if t.is q x then 1 else 0) := by
  have hk := (List.getElem?_eq_some_iff.1 h).1
  unfold Tr.cnt
  rw [List.take_succ_eq_append_getElem hk,(List.getElem?_eq_some_iff.1 h).2,List.countP_append]
  simp [List.countP_cons]
theorem cnt_le (t : Tr) (q : Bool) (k : Nat) : t.cnt q k ≤ k := by
  unfold Tr.cnt
  refine Nat.le_trans List.countP_le_length ?_
  rw [List.length_take]; omega
def toursE (t : Tr) : Int × Int × Int := if openE t true = 0 then ((t.cnt true (toursL t.frm.length).length : Nat),(t.cnt false (toursL t.frm.length).length : Nat),0) else (0,0,openE t true)
theorem res_c339 {fn : Func} {p q r : Tmp} (h : fn.results = #[.cell p 3,.cell q 3,.cell r 29]) (tmps : Array Value) {w : World} {a b c : Nat} {x y z : Value} (hp : tmps.getD p undef = .pointer (some ⟨a,0,none⟩)) (hq : tmps.getD q undef = .pointer (some ⟨b,0,none⟩)) (hr : tmps.getD r undef = .pointer (some ⟨c,0,none⟩))
    (hx : w.cell? ⟨a,0,none⟩ = some x) (hy : w.cell? ⟨b,0,none⟩ = some y) (hz : w.cell? ⟨c,0,none⟩ = some z) :
    (results fn tmps).run Try.prog w = .ok (.tuple #[x,y,z]) w := by
  have hp' : tmps[p]?.getD undef = .pointer (some ⟨a,0,none⟩) := by simpa using hp
  have hq' : tmps[q]?.getD undef = .pointer (some ⟨b,0,none⟩) := by simpa using hq
  have hr' : tmps[r]?.getD undef = .pointer (some ⟨c,0,none⟩) := by simpa using hr
  simp [results,h,hp',hq',hr',hx,hy,hz,go_sem]
structure tou9F (b2 : Nat) (b3 : Nat) (b4 : Nat) (x : Int) (y : Int) (S0 : World → Prop) (S1 : World → Prop) (S2 : World → Prop) (S3 : World → Prop) (d : Nat → Bool) (x27 x28 : Value) (w : World) : Prop where
  q2 : d 2 = true → d 0 = true
  q3 : d 3 = true → d 0 = true ∧ d 1 = true ∧ d 2 = true
  q4 : d 4 = true → d 0 = true ∧ d 1 = true ∧ d 2 = true ∧ d 3 = true
  f0 : d 0 = true → x27 = .int .i64 x
  f1 : d 1 = true → x28 = .int .i64 y
  st0 : d 2 = false → S0 w
  st1 : d 2 = true → d 3 = false → S1 w
  st2 : d 3 = true → d 4 = false → S2 w
  st3 : d 4 = true → S3 w
noncomputable def tou9C : Code := (Try.f23.body.bind (regionAt 9)).getD .skip
set_option maxRecDepth 100000 in
set_option maxHeartbeats 4000000 in
theorem tou9 {b2 : Nat} {b3 : Nat} {b4 : Nat} {x : Int} {y : Int} {S0 : World → Prop} {S1 : World → Prop} {S2 : World → Prop} {S3 : World → Prop} {Q : Exit → Act → World → Prop} {W1 : World} (h0 : S0 W1.drew)
    (kl0 : Hid (∀ (w : World),(S0 w) → w.cell? ⟨b2,0,none⟩ = some (.int .i64 x)))
    (kl1 : Hid (∀ (w : World),(S0 w ∨ S1 w) → w.cell? ⟨b3,0,none⟩ = some (.int .i64 y)))
    (kc2 : Hid (∀ (w : World),S0 w → (∃ u,w.cell? ⟨b2,0,none⟩ = some u) ∧ w.frozen? ⟨b2,0,none⟩ = false ∧ S1 (w.setCell ⟨b2,0,none⟩ (.int .i64 x))))
    (kc3 : Hid (∀ (w : World),S1 w → (∃ u,w.cell? ⟨b3,0,none⟩ = some u) ∧ w.frozen? ⟨b3,0,none⟩ = false ∧ S2 (w.setCell ⟨b3,0,none⟩ (.int .i64 y))))
    (kc4 : Hid (∀ (w : World),S2 w → (∃ u,w.cell? ⟨b4,0,none⟩ = some u) ∧ w.frozen? ⟨b4,0,none⟩ = false ∧ S3 (w.setCell ⟨b4,0,none⟩ (.int .i64 0))))
    {s0 s1 s5 s6 s7 s8 s9 s10 s11 s12 s13 s14 s15 s16 s17 s18 s19 s20 s21 s22 s23 s24 s25 s26 s27 s28 : Value} {dd : List Deferred}
    (hQ : ∀ (w' : World),S3 w' → Q .normal { tmps := #[s0,s1,.pointer (some ⟨b2,0,none⟩),.pointer (some ⟨b3,0,none⟩),.pointer (some ⟨b4,0,none⟩),s5,s6,s7,s8,s9,s10,s11,s12,s13,s14,s15,s16,s17,s18,s19,s20,s21,s22,s23,s24,s25,s26,.int .i64 x,.int .i64 y],defers := dd } w') :
    Code.wpIn (wideAt none) 0 Try.prog tou9C Q { tmps := #[s0,s1,.pointer (some ⟨b2,0,none⟩),.pointer (some ⟨b3,0,none⟩),.pointer (some ⟨b4,0,none⟩),s5,s6,s7,s8,s9,s10,s11,s12,s13,s14,s15,s16,s17,s18,s19,s20,s21,s22,s23,s24,s25,s26,s27,s28],defers := dd } W1 := by
  have HQ := Lib.hid hQ
  clear hQ
  conv => arg 4; whnf
  refine wpIn_region_invG mixed (by kernel_rfl) (fun d_ a_ w' => ∃ (x27 : Value) (x28 : Value),a_ = { tmps := #[s0,s1,.pointer (some ⟨b2,0,none⟩),.pointer (some ⟨b3,0,none⟩),.pointer (some ⟨b4,0,none⟩),s5,s6,s7,s8,s9,s10,s11,s12,s13,s14,s15,s16,s17,s18,s19,s20,s21,s22,s23,s24,s25,s26,x27,x28],defers := dd } ∧ tou9F b2 b3 b4 x y S0 S1 S2 S3 d_ x27 x28 w') ?_ ?_ ?_
  · refine ⟨s27,s28,rfl,?_⟩
    constructor <;> first | rfl | (intro _; rfl) | (intro h; cases h; done) | (intro _; exact h0) | exact h0
  · refine ⟨?_,?_,?_,?_,?_,trivial⟩
    all_goals
      rintro d_ a_ w1 K hd_ hdep ⟨x27,x28,rfl,F⟩ HK
      simp [Region.binds] at hdep
    · have hst : S0 w1 := by
        have n_ : d_ 2 = false := by
          cases e_ : d_ 2 with
          | false => rfl
          | true => have h2 := (F.q2 e_); rw [show d_ 0 = false from hd_] at h2; cases h2
        exact (F.st0 n_)
      have kk := kl0.out w1 hst
      clear hst
      have HF : Hid (tou9F b2 b3 b4 x y S0 S1 S2 S3 (upd d_ 0) (.int .i64 x) x28 w1) := ⟨fun h => rfl,fun h => ⟨rfl,(F.q3 h).2.1,(F.q3 h).2.2⟩,fun h => ⟨rfl,(F.q4 h).2.1,(F.q4 h).2.2.1,(F.q4 h).2.2.2⟩,fun _ => rfl,F.f1,F.st0,F.st1,F.st2,F.st3⟩
      clear F
      go_simp
      exact HK.out _ _ ⟨_,_,rfl,HF.out⟩
    · have hst : S0 w1 ∨ S1 w1 := by
        cases e1 : d_ 2 with
        | false => exact .inl ((F.st0 e1))
        | true =>
          have n_ : d_ 3 = false := by
            cases e_ : d_ 3 with
            | false => rfl
            | true => have h2 := (F.q3 e_).2.1; rw [show d_ 1 = false from hd_] at h2; cases h2
          exact .inr ((F.st1 e1 n_))
      have kk := kl1.out w1 hst
      clear hst
      have HF : Hid (tou9F b2 b3 b4 x y S0 S1 S2 S3 (upd d_ 1) x27 (.int .i64 y) w1) := ⟨F.q2,fun h => ⟨(F.q3 h).1,rfl,(F.q3 h).2.2⟩,fun h => ⟨(F.q4 h).1,rfl,(F.q4 h).2.2.1,(F.q4 h).2.2.2⟩,F.f0,fun _ => rfl,F.st0,F.st1,F.st2,F.st3⟩
      clear F
      go_simp
      exact HK.out _ _ ⟨_,_,rfl,HF.out⟩
    · have hS := F.st0  hd_
      obtain rfl := F.f0 (by simp [hdep])
      obtain ⟨⟨ku0,kcell0⟩,kfr0,hres⟩ := kc2.out w1 hS
      have HF : Hid (tou9F b2 b3 b4 x y S0 S1 S2 S3 (upd d_ 2) (.int .i64 x) x28 (w1.setCell ⟨b2,0,none⟩ (.int .i64 x))) := ⟨fun _ => (show _ from (by simp [hdep] : d_ 0 = true)),fun h => ⟨(F.q3 h).1,(F.q3 h).2.1,rfl⟩,fun h => ⟨(F.q4 h).1,(F.q4 h).2.1,rfl,(F.q4 h).2.2.2⟩,F.f0,F.f1,fun h => (by simp [upd] at h),fun _ _ => hres,fun h _ => (by have h2 : d_ 2 = true := (F.q3 h).2.2; rw [show d_ 2 = false from hd_] at h2; cases h2),fun h => (by have h2 : d_ 2 = true := (F.q4 h).2.2.1; rw [show d_ 2 = false from hd_] at h2; cases h2)⟩
      clear F hS hres
      go_simp
      exact HK.out _ _ ⟨_,_,rfl,HF.out⟩
    · have hS := F.st1 (by simp [hdep] : d_ 2 = true) hd_
      obtain rfl := F.f1 (by simp [hdep])
      obtain ⟨⟨ku0,kcell0⟩,kfr0,hres⟩ := kc3.out w1 hS
      have HF : Hid (tou9F b2 b3 b4 x y S0 S1 S2 S3 (upd d_ 3) x27 (.int .i64 y) (w1.setCell ⟨b3,0,none⟩ (.int .i64 y))) := ⟨F.q2,fun _ => ⟨(show _ from (by simp [hdep] : d_ 0 = true)),(show _ from (by simp [hdep] : d_ 1 = true)),(show _ from (by simp [hdep] : d_ 2 = true))⟩,fun h => ⟨(F.q4 h).1,(F.q4 h).2.1,(F.q4 h).2.2.1,rfl⟩,F.f0,F.f1,fun h => (by have h2 : d_ 2 = false := h; rw [(by simp [hdep] : d_ 2 = true)] at h2; cases h2),fun _ h => (by simp [upd] at h),fun _ _ => hres,fun h => (by have h2 : d_ 3 = true := (F.q4 h).2.2.2; rw [show d_ 3 = false from hd_] at h2; cases h2)⟩
      clear F hS hres
      go_simp
      exact HK.out _ _ ⟨_,_,rfl,HF.out⟩
    · have hS := F.st2 (by simp [hdep] : d_ 3 = true) hd_
      obtain ⟨⟨ku0,kcell0⟩,kfr0,hres⟩ := kc4.out w1 hS
      have HF : Hid (tou9F b2 b3 b4 x y S0 S1 S2 S3 (upd d_ 4) x27 x28 (w1.setCell ⟨b4,0,none⟩ (.int .i64 0))) := ⟨F.q2,F.q3,fun _ => ⟨(show _ from (by simp [hdep] : d_ 0 = true)),(show _ from (by simp [hdep] : d_ 1 = true)),(show _ from (by simp [hdep] : d_ 2 = true)),(show _ from (by simp [hdep] : d_ 3 = true))⟩,F.f0,F.f1,fun h => (by have h2 : d_ 2 = false := h; rw [(by simp [hdep] : d_ 2 = true)] at h2; cases h2),fun _ h => (by have h2 : d_ 3 = false := h; rw [(by simp [hdep] : d_ 3 = true)] at h2; cases h2),fun _ h => (by simp [upd] at h),fun _ => hres⟩
      clear F hS hres
      go_simp
      exact HK.out _ _ ⟨_,_,rfl,HF.out⟩
  · rintro d_ a_ w1 hall ⟨x27,x28,rfl,F⟩
    have hall' : ∀ k,k < 5 → d_ k = true := hall
    obtain rfl := F.f0 (hall' 0 (by decide))
    obtain rfl := F.f1 (hall' 1 (by decide))
    have hst := F.st3 (hall' 4 (by decide))
    exact HQ.out  w1 hst
/-- What stays while tours are counted. -/
abbrev touF (t : Tr) (TA : TrA) (b pb tb i : Nat) : List (Nat × Obj) :=
  [(b + 1,.cells #[.int .i64 (t.cnt true i : Nat)] 3 (0,0)),(b + 2,.cells #[.int .i64 (t.cnt false i : Nat)] 3 (0,0)),(b + 3,.cells #[.int .i64 0] 29 (0,0)),(tb,.cells (t.obj TA) 91 (0,0)),(pb,.cells #[.pointer (some ⟨tb,0,none⟩)] 69 (0,0))]
attribute [local go_sem] Oper.semAt_some
set_option maxRecDepth 100000 in
set_option maxHeartbeats 4000000 in
theorem tours23 {t : Tr} {A : TrA} {w : World} (ht : IsTr w t A) (hs : t.Small) :
    Calls Try.prog 23 #[t.v A] w fun e w' => e = .returned (.tuple #[.int .i64 (toursE t).1,.int .i64 (toursE t).2.1,.int .i64 (toursE t).2.2]) ∧ Below w.heap.size w w' := by
  have hmf : ∀ (fn : Fn) (first cap : Array Value) (w : World),(Instr.makeFunc fn first cap).run Try.prog w = .ok (.func fn first cap) w := fun _ _ _ _ => rfl
  have HCF := Lib.hid cf65
  refine calls_of_wp_x Try.func23 rfl ?_
  simp only [Try.ntmps23,List.size_toArray,List.length_cons,List.length_nil,Nat.reduceAdd,Nat.reduceSub,Array.replicate_succ,Array.replicate_zero,List.push_toArray,List.append_toArray,List.nil_append,List.cons_append]
  go_wp2_with fail
  obtain ⟨W1,hW1⟩ : ∃ W1 : World,W1 = (((w.alloc (.cells (t.cells A) 25)).alloc (.cells #[.int .i64 0] 3)).alloc (.cells #[.int .i64 0] 3)).alloc (.cells #[.int .i64 0] 29) := ⟨_,rfl⟩
  obtain ⟨q0,q1,hz,hb⟩ := heap2 w (.cells (t.cells A) 25) (.cells #[.int .i64 0] 3)
  obtain ⟨q2,q3,hzb,hbx⟩ := heap2 ((w.alloc (.cells (t.cells A) 25)).alloc (.cells #[.int .i64 0] 3)) (.cells #[.int .i64 0] 3) (.cells #[.int .i64 0] 29)
  rw [hz] at q2 q3 hzb
  rw [← hW1] at q2 q3 hzb hbx
  have hb1 : Below w.heap.size w W1 := hb.trans (hbx.mono (by omega))
  have q1 := (hbx.block _ (heap_lt q1)).trans q1
  have ht1 := ht.mono hb1
  rw [← hW1]
  have hz1 : W1.heap.size = w.heap.size + 4 := by omega
  clear hW1 hb hbx hz hzb q0
  by_cases hE : openE t true = 0
  · obtain ⟨hv,_⟩ := openE_zero hE
    have hF := fit_of_valid hv
    refine (open_yes (g := 66) (cp := #[]) ht1 hs hv cf66 (fun tb W hP hbW => always66)).mono ?_
    rintro e w2 ⟨tb,rfl,htb,hP,hb2⟩
    have hB2 := hb1.trans (hb2.mono (by omega))
    have hz2 : w.heap.size + 4 ≤ w2.heap.size := by have := hb2.size; omega
    have q1 := (hb2.block _ (heap_lt q1)).trans q1
    have q2 := (hb2.block _ (heap_lt q2)).trans q2
    have q3 := (hb2.block _ (heap_lt q3)).trans q3
    have htw := heap_lt hP.obj
    have htb4 : w.heap.size + 4 ≤ tb := by omega
    have H2 := Lib.hid (And.intro hB2 (And.intro q1 (And.intro q2 (And.intro q3 (And.intro hP (And.intro hF (And.intro hE ht)))))))
    clear hb1 hz1 q1 q2 q3 ht1 ht hs hv hF htb hP hb2 hB2 hE
    go_wp2_with fail
    refine tours67.mono ?_
    rintro e w3 ⟨rfl,rfl⟩
    obtain ⟨r0,r1,hz3,hb3⟩ := heap2 w2 (.cells #[.pointer (some ⟨tb,0,none⟩)] 69) (.cells #[.pointer (some ⟨tb,0,none⟩)] 69)
    simp only [World.size_alloc]
    revert r0 r1 hz3 hb3
    generalize (w2.alloc (.cells #[.pointer (some ⟨tb,0,none⟩)] 69)).alloc (.cells #[.pointer (some ⟨tb,0,none⟩)] 69) = w3
    intro r0 r1 hz3 hb3
    have H3 := Lib.hid (And.intro r0 (And.intro r1 hb3))
    clear r0 r1 hb3
    go_wp2_with fail
    refine wp_rangeFuncC (gf := 87) (lb := #[.pointer (some ⟨w2.heap.size + 1,0,none⟩)]) rfl (fun args w => by simp [callFunc,Try.func87,Try.f87,go_sem]) (toursL t.frm.length).length (WayOk t.frm.length (w3.heap.size + 2)) (fun q => q = w.heap.size + 1 ∨ q = w.heap.size + 2 ∨ q = w3.heap.size + 1) ?hps (by omega) (by omega) ?hit
      (fun i V C => KeepI w (w3.heap.size + 2) (touF t A w.heap.size w2.heap.size tb i) V C) (fun _ _ _ _ => False) ?hI ?hIx ?h0 ?hround ?hdone ?hstop
    case hps =>
      rintro i v A K ⟨x,vc,_,rfl,_⟩
      rfl
    case hit =>
      intro W hb hsz
      rw [← hsz]
      obtain ⟨hB2,q1,q2,q3,hP,hF,hE,ht⟩ := H2.out
      refine tours_iter (TA := A) (tb := tb) hF.n (fun V hV => ?_)
      have hbV : ∀ k,k < w3.heap.size → k ≠ w.heap.size + 1 → k ≠ w.heap.size + 2 → V.heap[k]? = w3.heap[k]? := fun k hk h1 h2 => (hV.block k (by omega) (by rintro (e | e | e) <;> omega)).trans (hb.block k hk)
      have hBV : Below w.heap.size w V := ((hB2.trans (H3.out.2.2.mono (by omega))).trans (hb.mono (by omega))).trans (hV.below (by omega) (fun k hk e => by rcases e with e | e | e <;> omega))
      exact ⟨(hbV _ (by omega) (by omega) (by omega)).trans H3.out.2.1,(hbV _ (by omega) (by omega) (by omega)).trans ((H3.out.2.2.block _ htw).trans hP.obj),ht.mono hBV⟩
    case hI =>
      intro i A B C h hs
      exact h.stable hs (fun p hp => by simp only [List.mem_cons,List.not_mem_nil,or_false] at hp; rcases hp with rfl | rfl | rfl | rfl | rfl <;> simp <;> omega) (by omega) (by omega)
    case hIx =>
      intro c i A B C h _
      exact h
    case h0 =>
      intro W hb hsz
      obtain ⟨hB2,q1,q2,q3,hP,hF,hE,ht⟩ := H2.out
      have hbk : ∀ k,k < w2.heap.size → W.heap[k]? = w2.heap[k]? := fun k hk => (hb.block k (by omega)).trans (H3.out.2.2.block k hk)
      refine ⟨(hB2.trans (H3.out.2.2.mono (by omega))).trans (hb.mono (by omega)),fun p hp => ?_,fun k hk => hk⟩
      simp only [List.mem_cons,List.not_mem_nil,or_false] at hp
      rcases hp with rfl | rfl | rfl | rfl | rfl
      · exact (hbk _ (by omega)).trans q1
      · exact (hbk _ (by omega)).trans q2
      · exact (hbk _ (by omega)).trans q3
      · exact (hbk _ htw).trans hP.obj
      · exact (hb.block _ (by omega)).trans H3.out.1
    case hround =>
      rintro i v W C K hiN ⟨x,vc,hx,rfl,hvc,rfl⟩ hKC hC hI hlt
      obtain ⟨av,cv,rfl,_⟩ := own_slice hvc
      have HH := Lib.hid (And.intro hC (And.intro hI (And.intro hlt (And.intro hiN (And.intro hx hvc)))))
      clear hx hvc hKC hC hI hlt hiN
      gi_wp2_with fail
      refine ⟨trivial,fun V2 hS2 hsz2 => ?_⟩
      obtain ⟨hC,hI,hlt,hiN,hx,hvc⟩ := HH.out
      have hI2 := hI.stable (lb := w3.heap.size + 1) (hS2.mono (fun _ _ e => .inr e)) (fun p hp => by simp only [List.mem_cons,List.not_mem_nil,or_false] at hp; rcases hp with rfl | rfl | rfl | rfl | rfl <;> simp <;> omega) (by omega) (by omega)
      have g1 := hI2.at_ (w.heap.size + 1,_) (.head _)
      have g2 := hI2.at_ (w.heap.size + 2,_) (.tail _ (.head _))
      have g3 := hI2.at_ (w.heap.size + 3,_) (.tail _ (.tail _ (.head _)))
      have g4 := hI2.at_ (tb,_) (.tail _ (.tail _ (.tail _ (.head _))))
      have g5 := hI2.at_ (w2.heap.size,_) (.tail _ (.tail _ (.tail _ (.tail _ (.head _)))))
      have hlv : w3.heap.size + 2 ≤ V2.heap.size := by omega
      obtain ⟨X,hX⟩ : ∃ X : Nat,X = t.cnt true i := ⟨_,rfl⟩
      obtain ⟨Y,hY⟩ : ∃ Y : Nat,Y = t.cnt false i := ⟨_,rfl⟩
      have hXb : X ≤ 1000000 ∧ Y ≤ 1000000 := by
        have := cnt_le t true i
        have := cnt_le t false i
        have := tours_len H2.out.2.2.2.2.2.1.n
        omega
      have HX := Lib.hid (And.intro hX hY)
      rw [← hX] at g1
      rw [← hY] at g2
      have c5 : V2.cell? ⟨w2.heap.size,0,none⟩ = some (.pointer (some ⟨tb,0,none⟩)) := by rw [cell_of_heap g5]; rfl
      have hTP : TourP V2 tb t A := ⟨g4,H2.out.2.2.2.2.2.2.2.mono hI2.below⟩
      have hv2 : V2.ownsRow (w3.heap.size + 2) 3 1 (.slice av x.length cv) x.length (x.map (Value.int .i64)) := own_blocks hvc (fun g hg => hS2.block g (hvc.lt g hg).2 (fun e => by have := (hvc.lt g hg).1; omega))
      have hin2 := own_ints hv2
      have hmx := tour_mem (List.mem_of_getElem? hx)
      have hxl : x.length ≤ 16 := by have := H2.out.2.2.2.2.2.1.n; omega
      have HMX := Lib.hid (tour_view (List.mem_of_getElem? hx))
      have HCT := Lib.hid (fun q => cnt_succ (t := t) (q := q) hx)
      have HC1 := Lib.hid (is49_74 (cap := cv) hTP H2.out.2.2.2.2.2.1 hxl HMX.out hin2)
      have HI2 := Lib.hid (And.intro hI2 (And.intro hlv (And.intro hTP (And.intro hv2 (And.intro g1 (And.intro g2 (And.intro g3 g5)))))))
      clear hC hI hlt hiN hx hvc hI2 hS2 hsz2 HH g1 g2 g3 g4 g5 hlv hTP hin2 hv2 hmx hX hY
      gi_wp2_with fail
      refine ⟨trivial,rfl,wideAt_calls (HC1.out.mono ?_)⟩
      rintro e w5 ⟨rfl,hb5⟩
      have hlv := HI2.out.2.1
      obtain ⟨_,_,hTP,hv2,g1,g2,g3,g5⟩ := HI2.out
      have g1 := (hb5.block _ (heap_lt g1)).trans g1
      have g2 := (hb5.block _ (heap_lt g2)).trans g2
      have g3 := (hb5.block _ (heap_lt g3)).trans g3
      have g4 := (hb5.block _ (heap_lt hTP.obj)).trans hTP.obj
      have g5 := (hb5.block _ (heap_lt g5)).trans g5
      have gv := own_below hv2 hb5
      have hbw5 : Below w.heap.size w w5 := HI2.out.1.below.trans (hb5.mono HI2.out.1.below.size)
      have c5 : w5.cell? ⟨w2.heap.size,0,none⟩ = some (.pointer (some ⟨tb,0,none⟩)) := by rw [cell_of_heap g5]; rfl
      clear hTP hv2 HC1
      cases ha : t.is true x
      · have HA1 := Lib.hid ha
        clear ha
        have z1 := g1
        have z2 := g2
        have z3 := g3
        have z4 := g4
        have z5 := g5
        have zv := gv
        have zb := hbw5
        have zs := Same.of_below (fun k => k = w.heap.size + 1 ∨ k = w.heap.size + 2) hb5
        have HC2 := Lib.hid (is49_75 (cap := cv) (t := t) (A := A) (tb := tb) ⟨z4,H2.out.2.2.2.2.2.2.2.mono zb⟩ H2.out.2.2.2.2.2.1 hxl HMX.out (own_ints zv))
        have HZ := Lib.hid (And.intro z1 (And.intro z2 (And.intro z3 (And.intro z4 (And.intro z5 (And.intro zb zs))))))
        clear z1 z2 z3 z4 z5 zv zb zs g1 g2 g3 g4 g5 gv hb5 hbw5
        gi_wp2_with fail
        refine ⟨trivial,rfl,wideAt_calls (HC2.out.mono ?_)⟩
        rintro e w6 ⟨rfl,hb6⟩
        obtain ⟨z1,z2,z3,z4,z5,zb,zs⟩ := HZ.out
        have y1 := (hb6.block _ (heap_lt z1)).trans z1
        have y2 := (hb6.block _ (heap_lt z2)).trans z2
        have y3 := (hb6.block _ (heap_lt z3)).trans z3
        have y4 := (hb6.block _ (heap_lt z4)).trans z4
        have y5 := (hb6.block _ (heap_lt z5)).trans z5
        have ys := zs.trans (Same.of_below (fun k => k = w.heap.size + 1 ∨ k = w.heap.size + 2) hb6)
        have hzy := ys.size
        clear z1 z2 z3 z4 z5 zb zs hb6 HZ HC2
        cases hb : t.is false x
        · have HB1 := Lib.hid hb
          have HY := Lib.hid (And.intro y1 (And.intro y2 (And.intro y3 (And.intro y4 (And.intro y5 ys)))))
          clear hb y1 y2 y3 y4 y5 ys
          gi_wp2_with fail
          obtain ⟨y1,y2,y3,y4,y5,ys⟩ := HY.out
          refine HI2.out.1.next (K := fun k => (Value.slice av x.length cv).ownBlock = some k) ys (fun k hk e => by rcases e with e | e <;> (subst e; exact ⟨by omega,by omega,by simp⟩)) (fun p hp => ?_) HI2.out.2.1
          simp only [List.mem_cons,List.not_mem_nil,or_false] at hp
          rcases hp with rfl | rfl | rfl | rfl | rfl
          · rw [HCT.out true,HA1.out,← HX.out.1]; exact y1
          · rw [HCT.out false,HB1.out,← HX.out.2]; exact y2
          · exact y3
          · exact y4
          · exact y5
        · have HB1 := Lib.hid hb
          have d2 : w6.cell? ⟨w.heap.size + 2,0,none⟩ = some (.int .i64 Y) := by rw [cell_of_heap y2]; rfl
          have f2 : w6.frozen? ⟨w.heap.size + 2,0,none⟩ = false := frozen_of_heap y2
          have HY := Lib.hid (And.intro y1 (And.intro y2 (And.intro y3 (And.intro y4 (And.intro y5 ys)))))
          clear hb y1 y2 y3 y4 y5 ys
          gi_wp2_with fail
          obtain ⟨y1,y2,y3,y4,y5,ys⟩ := HY.out
          have u1 := (Below.heap_setCell w6 ⟨w.heap.size + 2,0,none⟩ (.int .i64 ((Y : Int) + 1)) (w.heap.size + 1) (by show w.heap.size + 1 ≠ w.heap.size + 2; omega)).trans y1
          have u2 := heap_setCell_at (k := 0) y2 (.int .i64 ((Y : Int) + 1))
          have u3 := (Below.heap_setCell w6 ⟨w.heap.size + 2,0,none⟩ (.int .i64 ((Y : Int) + 1)) (w.heap.size + 3) (by show w.heap.size + 3 ≠ w.heap.size + 2; omega)).trans y3
          have u4 := (Below.heap_setCell w6 ⟨w.heap.size + 2,0,none⟩ (.int .i64 ((Y : Int) + 1)) tb (by show tb ≠ w.heap.size + 2; omega)).trans y4
          have u5 := (Below.heap_setCell w6 ⟨w.heap.size + 2,0,none⟩ (.int .i64 ((Y : Int) + 1)) w2.heap.size (by show w2.heap.size ≠ w.heap.size + 2; omega)).trans y5
          refine HI2.out.1.next (K := fun k => (Value.slice av x.length cv).ownBlock = some k) (ys.setCell (p := ⟨w.heap.size + 2,0,none⟩) (.inl (.inr rfl)) _) (fun k hk e => by rcases e with e | e <;> (subst e; exact ⟨by omega,by omega,by simp⟩)) (fun p hp => ?_) HI2.out.2.1
          simp only [List.mem_cons,List.not_mem_nil,or_false] at hp
          rcases hp with rfl | rfl | rfl | rfl | rfl
          · rw [HCT.out true,HA1.out,← HX.out.1]; exact u1
          · rw [HCT.out false,HB1.out,← HX.out.2]; exact u2
          · exact u3
          · exact u4
          · exact u5
      · have HA1 := Lib.hid ha
        clear ha
        have c1 : w5.cell? ⟨w.heap.size + 1,0,none⟩ = some (.int .i64 X) := by rw [cell_of_heap g1]; rfl
        have f1 : w5.frozen? ⟨w.heap.size + 1,0,none⟩ = false := frozen_of_heap g1
        have z1 := heap_setCell_at (k := 0) g1 (.int .i64 ((X : Int) + 1))
        have z2 := (Below.heap_setCell w5 ⟨w.heap.size + 1,0,none⟩ (.int .i64 ((X : Int) + 1)) (w.heap.size + 2) (by show w.heap.size + 2 ≠ w.heap.size + 1; omega)).trans g2
        have z3 := (Below.heap_setCell w5 ⟨w.heap.size + 1,0,none⟩ (.int .i64 ((X : Int) + 1)) (w.heap.size + 3) (by show w.heap.size + 3 ≠ w.heap.size + 1; omega)).trans g3
        have z4 := (Below.heap_setCell w5 ⟨w.heap.size + 1,0,none⟩ (.int .i64 ((X : Int) + 1)) tb (by show tb ≠ w.heap.size + 1; omega)).trans g4
        have z5 := (Below.heap_setCell w5 ⟨w.heap.size + 1,0,none⟩ (.int .i64 ((X : Int) + 1)) w2.heap.size (by show w2.heap.size ≠ w.heap.size + 1; omega)).trans g5
        have zv := own_blocks (w' := w5.setCell ⟨w.heap.size + 1,0,none⟩ (.int .i64 ((X : Int) + 1))) gv (fun g hg => Below.heap_setCell _ _ _ _ (by have := (gv.lt g hg).1; show g ≠ w.heap.size + 1; omega))
        have zb := hbw5.setCell (p := ⟨w.heap.size + 1,0,none⟩) (by show w.heap.size ≤ w.heap.size + 1; omega) (.int .i64 ((X : Int) + 1))
        have zs := (Same.of_below (fun k => k = w.heap.size + 1 ∨ k = w.heap.size + 2) hb5).setCell (p := ⟨w.heap.size + 1,0,none⟩) (.inl (.inl rfl)) (.int .i64 ((X : Int) + 1))
        have HC2 := Lib.hid (is49_75 (cap := cv) (t := t) (A := A) (tb := tb) ⟨z4,H2.out.2.2.2.2.2.2.2.mono zb⟩ H2.out.2.2.2.2.2.1 hxl HMX.out (own_ints zv))
        have HZ := Lib.hid (And.intro z1 (And.intro z2 (And.intro z3 (And.intro z4 (And.intro z5 (And.intro zb zs))))))
        clear z1 z2 z3 z4 z5 zv zb zs g1 g2 g3 g4 g5 gv hb5 hbw5
        gi_wp2_with fail
        refine ⟨trivial,rfl,wideAt_calls (HC2.out.mono ?_)⟩
        rintro e w6 ⟨rfl,hb6⟩
        obtain ⟨z1,z2,z3,z4,z5,zb,zs⟩ := HZ.out
        have y1 := (hb6.block _ (heap_lt z1)).trans z1
        have y2 := (hb6.block _ (heap_lt z2)).trans z2
        have y3 := (hb6.block _ (heap_lt z3)).trans z3
        have y4 := (hb6.block _ (heap_lt z4)).trans z4
        have y5 := (hb6.block _ (heap_lt z5)).trans z5
        have ys := zs.trans (Same.of_below (fun k => k = w.heap.size + 1 ∨ k = w.heap.size + 2) hb6)
        have hzy := ys.size
        clear z1 z2 z3 z4 z5 zb zs hb6 HZ HC2
        cases hb : t.is false x
        · have HB1 := Lib.hid hb
          have HY := Lib.hid (And.intro y1 (And.intro y2 (And.intro y3 (And.intro y4 (And.intro y5 ys)))))
          clear hb y1 y2 y3 y4 y5 ys
          gi_wp2_with fail
          obtain ⟨y1,y2,y3,y4,y5,ys⟩ := HY.out
          refine HI2.out.1.next (K := fun k => (Value.slice av x.length cv).ownBlock = some k) ys (fun k hk e => by rcases e with e | e <;> (subst e; exact ⟨by omega,by omega,by simp⟩)) (fun p hp => ?_) HI2.out.2.1
          simp only [List.mem_cons,List.not_mem_nil,or_false] at hp
          rcases hp with rfl | rfl | rfl | rfl | rfl
          · rw [HCT.out true,HA1.out,← HX.out.1]; exact y1
          · rw [HCT.out false,HB1.out,← HX.out.2]; exact y2
          · exact y3
          · exact y4
          · exact y5
        · have HB1 := Lib.hid hb
          have d2 : w6.cell? ⟨w.heap.size + 2,0,none⟩ = some (.int .i64 Y) := by rw [cell_of_heap y2]; rfl
          have f2 : w6.frozen? ⟨w.heap.size + 2,0,none⟩ = false := frozen_of_heap y2
          have HY := Lib.hid (And.intro y1 (And.intro y2 (And.intro y3 (And.intro y4 (And.intro y5 ys)))))
          clear hb y1 y2 y3 y4 y5 ys
          gi_wp2_with fail
          obtain ⟨y1,y2,y3,y4,y5,ys⟩ := HY.out
          have u1 := (Below.heap_setCell w6 ⟨w.heap.size + 2,0,none⟩ (.int .i64 ((Y : Int) + 1)) (w.heap.size + 1) (by show w.heap.size + 1 ≠ w.heap.size + 2; omega)).trans y1
          have u2 := heap_setCell_at (k := 0) y2 (.int .i64 ((Y : Int) + 1))
          have u3 := (Below.heap_setCell w6 ⟨w.heap.size + 2,0,none⟩ (.int .i64 ((Y : Int) + 1)) (w.heap.size + 3) (by show w.heap.size + 3 ≠ w.heap.size + 2; omega)).trans y3
          have u4 := (Below.heap_setCell w6 ⟨w.heap.size + 2,0,none⟩ (.int .i64 ((Y : Int) + 1)) tb (by show tb ≠ w.heap.size + 2; omega)).trans y4
          have u5 := (Below.heap_setCell w6 ⟨w.heap.size + 2,0,none⟩ (.int .i64 ((Y : Int) + 1)) w2.heap.size (by show w2.heap.size ≠ w.heap.size + 2; omega)).trans y5
          refine HI2.out.1.next (K := fun k => (Value.slice av x.length cv).ownBlock = some k) (ys.setCell (p := ⟨w.heap.size + 2,0,none⟩) (.inl (.inr rfl)) _) (fun k hk e => by rcases e with e | e <;> (subst e; exact ⟨by omega,by omega,by simp⟩)) (fun p hp => ?_) HI2.out.2.1
          simp only [List.mem_cons,List.not_mem_nil,or_false] at hp
          rcases hp with rfl | rfl | rfl | rfl | rfl
          · rw [HCT.out true,HA1.out,← HX.out.1]; exact u1
          · rw [HCT.out false,HB1.out,← HX.out.2]; exact u2
          · exact u3
          · exact u4
          · exact u5
    case hdone =>
      intro W C hI hdef
      have g1 := hI.at_ (w.heap.size + 1,_) (.head _)
      have g2 := hI.at_ (w.heap.size + 2,_) (.tail _ (.head _))
      have g3 := hI.at_ (w.heap.size + 3,_) (.tail _ (.tail _ (.head _)))
      obtain ⟨X,hX⟩ : ∃ X : Int,X = (t.cnt true (toursL t.frm.length).length : Nat) := ⟨_,rfl⟩
      obtain ⟨Y,hY⟩ : ∃ Y : Int,Y = (t.cnt false (toursL t.frm.length).length : Nat) := ⟨_,rfl⟩
      rw [← hX] at g1
      rw [← hY] at g2
      have hW : toursE t = (X,Y,0) := by unfold toursE; rw [if_pos H2.out.2.2.2.2.2.2.1,← hX,← hY]
      have HW := Lib.hid hW
      have hbl := hI.below
      have hne12 : w.heap.size + 1 ≠ w.heap.size + 2 := by omega
      have hne13 : w.heap.size + 1 ≠ w.heap.size + 3 := by omega
      have hne23 : w.heap.size + 2 ≠ w.heap.size + 3 := by omega
      have HG := Lib.hid (And.intro g1 (And.intro g2 (And.intro g3 (And.intro hdef hbl))))
      clear g1 g2 g3 hI hdef hbl hX hY hW
      go_upto_region 9 with fail
      obtain ⟨T,hT⟩ : ∃ T : World → Prop,T = fun V => V.heap[w.heap.size + 1]? = some (.cells #[.int .i64 X] 3 (0,0)) ∧ V.heap[w.heap.size + 2]? = some (.cells #[.int .i64 Y] 3 (0,0)) ∧ V.heap[w.heap.size + 3]? = some (.cells #[.int .i64 0] 29 (0,0)) ∧ V.heap[w3.heap.size]? = some (.deferred (some [])) ∧ Below w.heap.size w V := ⟨_,rfl⟩
      have hst : ∀ (V : World) (q : Nat) (u : Value),q < w3.heap.size → w.heap.size ≤ q → T V → (∀ (c : Array Value) (ty : TypeId),V.heap[q]? = some (Obj.cells c ty (0,0)) → c.setIfInBounds 0 u = c) → T (V.setCell ⟨q,0,none⟩ u) := fun V q u hq hqw hv hc => by
        have hk2 : ∀ (k : Nat) (c : Array Value) (ty : TypeId),V.heap[k]? = some (Obj.cells c ty (0,0)) → (V.setCell ⟨q,0,none⟩ u).heap[k]? = some (Obj.cells c ty (0,0)) := fun k c ty h => by
          by_cases e : k = q
          · subst e
            have := heap_setCell_at (k := 0) h u
            rw [hc c ty h] at this
            exact this
          · exact (Below.heap_setCell _ _ _ _ e).trans h
        rw [hT] at hv ⊢
        obtain ⟨h1,h2,h3,h4,h5⟩ := hv
        exact ⟨hk2 _ _ _ h1,hk2 _ _ _ h2,hk2 _ _ _ h3,(Below.heap_setCell _ _ _ _ (by show w3.heap.size ≠ q; omega)).trans h4,h5.setCell (by show w.heap.size ≤ q; exact hqw) _⟩
      have hT1 : ∀ V,T V → V.heap[w.heap.size + 1]? = some (.cells #[.int .i64 X] 3 (0,0)) := fun V h => by rw [hT] at h; exact h.1
      have hT2 : ∀ V,T V → V.heap[w.heap.size + 2]? = some (.cells #[.int .i64 Y] 3 (0,0)) := fun V h => by rw [hT] at h; exact h.2.1
      have hT3 : ∀ V,T V → V.heap[w.heap.size + 3]? = some (.cells #[.int .i64 0] 29 (0,0)) := fun V h => by rw [hT] at h; exact h.2.2.1
      have HT := Lib.hid hT
      have hT0 : T W := by rw [hT]; exact ⟨HG.out.1,HG.out.2.1,HG.out.2.2.1,HG.out.2.2.2.1,HG.out.2.2.2.2⟩
      have hTd : ∀ V,T V → T V.drew := fun V h => by rw [hT] at h ⊢; exact ⟨h.1,h.2.1,h.2.2.1,h.2.2.2.1,h.2.2.2.2.drew⟩
      clear hT
      refine wpIn_wide.1 (tou9 (x := X) (y := Y) (S0 := T) (S1 := T) (S2 := T) (S3 := T) (hTd _ hT0) ?l0 ?l1 ?c2 ?c3 ?c4 ?hQ)
      case l0 => exact fun V h => by rw [cell_of_heap (hT1 V h)]; rfl
      case l1 => exact fun V h => by rw [cell_of_heap (hT2 V (h.elim id id))]; rfl
      case c2 => exact fun V h => ⟨⟨_,by rw [cell_of_heap (hT1 V h)]; rfl⟩,frozen_of_heap (hT1 V h),hst V _ _ (by omega) (by omega) h (fun c ty hc => by rw [hT1 V h] at hc; cases hc; rfl)⟩
      case c3 => exact fun V h => ⟨⟨_,by rw [cell_of_heap (hT2 V h)]; rfl⟩,frozen_of_heap (hT2 V h),hst V _ _ (by omega) (by omega) h (fun c ty hc => by rw [hT2 V h] at hc; cases hc; rfl)⟩
      case c4 => exact fun V h => ⟨⟨_,by rw [cell_of_heap (hT3 V h)]; rfl⟩,frozen_of_heap (hT3 V h),hst V _ _ (by omega) (by omega) h (fun c ty hc => by rw [hT3 V h] at hc; cases hc; rfl)⟩
      intro X2 hv
      rw [HT.out] at hv
      have HV := Lib.hid hv
      clear hv hst hT1 hT2 hT3 hT0 hTd HT HG
      go_wp2_with fail
      obtain ⟨d1,d2,d3,e5,hBW⟩ := HV.out
      have hput : Below w.heap.size w (X2.putObj w3.heap.size (.deferred none)) :=
        (((Same.of_below (fun q => w.heap.size ≤ q) hBW).putObj (.inl (by omega)) _).below (Nat.le_refl _) (fun q hq h => by omega))
      have g1 := (World.putObj_heap_other (w := X2) (o := .deferred none) (show w.heap.size + 1 ≠ w3.heap.size by omega)).trans d1
      have g2 := (World.putObj_heap_other (w := X2) (o := .deferred none) (show w.heap.size + 2 ≠ w3.heap.size by omega)).trans d2
      have g3 := (World.putObj_heap_other (w := X2) (o := .deferred none) (show w.heap.size + 3 ≠ w3.heap.size by omega)).trans d3
      refine ⟨[w3.heap.size],_,rfl,by simp,_,run_takeDeferred e5,leaves_ok (recov65_ok _ _) HCF.out (res_c339 rfl _ rfl rfl rfl (by rw [cell_of_heap g1]; rfl) (by rw [cell_of_heap g2]; rfl) (by rw [cell_of_heap g3]; rfl)) ⟨?_,hput⟩⟩
      rw [HW.out]; rfl
    case hstop =>
      intro c i W C _ h
      exact h.elim
  · have hW : toursE t = (0,0,openE t true) := by unfold toursE; rw [if_neg hE]
    refine (open_no (g := 66) (cp := #[]) ht1 hs hE cf66 (fun hv tb W hP hbW => always66)).mono ?_
    rintro e w2 ⟨rfl,hb2⟩
    have g1 := (hb2.block _ (heap_lt q1)).trans q1
    have g2 := (hb2.block _ (heap_lt q2)).trans q2
    have g3 := (hb2.block _ (heap_lt q3)).trans q3
    have hc2 : w2.cell? ⟨w.heap.size + 3,0,none⟩ = some (.int .i64 0) := by rw [cell_of_heap g3]; rfl
    have hB2 := hb1.trans (hb2.mono (by omega))
    have hb3 : Below w.heap.size w ((w2.alloc (.cells #[.int .i64 (openE t true)] 106)).setCell ⟨w.heap.size + 3,0,none⟩ (.int .i64 (openE t true))) :=
      (hB2.alloc hB2.size _).setCell (by simp) _
    have hcell := World.cell?_setCell_same (w2.alloc (.cells #[.int .i64 (openE t true)] 106)) ⟨w.heap.size + 3,0,none⟩ (.int .i64 (openE t true)) (cell_stays ((Below.refl _ w2).alloc (Nat.le_refl _) _) hc2)
    have k1 : ((w2.alloc (.cells #[.int .i64 (openE t true)] 106)).setCell ⟨w.heap.size + 3,0,none⟩ (.int .i64 (openE t true))).heap[w.heap.size + 1]? = _ := (Below.heap_setCell _ _ _ _ (by show w.heap.size + 1 ≠ w.heap.size + 3; omega)).trans ((Below.heap_alloc _ _ _ (heap_lt g1)).trans g1)
    have k2 : ((w2.alloc (.cells #[.int .i64 (openE t true)] 106)).setCell ⟨w.heap.size + 3,0,none⟩ (.int .i64 (openE t true))).heap[w.heap.size + 2]? = _ := (Below.heap_setCell _ _ _ _ (by show w.heap.size + 2 ≠ w.heap.size + 3; omega)).trans ((Below.heap_alloc _ _ _ (heap_lt g2)).trans g2)
    refine ⟨[],_,rfl,leaves_no (recov65_no (openE t true) hc2 (frozen_of_heap g3)) rfl HCF.out (res_c339 rfl _ rfl rfl rfl (by rw [cell_of_heap k1]; rfl) (by rw [cell_of_heap k2]; rfl) hcell) ⟨?_,hb3⟩⟩
    rw [hW]
    rfl
end Go.Proofs.Ytphefhpmbahagaa
