/- A region that draws its order, with guarded operations, where a round may be begun: by an invariant over what is done: a law over whatever program. Whether it is a way. Lists that are cloned. All ways: a way that is whole is handed over. All ways: one card more. All ways, one after the other: the closure that goes on from some cards. All ways, one after the other: the closure that goes on from some cards: walked. All ways, one after the other: the closure that goes on from some cards: whatever cards. -/
import Derived.Test.YtnfhlbmapfoifaaC2
namespace Go.Proofs.Ytnfhlbmapfoifaa
open Go.RowKit
set_option linter.unusedVariables false
def InvStepsIn (r : Option Nat) (m : Nat) (P : Program) (Q : Exit → Act → World → Prop) (ops : Array Oper) (Inv : (Nat → Bool) → Act → World → Prop) : Nat → List Oper → Prop
  | _, [] => True
  | k, o :: l => (∀ d a w K, d k = false → (∀ e ∈ o.after, Region.binds .any e = true → d e.on = true) → Inv d a w → Hid (∀ a' w', Inv (upd d k) a' w' → K a' w') →
      if Region.wanted o (yielded ops a.tmps) then o.wpIn (wideAt r) m P a w K Q else K (a.put o.dst undef) w) ∧ InvStepsIn r m P Q ops Inv (k + 1) l
theorem InvStepsIn.get {r : Option Nat} {m : Nat} {P : Program} {Q : Exit → Act → World → Prop} {ops : Array Oper} {Inv : (Nat → Bool) → Act → World → Prop} : ∀ {l : List Oper} {k : Nat}, InvStepsIn r m P Q ops Inv k l → ∀ {i : Nat} {o : Oper}, l[i]? = some o →
    ∀ d a w, d (k + i) = false → (∀ e ∈ o.after, Region.binds .any e = true → d e.on = true) → Inv d a w →
      if Region.wanted o (yielded ops a.tmps) then o.wpIn (wideAt r) m P a w (fun a' w' => Inv (fun j => if j = k + i then true else d j) a' w') Q else Inv (fun j => if j = k + i then true else d j) (a.put o.dst undef) w
  | [], _, _, i, o, h => by simp at h
  | o' :: l, k, hs, 0, o, h => by
    simp only [List.getElem?_cons_zero, Option.some.injEq] at h
    subst h
    exact fun d a w h1 h2 h3 => hs.1 d a w _ h1 h2 h3 (fun _ _ h => h)
  | o' :: l, k, hs, i + 1, o, h => by
    rw [List.getElem?_cons_succ] at h
    have := InvStepsIn.get hs.2 h
    rw [show k + 1 + i = k + (i + 1) by omega] at this
    exact this
/-- Each waits for earlier ones alone. -/
def plainG (l : List Oper) : Bool := (List.range l.length).all fun i => match l[i]? with
  | some o => o.after.all fun e => decide (e.on < i) || !Region.binds .any e
  | none => true
theorem plainG_at {l : List Oper} (h : plainG l = true) {i : Nat} {o : Oper} (ho : l[i]? = some o) : ∀ e ∈ o.after, Region.binds .any e = true → e.on < i := by
  have hi : i < l.length := (List.getElem?_eq_some_iff.1 ho).1
  have := (List.all_eq_true.1 h) i (List.mem_range.2 hi)
  rw [ho] at this
  simp only [Array.all_eq_true_iff_forall_mem, decide_eq_true_eq, Bool.or_eq_true] at this
  exact fun e he hb => by
    rcases this e he with h | h
    · exact h
    · rw [hb] at h; cases h
theorem wpAnyIn_invG {r : Option Nat} {m : Nat} {P : Program} {l : List Oper} {Q : Exit → Act → World → Prop} {Inv : (Nat → Bool) → Act → World → Prop} (hp : plainG l = true) (hs : InvStepsIn r m P Q l.toArray Inv 0 l)
    (hend : ∀ d a w, (∀ i, i < l.length → d i = true) → Inv d a w → Q .normal a w) :
    ∀ (f : Nat) (listed : Array Bool) (a : Act) (w : World), listed.size = l.length → (listed.toList.countP (fun b => !b)) = f → Inv (fun j => listed.getD j false) a w → wpAnyIn (wideAt r) m P .any l.toArray Q f listed a w := by
  have first : ∀ listed : Array Bool, listed.size = l.length → Region.ready .any l.toArray listed = [] → ∀ i, i < l.length → listed.getD i false = true := by
    intro listed hz hr i
    induction i using Nat.strongRecOn with
    | ind i ih =>
      intro hi
      cases hb : listed.getD i false with
      | true => rfl
      | false =>
        exfalso
        have : i ∈ Region.ready .any l.toArray listed := by
          rw [mem_ready]
          have hlt : i < listed.size := by omega
          refine ⟨by simpa [hlt] using hb, l[i], by simp [hi], fun e he hbd => ?_⟩
          have := plainG_at hp (List.getElem?_eq_getElem hi) e he hbd
          exact ih e.on this (by omega)
        rw [hr] at this
        simp at this
  intro f
  induction f with
  | zero =>
    intro listed a w hz hc hI
    have hall : ∀ i, i < l.length → listed.getD i false = true := by
      intro i hi
      have hlt : i < listed.size := by omega
      have := List.countP_eq_zero.1 hc (listed[i]) (by simp)
      simpa [hlt] using this
    refine ⟨?_, hend _ a w hall hI⟩
    rw [List.eq_nil_iff_forall_not_mem]
    intro i hi
    obtain ⟨h1, o, ho, _⟩ := mem_ready.1 hi
    have hlt : i < listed.size := by
      have := (Array.getElem?_eq_some_iff.1 ho).1
      simpa [hz] using this
    have := hall i (by omega)
    simp [hlt] at h1 this
    rw [this] at h1
    cases h1
  | succ f ih =>
    intro listed a w hz hc hI
    refine ⟨fun hr => hend _ a w (first listed hz hr) hI, fun i hi => ?_⟩
    obtain ⟨h1, o, ho, hdep⟩ := mem_ready.1 hi
    have hil : i < l.length := by simpa using (Array.getElem?_eq_some_iff.1 ho).1
    have hlt : i < listed.size := by omega
    have ho' : l[i]? = some o := by simpa using ho
    have hb : listed.getD i false = false := by simpa [hlt] using h1
    have hstep := hs.get ho' (fun j => listed.getD j false) a w (by simpa using hb) hdep hI
    have hnext : ∀ a' w', Inv (fun j => if j = 0 + i then true else listed.getD j false) a' w' → wpAnyIn (wideAt r) m P .any l.toArray Q f (listed.setIfInBounds i true) a' w' := by
      intro a' w' hI'
      refine ih _ a' w' (by simpa using hz) ?_ ?_
      · have h2 : listed.toList = listed.toList.take i ++ false :: listed.toList.drop (i + 1) := by
          have e : listed[i] = false := by simpa [hlt] using hb
          have := List.drop_eq_getElem_cons (l := listed.toList) (i := i) (by simpa using hlt)
          simp only [Array.getElem_toList, e] at this
          rw [← this, List.take_append_drop]
        have h3 : (listed.setIfInBounds i true).toList = listed.toList.take i ++ true :: listed.toList.drop (i + 1) := by
          rw [Array.toList_setIfInBounds, List.set_eq_take_append_cons_drop, if_pos (by simpa using hlt)]
        rw [h2] at hc
        rw [h3]
        simp only [List.countP_append, List.countP_cons, Bool.not_false, if_true, Bool.not_true] at hc ⊢
        simp at hc ⊢
        omega
      · have e : (fun j => (listed.setIfInBounds i true).getD j false) = (fun j => if j = 0 + i then true else listed.getD j false) := by
          funext j
          rw [Nat.zero_add]
          by_cases hj : j = i
          · subst hj; simp [hlt]
          · rw [if_neg hj, getD_set_ne false (fun e => hj e.symm)]
        rw [e]
        exact hI'
    unfold wpOpIn
    simp only [ho]
    split
    · rename_i hw
      rw [if_pos hw] at hstep
      exact Oper.wpIn_mono hnext hstep
    · rename_i hw
      rw [if_neg hw] at hstep
      exact ⟨fun _ _ => trivial, hnext _ _ hstep⟩
/-- A region that draws, with guards: by an invariant. -/
theorem wpIn_region_invG {r : Option Nat} {m : Nat} {P : Program} {id : Nat} {l : List Oper} {Q : Exit → Act → World → Prop} {a : Act} {w : World} (hm : P.follows .mixedOrders = true) (hp : plainG l = true)
    (Inv : (Nat → Bool) → Act → World → Prop) (h0 : Inv (fun _ => false) a w.drew) (hs : InvStepsIn r m P Q l.toArray Inv 0 l)
    (hend : ∀ d a w, (∀ i, i < l.length → d i = true) → Inv d a w → Q .normal a w) : (Code.region id l.toArray true).wpIn (wideAt r) m P Q a w := by
  refine wpIn_region_any hm (wpAnyIn_invG hp hs hend _ _ _ _ (by simp) (by simp [List.countP_replicate]) ?_)
  have e : (fun j => (Array.replicate l.toArray.size false).getD j false) = fun _ => false := by
    funext j
    by_cases hj : j < l.length <;> simp [hj]
  rw [e]
  exact h0
end Go.Proofs.Ytnfhlbmapfoifaa
namespace Go.Proofs.Ytnfhlbmapfoifaa
open Go.RowKit
set_option linter.unusedVariables false
/-- What the closure that tests a loss has captured, and what it needs. -/
structure IsW (w : World) (bpb bw : Nat) (p : Prs) (a : Option Addr) (cap bp g : Nat) (wl : List Int) (aw : Option Addr) (cw : Nat) : Prop where
  hp : w.heap[bpb]? = some (.cells #[.pointer (some ⟨bp, 0, none⟩)] 79 (0, 0))
  hw : w.heap[bw]? = some (.cells #[.slice aw wl.length cw] 76 (0, 0))
  hP : PileP w bp p a cap g
  hi : IsInts w aw wl
theorem IsW.mono {w w' : World} {bpb bw : Nat} {p : Prs} {a : Option Addr} {cap bp g : Nat} {wl : List Int} {aw : Option Addr} {cw : Nat} (h : IsW w bpb bw p a cap bp g wl aw cw) (hb : Below w.heap.size w w') : IsW w' bpb bw p a cap bp g wl aw cw :=
  ⟨(hb.block _ (heap_lt h.hp)).trans h.hp, (hb.block _ (heap_lt h.hw)).trans h.hw, h.hP.mono hb, h.hi.mono hb⟩
set_option maxRecDepth 100000 in
set_option maxHeartbeats 1000000 in
theorem loss_any {p : Prs} {a : Option Addr} {cap bp g bpb bw : Nat} {wl : List Int} {aw : Option Addr} {cw : Nat} {w : World} (hv : p.valid = true) (hl : wl.length = p.cards.length) (hr : roundB wl = false) (what : Bool) (h : IsW w bpb bw p a cap bp g wl aw cw) :
    Calls Try.prog 112 #[lossV p what, .pointer (some ⟨bpb, 0, none⟩), .pointer (some ⟨bw, 0, none⟩)] w fun e w' => e = .returned (.bool (!canB p wl what)) ∧ Below w.heap.size w w' := by
  obtain ⟨W1, hW1⟩ : ∃ W1 : World, W1 = w.alloc (.cells #[.func (.func (ofF what)) #[] #[], .int .i64 (p.by_ what).1, .int .i64 (p.by_ what).2] 120) := ⟨_, rfl⟩
  have hb1 : Below w.heap.size w W1 := by rw [hW1]; exact (Below.refl _ w).alloc (Nat.le_refl _) _
  have q0 : W1.heap[w.heap.size]? = some (.cells #[.func (.func (ofF what)) #[] #[], .int .i64 (p.by_ what).1, .int .i64 (p.by_ what).2] 120 (0, 0)) := by rw [hW1]; exact World.alloc_heap_new _ _
  have h1 := h.mono hb1
  have hcall := can_any (cw := cw) hv hl hr what h1.hP h1.hi
  have k0 : W1.cell? ⟨bpb, 0, none⟩ = some (.pointer (some ⟨bp, 0, none⟩)) := by rw [cell_of_heap h1.hp]; rfl
  have k1 : W1.cell? ⟨bw, 0, none⟩ = some (.slice aw wl.length cw) := by rw [cell_of_heap h1.hw]; rfl
  have k2 : W1.cell? ⟨w.heap.size, 0, none⟩ = some (.func (.func (ofF what)) #[] #[]) := by rw [cell_of_heap q0]; rfl
  have k3 : W1.cell? ⟨w.heap.size, 1, none⟩ = some (.int .i64 (p.by_ what).1) := by rw [cell_of_heap q0]; rfl
  have k4 : W1.cell? ⟨w.heap.size, 2, none⟩ = some (.int .i64 (p.by_ what).2) := by rw [cell_of_heap q0]; rfl
  have HW1 := Lib.hid hW1
  have HB1 := Lib.hid hb1
  clear hW1 hb1 q0 h h1 hl hr hv
  go_enter Try.func112, Try.ntmps112
  go_upto_region 1 with fail
  have hW1 := HW1.out
  rw [← hW1]
  clear hW1
  go_wp2_with fail
  (with_reducible refine hcall.mono ?_)
  clear hcall
  rintro e w5 ⟨rfl, hb5⟩
  go_wp2_with fail
  go_ret
  exact ⟨rfl, HB1.out.trans (hb5.mono HB1.out.size)⟩
/-- The first loss that cannot be; -1: each one can. -/
def lossI (p : Prs) (wl : List Int) : Int := if canB p wl false = false then 0 else if canB p wl true = false then 1 else -1
set_option maxRecDepth 100000 in
set_option maxHeartbeats 1000000 in
theorem indexLoss_any {p : Prs} {a : Option Addr} {cap bp g bpb bw : Nat} {wl : List Int} {aw : Option Addr} {cw : Nat} {w : World} (hv : p.valid = true) (hl : wl.length = p.cards.length) (hr : roundB wl = false) (h : IsW w bpb bw p a cap bp g wl aw cw) :
    Calls Try.prog 118 #[.slice (some ⟨g, 0, none⟩) 2 2, .func (.func 112) #[] #[.pointer (some ⟨bpb, 0, none⟩), .pointer (some ⟨bw, 0, none⟩)]] w fun e w' => e = .returned (.int .i64 (lossI p wl)) ∧ Below w.heap.size w w' := by
  have HV := Lib.hid (And.intro hv (And.intro hl hr))
  have HH : Hid (∀ v, Below w.heap.size w v → IsW v bpb bw p a cap bp g wl aw cw) := fun v hb => h.mono hb
  clear h hl hr hv
  go_enter Try.func118, Try.ntmps118
  go_wp2
  go_loopw [4, 5, 8] (fun _ _ i wr => ∃ k : Nat, k ≤ 2 ∧ i = .int .i64 k ∧ Hid ((0 < k → canB p wl false = true) ∧ (1 < k → canB p wl true = true)) ∧ Below w.heap.size w wr) (fun _ _ i _ => 2 - (intOf i).toNat)
  case atStart => exact ⟨0, by omega, rfl, ⟨fun h => by omega, fun h => by omega⟩, Below.refl _ _⟩
  case round =>
    obtain ⟨k, hk, rfl, HK, hbr⟩ := hrel
    have hh := HH.out wr hbr
    obtain ⟨l0, l1, l2, l3, l4, l5⟩ := hh.hP.lcells
    have hk3 : k = 0 ∨ k = 1 ∨ k = 2 := by omega
    rcases hk3 with rfl | rfl | rfl
    · have hcall := loss_any HV.out.1 HV.out.2.1 HV.out.2.2 false hh
      clear hh
      go_wp2_with fail
      refine hcall.mono ?_
      clear hcall
      rintro e w5 ⟨rfl, hb5⟩
      have hB5 := hbr.trans (hb5.mono hbr.size)
      cases hc : canB p wl false
      · have HC := Lib.hid hc
        clear hc
        go_wp2_with fail
        go_ret
        exact ⟨ret_int (by unfold lossI; rw [HC.out]; rfl), hB5⟩
      · have HC := Lib.hid hc
        clear hc
        go_wp2_with fail
        go_roundw
        case rel => exact ⟨1, by omega, by go_num, ⟨fun _ => HC.out, fun h => by omega⟩, hB5⟩
        case measure => simp [intOf]
    · have hcall := loss_any HV.out.1 HV.out.2.1 HV.out.2.2 true hh
      clear hh
      go_wp2_with fail
      refine hcall.mono ?_
      clear hcall
      rintro e w5 ⟨rfl, hb5⟩
      have hB5 := hbr.trans (hb5.mono hbr.size)
      cases hc : canB p wl true
      · have HC := Lib.hid hc
        clear hc
        go_wp2_with fail
        go_ret
        exact ⟨ret_int (by unfold lossI; rw [HC.out, HK.out.1 (by omega)]; rfl), hB5⟩
      · have HC := Lib.hid hc
        clear hc
        go_wp2_with fail
        go_roundw
        case rel => exact ⟨2, by omega, by go_num, ⟨fun _ => HK.out.1 (by omega), fun h => HC.out⟩, hB5⟩
        case measure => simp [intOf]
    · clear hh
      go_wp2_with fail
      go_ret
      exact ⟨ret_int (by unfold lossI; rw [HK.out.1 (by omega), HK.out.2 (by omega)]; rfl), hbr⟩
theorem containsLoss_any {p : Prs} {a : Option Addr} {cap bp g bpb bw : Nat} {wl : List Int} {aw : Option Addr} {cw : Nat} {w : World} (hv : p.valid = true) (hl : wl.length = p.cards.length) (hr : roundB wl = false) (h : IsW w bpb bw p a cap bp g wl aw cw) :
    Calls Try.prog 111 #[.slice (some ⟨g, 0, none⟩) 2 2, .func (.func 112) #[] #[.pointer (some ⟨bpb, 0, none⟩), .pointer (some ⟨bw, 0, none⟩)]] w fun e w' => e = .returned (.bool (!(canB p wl false && canB p wl true))) ∧ Below w.heap.size w w' := by
  have hcall := indexLoss_any hv hl hr h
  have HG : Hid (decide (0 ≤ lossI p wl) = !(canB p wl false && canB p wl true)) := by
    unfold Hid lossI
    cases canB p wl false <;> cases canB p wl true <;> rfl
  clear h hv hl hr
  go_enter Try.func111, Try.ntmps111
  go_wp2_with fail
  (with_reducible refine hcall.mono ?_)
  clear hcall
  rintro e w2 ⟨rfl, hb2⟩
  go_wp2
  go_ret
  exact ⟨ret_bool HG.out, hb2⟩
theorem marksB_true {p : Prs} {wl : List Int} (h : ∀ c, c < wl.length → (decide (gi wl c = -1) || markedB p c (gi wl c).toNat) = true) : marksB p wl = true :=
  List.all_eq_true.2 fun c hc => h c (List.mem_range.1 hc)
theorem marksB_false {p : Prs} {wl : List Int} {c : Nat} (hc : c < wl.length) (h1 : gi wl c ≠ -1) (h2 : markedB p c (gi wl c).toNat = false) : marksB p wl = false :=
  List.all_eq_false.2 ⟨c, List.mem_range.2 hc, by simp [h1, h2]⟩
set_option maxRecDepth 100000 in
set_option maxHeartbeats 2000000 in
theorem isWay_any {p : Prs} {a : Option Addr} {cap bp g : Nat} {wl : List Int} {aw : Option Addr} {cw : Nat} {w : World} (hv : p.valid = true) (hw : GoodW p.cards.length wl) (hP : PileP w bp p a cap g) (hi : IsInts w aw wl) :
    Calls Try.prog 82 #[.pointer (some ⟨bp, 0, none⟩), .slice aw wl.length cw] w fun e w' => e = .returned (.bool (isWayB p wl)) ∧ Below w.heap.size w w' := by
  have hmf : ∀ (fn : Fn) (first cap : Array Value) (w : World), (Instr.makeFunc fn first cap).run Try.prog w = .ok (.func fn first cap) w := fun _ _ _ _ => rfl
  have hn5 := (valid_parts hv).1
  have hll : wl.length ≤ 5 := by rw [hw.1]; exact hn5
  obtain ⟨W1, hW1⟩ : ∃ W1 : World, W1 = (w.alloc (.cells #[.pointer (some ⟨bp, 0, none⟩)] 79)).alloc (.cells #[.slice aw wl.length cw] 76) := ⟨_, rfl⟩
  have hb1 : Below w.heap.size w W1 := by rw [hW1]; exact ((Below.refl _ w).alloc (Nat.le_refl _) _).alloc (by simp) _
  have q0 : W1.heap[w.heap.size]? = some (.cells #[.pointer (some ⟨bp, 0, none⟩)] 79 (0, 0)) := by rw [hW1]; exact (Below.heap_alloc _ _ _ (by simp)).trans (World.alloc_heap_new w _)
  have q1 : W1.heap[w.heap.size + 1]? = some (.cells #[.slice aw wl.length cw] 76 (0, 0)) := by
    rw [hW1]
    have := World.alloc_heap_new (w.alloc (.cells #[.pointer (some ⟨bp, 0, none⟩)] 79)) (.cells #[.slice aw wl.length cw] 76)
    rwa [World.size_alloc] at this
  have HH : Hid (∀ v, Below W1.heap.size W1 v → IsW v w.heap.size (w.heap.size + 1) p a cap bp g wl aw cw) := fun v hb => IsW.mono ⟨q0, q1, hP.mono hb1, hi.mono hb1⟩ hb
  have HB1 := Lib.hid hb1
  have HW1 := Lib.hid hW1
  have HV := Lib.hid (And.intro hv hw)
  clear hW1 hb1 q0 q1 hP hi hv hw
  go_enter Try.func82, Try.ntmps82
  go_upto_region 1 with fail
  have hW1 := HW1.out
  rw [← hW1]
  clear hW1
  have hh := HH.out W1 (Below.refl _ _)
  have k1 : W1.cell? ⟨w.heap.size + 1, 0, none⟩ = some (.slice aw wl.length cw) := by rw [cell_of_heap hh.hw]; rfl
  clear hh
  go_wp2_with fail
  clear k1
  go_loopw [9] (fun i wr => ∃ k : Nat, k ≤ wl.length ∧ i = .int .i64 k ∧ Below W1.heap.size W1 wr ∧ Hid (∀ c, c < k → (decide (gi wl c = -1) || markedB p c (gi wl c).toNat) = true)) (fun i _ => wl.length - (intOf i).toNat)
  case atStart => exact ⟨0, by omega, rfl, Below.refl _ _, fun c hc => by omega⟩
  case round =>
    obtain ⟨k, hk, rfl, hbr, HK⟩ := hrel
    have hh := HH.out wr hbr
    have k0 : wr.cell? ⟨w.heap.size, 0, none⟩ = some (.pointer (some ⟨bp, 0, none⟩)) := by rw [cell_of_heap hh.hp]; rfl
    by_cases hlt : k < wl.length
    · have hkn : k < p.cards.length := by rw [← HV.out.2.1]; exact hlt
      have hgi := HV.out.2.gi hkn
      have HNX : Hid ((decide (gi wl k = -1) || markedB p k (gi wl k).toNat) = true → ∀ c, c < k + 1 → (decide (gi wl c = -1) || markedB p c (gi wl c).toNat) = true) := fun h c hc => by
        by_cases e : c = k
        · subst e; exact h
        · exact HK.out c (by omega)
      obtain ⟨b2, o2, haw, hwj⟩ := hh.hi k hlt
      subst haw
      by_cases h1 : gi wl k = -1
      · have hb : (gi wl k != -1) = false := by simpa using h1
        have H1 := Lib.hid h1
        clear h1 hh k0
        go_wp2_with fail
        all_goals try refine ⟨fun _ _ => trivial, ?_⟩
        all_goals try go_wp2_with fail
        go_roundw
        case rel => exact ⟨k + 1, by omega, by go_num, hbr, HNX.out (by simp [H1.out])⟩
        case measure => simp [intOf]; omega
      · have hb : (gi wl k != -1) = true := by simpa using h1
        obtain ⟨u, hu⟩ := Int.eq_ofNat_of_zero_le (show 0 ≤ gi wl k by omega)
        have hun : u < p.cards.length := by omega
        have hcall := marked_any hh.hP HV.out.1 hkn hun
        have H1 := Lib.hid (And.intro h1 hu)
        rw [hu] at hwj hb
        clear h1 hh hu hgi
        go_wp2_with fail
        (with_reducible refine hcall.mono ?_)
        clear hcall
        rintro e w5 ⟨rfl, hb5⟩
        have hB5 := hbr.trans (hb5.mono hbr.size)
        have hmm : (gi wl k).toNat = u := by rw [H1.out.2]; rfl
        have HMM := Lib.hid hmm
        clear hmm hb5 hwj k0
        cases hc : markedB p k u
        · have HC := Lib.hid hc
          clear hc
          go_wp2_with fail
          go_ret
          exact ⟨ret_bool (by unfold isWayB; rw [marksB_false hlt H1.out.1 (by rw [HMM.out]; exact HC.out)]; rfl), HB1.out.trans (hB5.mono HB1.out.size)⟩
        · have HC := Lib.hid hc
          clear hc
          go_wp2_with fail
          go_roundw
          case rel => exact ⟨k + 1, by omega, by go_num, hB5, HNX.out (by rw [HMM.out, HC.out]; simp)⟩
          case measure => simp [intOf]; omega
    · obtain rfl : k = wl.length := by omega
      have HMK := Lib.hid (marksB_true HK.out)
      have k1 : wr.cell? ⟨w.heap.size + 1, 0, none⟩ = some (.slice aw wl.length cw) := by rw [cell_of_heap hh.hw]; rfl
      have hcr := round_any (cap := cw) HV.out.2 hn5 hh.hi
      obtain ⟨_, _, _, _, _, c5⟩ := hh.hP.cells
      go_wp2_with fail
      (with_reducible refine hcr.mono ?_)
      clear hcr
      rintro e w5 ⟨rfl, rfl⟩
      cases hr : roundB wl
      · have HR := Lib.hid hr
        clear hr
        have hcall := containsLoss_any HV.out.1 HV.out.2.1 HR.out hh
        clear hh k1
        go_wp2_with fail
        (with_reducible refine hcall.mono ?_)
        clear hcall
        rintro e w6 ⟨rfl, hb6⟩
        have hB6 := hbr.trans (hb6.mono hbr.size)
        clear hb6 c5 k0
        go_wp2_with fail
        go_ret
        exact ⟨ret_bool (by unfold isWayB; rw [HMK.out, HR.out]; cases canB p wl false <;> cases canB p wl true <;> rfl), HB1.out.trans (hB6.mono HB1.out.size)⟩
      · have HR := Lib.hid hr
        clear hr hh k1 c5 k0
        go_wp2_with fail
        all_goals try refine ⟨fun _ _ => trivial, ?_⟩
        all_goals try go_wp2_with fail
        go_ret
        exact ⟨ret_bool (by unfold isWayB; rw [HMK.out, HR.out]; rfl), HB1.out.trans (hbr.mono HB1.out.size)⟩
end Go.Proofs.Ytnfhlbmapfoifaa
namespace Go.Proofs.Ytnfhlbmapfoifaa
open Go.RowKit
set_option linter.unusedVariables false
theorem infoI : (Try.prog.info? 3).map (fun i => (i.zero, i.size, i.bytes)) = some (some (.int .i64 0), 1, 8) := by kernel_rfl
theorem own_ints {w : World} {base : Nat} {a : Option Addr} {l : List Int} {cap : Nat} (h : w.ownsRow base 3 1 (.slice a l.length cap) l.length (l.map (Value.int .i64))) : IsInts w a l := fun i hi => by
  obtain ⟨g, c, e, _, _, _, _, hc⟩ := own_cell h (by omega)
  cases e
  refine ⟨g, 0, rfl, ?_⟩
  rw [Nat.zero_add]
  exact hc i _ (by simp [gi, hi])
set_option maxHeartbeats 1000000 in
theorem clone99 {w : World} {base : Nat} {v : Value} {l : List Int} (h : w.ownsRow base 3 1 v l.length (l.map (Value.int .i64))) (hl : l.length ≤ 16) :
    Calls Try.prog 99 #[v] w fun e w' => ∃ v', e = .returned v' ∧ w'.ownsRow w.heap.size 3 1 v' l.length (l.map (Value.int .i64)) ∧ Below w.heap.size w w' := by
  obtain ⟨i0, hi0, hz0, hz1, hz2⟩ := info_parts infoI
  rcases h.2 with ⟨rfl, h0⟩ | ⟨g, cap, cur, rfl, hbg, hh, _⟩
  · have hx : l = [] := List.eq_nil_of_length_eq_zero h0
    subst hx
    have he := Lib.run_eql_slice_nil (P := Try.prog)
    go_enter Try.func99, Try.ntmps99
    go_wp2
    go_ret
    exact ⟨_, rfl, World.ownsRow_nil w _ _ _, Below.refl _ _⟩
  · have hm := World.ownsRow_made (e := 3) (size := 1) w #[] 0 (base := w.heap.size) (Nat.le_refl _) (by simp [maxLen]) (by simp)
    obtain ⟨v', w', hr, hn, hg⟩ := append_rows (P := Try.prog) w.heap.size 76 76 3 i0 _ 1 8 Try.underlying76 hi0 hz0 hz1 hz2 rfl (by decide) _ 0 [] hm (some ⟨g, 0, none⟩) l.length cap (l.map (Value.int .i64)) (by simp) (fun h0 => ⟨_, rfl, fun j u hj => by
      have hc := (h.cells (g := g) rfl) j u hj
      have e : ((⟨g, 0, none⟩ : Addr).add j) = ⟨g, j, none⟩ := by unfold Addr.add; split <;> simp_all
      rw [e] at hc ⊢
      exact cell_stays ((Below.refl _ w).alloc (Nat.le_refl _) _) hc⟩) (by intro u hu; simp at hu; obtain ⟨x, _, rfl⟩ := hu; rfl) (by simp [maxLen]; omega) (by omega) (by simp)
    rw [Nat.zero_add, List.nil_append] at hn
    have HR := Lib.hid hr
    have HN := Lib.hid (And.intro hn hg)
    have he := Lib.run_eql_slice_nil (P := Try.prog)
    clear hr hn hg hm h hh hi0 hz0 hz1 hz2 hbg
    go_enter Try.func99, Try.ntmps99
    go_wp2_with (at_builtin; refine wpList_append_run rfl (.tmp 5) (.tmp 6) 76 rfl _ _ _ _ rfl rfl HR.out ?_)
    go_ret
    exact ⟨v', rfl, HN.out.1, ((Below.refl _ w).alloc (Nat.le_refl _) _).grown HN.out.2 (by simp) (fun k hk => by cases hk; exact Nat.le_refl _)⟩
set_option maxHeartbeats 1000000 in
theorem clone103 {w : World} {base : Nat} {v : Value} {l : List Int} (h : w.ownsRow base 3 1 v l.length (l.map (Value.int .i64))) (hl : l.length ≤ 16) :
    Calls Try.prog 103 #[v] w fun e w' => ∃ v', e = .returned v' ∧ w'.ownsRow w.heap.size 3 1 v' l.length (l.map (Value.int .i64)) ∧ Below w.heap.size w w' := by
  obtain ⟨i0, hi0, hz0, hz1, hz2⟩ := info_parts infoI
  rcases h.2 with ⟨rfl, h0⟩ | ⟨g, cap, cur, rfl, hbg, hh, _⟩
  · have hx : l = [] := List.eq_nil_of_length_eq_zero h0
    subst hx
    have he := Lib.run_eql_slice_nil (P := Try.prog)
    go_enter Try.func103, Try.ntmps103
    go_wp2
    go_ret
    exact ⟨_, rfl, World.ownsRow_nil w _ _ _, Below.refl _ _⟩
  · have hm := World.ownsRow_made (e := 3) (size := 1) w #[] 0 (base := w.heap.size) (Nat.le_refl _) (by simp [maxLen]) (by simp)
    obtain ⟨v', w', hr, hn, hg⟩ := append_rows (P := Try.prog) w.heap.size 42 42 3 i0 _ 1 8 Try.underlying42 hi0 hz0 hz1 hz2 rfl (by decide) _ 0 [] hm (some ⟨g, 0, none⟩) l.length cap (l.map (Value.int .i64)) (by simp) (fun h0 => ⟨_, rfl, fun j u hj => by
      have hc := (h.cells (g := g) rfl) j u hj
      have e : ((⟨g, 0, none⟩ : Addr).add j) = ⟨g, j, none⟩ := by unfold Addr.add; split <;> simp_all
      rw [e] at hc ⊢
      exact cell_stays ((Below.refl _ w).alloc (Nat.le_refl _) _) hc⟩) (by intro u hu; simp at hu; obtain ⟨x, _, rfl⟩ := hu; rfl) (by simp [maxLen]; omega) (by omega) (by simp)
    rw [Nat.zero_add, List.nil_append] at hn
    have HR := Lib.hid hr
    have HN := Lib.hid (And.intro hn hg)
    have he := Lib.run_eql_slice_nil (P := Try.prog)
    clear hr hn hg hm h hh hi0 hz0 hz1 hz2 hbg
    go_enter Try.func103, Try.ntmps103
    go_wp2_with (at_builtin; refine wpList_append_run rfl (.tmp 5) (.tmp 6) 42 rfl _ _ _ _ rfl rfl HR.out ?_)
    go_ret
    exact ⟨v', rfl, HN.out.1, ((Below.refl _ w).alloc (Nat.le_refl _) _).grown HN.out.2 (by simp) (fun k hk => by cases hk; exact Nat.le_refl _)⟩
end Go.Proofs.Ytnfhlbmapfoifaa
namespace Go.Proofs.Ytnfhlbmapfoifaa
open Go.RowKit
set_option linter.unusedVariables false
noncomputable def leafC : Code := (Try.f98.body.bind (regionAt 2)).getD .skip
structure LeafN (A : World) (bp : Nat) (v : Value) (d : Nat → Bool) (x16 x17 x18 x19 x20 x21 x22 x23 x24 x25 x5 : Value) (w : World) : Prop where
  same : Below A.heap.size A w
  f0 : d 0 = true → x16 = .pointer (some ⟨bp, 0, none⟩)
  f1 : d 1 = true → v = x17
  f2 : d 2 = true → x18 = .bool false
  f3 : d 3 = true → x19 = .bool true
  f4 : d 4 = true → x20 = .bool true
  f9 : d 9 = true → x25 = .bool true
  f10 : d 10 = true → x5 = .bool true
set_option maxRecDepth 100000 in
set_option maxHeartbeats 2000000 in
theorem leafN {A : World} {bp pb yb : Nat} {v : Value} {Q : Exit → Act → World → Prop} (k1 : Hid (A.cell? ⟨pb, 0, none⟩ = some (.pointer (some ⟨bp, 0, none⟩))))
    (kis : Hid (∀ w, Below A.heap.size A w → Calls Try.prog 82 #[.pointer (some ⟨bp, 0, none⟩), v] w fun e w' => e = .returned (.bool false) ∧ Below w.heap.size w w'))
    {s3 s4 s5 s6 s7 s8 s9 s10 s11 s12 s13 s14 s15 s16 s17 s18 s19 s20 s21 s22 s23 s24 s25 s26 s27 s28 s29 s30 s31 s32 s33 s34 s35 s36 s37 s38 s39 s40 s41 s42 s43 s44 s45 s46 s47 s48 : Value} {dd : List Deferred}
    (hQ : ∀ (x16 x17 x18 x19 x20 x21 x22 x23 x24 x25 x5 : Value) (w' : World), Below A.heap.size A w' → x5 = .bool true → Q .normal { tmps := #[v, .pointer (some ⟨pb, 0, none⟩), .pointer (some ⟨yb, 0, none⟩), s3, s4, x5, s6, s7, s8, s9, s10, s11, s12, s13, s14, s15, x16, x17, x18, x19, x20, x21, x22, x23, x24, x25, s26, s27, s28, s29, s30, s31, s32, s33, s34, s35, s36, s37, s38, s39, s40, s41, s42, s43, s44, s45, s46, s47, s48], defers := dd } w') :
    Code.wpIn (wideAt none) 0 Try.prog leafC Q { tmps := #[v, .pointer (some ⟨pb, 0, none⟩), .pointer (some ⟨yb, 0, none⟩), s3, s4, s5, s6, s7, s8, s9, s10, s11, s12, s13, s14, s15, s16, s17, s18, s19, s20, s21, s22, s23, s24, s25, s26, s27, s28, s29, s30, s31, s32, s33, s34, s35, s36, s37, s38, s39, s40, s41, s42, s43, s44, s45, s46, s47, s48], defers := dd } A := by
  have HQ := Lib.hid hQ
  clear hQ
  conv => arg 4; whnf
  refine wpIn_region_invG mixed (by kernel_rfl) (fun d_ a_ w' => ∃ x16 x17 x18 x19 x20 x21 x22 x23 x24 x25 x5, a_ = { tmps := #[v, .pointer (some ⟨pb, 0, none⟩), .pointer (some ⟨yb, 0, none⟩), s3, s4, x5, s6, s7, s8, s9, s10, s11, s12, s13, s14, s15, x16, x17, x18, x19, x20, x21, x22, x23, x24, x25, s26, s27, s28, s29, s30, s31, s32, s33, s34, s35, s36, s37, s38, s39, s40, s41, s42, s43, s44, s45, s46, s47, s48], defers := dd } ∧ LeafN A bp v d_ x16 x17 x18 x19 x20 x21 x22 x23 x24 x25 x5 w') ?_ ?_ ?_
  · refine ⟨s16, s17, s18, s19, s20, s21, s22, s23, s24, s25, s5, rfl, (Below.refl _ A).drew, ?_, ?_, ?_, ?_, ?_, ?_, ?_⟩ <;> (intro h; cases h)
  · refine ⟨?_, ?_, ?_, ?_, ?_, ?_, ?_, ?_, ?_, ?_, ?_, trivial⟩
    all_goals
      rintro d_ a_ w1 K hd_ hdep ⟨x16, x17, x18, x19, x20, x21, x22, x23, x24, x25, x5, rfl, F⟩ HK
      simp [Region.binds] at hdep
      have hb1 := F.same
      have k1' := cell_stays hb1 k1.out
    · have HF : Hid (LeafN A bp v (upd d_ 0) (.pointer (some ⟨bp, 0, none⟩)) x17 x18 x19 x20 x21 x22 x23 x24 x25 x5 w1) := ⟨F.same, fun _ => rfl, F.f1, F.f2, F.f3, F.f4, F.f9, F.f10⟩
      clear F hb1
      go_simp
      exact HK.out _ _ ⟨_, _, _, _, _, _, _, _, _, _, _, rfl, HF.out⟩
    · have HF : Hid (LeafN A bp v (upd d_ 1) x16 (v) x18 x19 x20 x21 x22 x23 x24 x25 x5 w1) := ⟨F.same, F.f0, fun _ => rfl, F.f2, F.f3, F.f4, F.f9, F.f10⟩
      clear F hb1
      go_simp
      exact HK.out _ _ ⟨_, _, _, _, _, _, _, _, _, _, _, rfl, HF.out⟩
    · obtain rfl := F.f0 (by simp [hdep])
      obtain rfl := F.f1 (by simp [hdep])
      have hc := kis.out w1 hb1
      have HF := Lib.hid F
      clear F
      go_simp
      refine ⟨trivial, rfl, wideAt_calls (hc.mono ?_)⟩
      rintro e w5 ⟨rfl, hb5⟩
      exact HK.out _ _ ⟨_, _, _, _, _, _, _, _, _, _, _, rfl, HF.out.same.trans (hb5.mono HF.out.same.size), HF.out.f0, HF.out.f1, fun _ => rfl, HF.out.f3, HF.out.f4, HF.out.f9, HF.out.f10⟩
    · obtain rfl := F.f2 (by simp [hdep])
      have HF : Hid (LeafN A bp v (upd d_ 3) x16 x17 (.bool false) (.bool true) x20 x21 x22 x23 x24 x25 x5 w1) := ⟨F.same, F.f0, F.f1, F.f2, fun _ => rfl, F.f4, F.f9, F.f10⟩
      clear F hb1
      go_simp
      exact HK.out _ _ ⟨_, _, _, _, _, _, _, _, _, _, _, rfl, HF.out⟩
    · obtain rfl := F.f3 (by simp [hdep])
      have HF : Hid (LeafN A bp v (upd d_ 4) x16 x17 x18 (.bool true) (.bool true) x21 x22 x23 x24 x25 x5 w1) := ⟨F.same, F.f0, F.f1, F.f2, F.f3, fun _ => rfl, F.f9, F.f10⟩
      clear F hb1
      go_simp
      exact HK.out _ _ ⟨_, _, _, _, _, _, _, _, _, _, _, rfl, HF.out⟩
    · obtain rfl := F.f4 (by simp [hdep])
      have HF : Hid (LeafN A bp v (upd d_ 5) x16 x17 x18 x19 (.bool true) (undef) x22 x23 x24 x25 x5 w1) := ⟨F.same, F.f0, F.f1, F.f2, F.f3, F.f4, F.f9, F.f10⟩
      clear F hb1
      go_simp
      exact HK.out _ _ ⟨_, _, _, _, _, _, _, _, _, _, _, rfl, HF.out⟩
    · obtain rfl := F.f4 (by simp [hdep])
      have HF : Hid (LeafN A bp v (upd d_ 6) x16 x17 x18 x19 (.bool true) x21 (undef) x23 x24 x25 x5 w1) := ⟨F.same, F.f0, F.f1, F.f2, F.f3, F.f4, F.f9, F.f10⟩
      clear F hb1
      go_simp
      exact HK.out _ _ ⟨_, _, _, _, _, _, _, _, _, _, _, rfl, HF.out⟩
    · obtain rfl := F.f4 (by simp [hdep])
      have HF : Hid (LeafN A bp v (upd d_ 7) x16 x17 x18 x19 (.bool true) x21 x22 (undef) x24 x25 x5 w1) := ⟨F.same, F.f0, F.f1, F.f2, F.f3, F.f4, F.f9, F.f10⟩
      clear F hb1
      go_simp
      exact HK.out _ _ ⟨_, _, _, _, _, _, _, _, _, _, _, rfl, HF.out⟩
    · obtain rfl := F.f4 (by simp [hdep])
      have HF : Hid (LeafN A bp v (upd d_ 8) x16 x17 x18 x19 (.bool true) x21 x22 x23 (undef) x25 x5 w1) := ⟨F.same, F.f0, F.f1, F.f2, F.f3, F.f4, F.f9, F.f10⟩
      clear F hb1
      go_simp
      exact HK.out _ _ ⟨_, _, _, _, _, _, _, _, _, _, _, rfl, HF.out⟩
    · obtain rfl := F.f4 (by simp [hdep])
      have HF : Hid (LeafN A bp v (upd d_ 9) x16 x17 x18 x19 (.bool true) x21 x22 x23 x24 (.bool true) x5 w1) := ⟨F.same, F.f0, F.f1, F.f2, F.f3, F.f4, fun _ => rfl, F.f10⟩
      clear F hb1
      go_simp
      exact HK.out _ _ ⟨_, _, _, _, _, _, _, _, _, _, _, rfl, HF.out⟩
    · obtain rfl := F.f9 (by simp [hdep])
      have HF : Hid (LeafN A bp v (upd d_ 10) x16 x17 x18 x19 x20 x21 x22 x23 x24 (.bool true) (.bool true) w1) := ⟨F.same, F.f0, F.f1, F.f2, F.f3, F.f4, F.f9, fun _ => rfl⟩
      clear F hb1
      go_simp
      exact HK.out _ _ ⟨_, _, _, _, _, _, _, _, _, _, _, rfl, HF.out⟩
  · rintro d_ a_ w1 hall ⟨x16, x17, x18, x19, x20, x21, x22, x23, x24, x25, x5, rfl, F⟩
    have hall' : ∀ k, k < 11 → d_ k = true := hall
    exact HQ.out _ _ _ _ _ _ _ _ _ _ _ w1 F.same (F.f10 (hall' 10 (by decide)))
structure LeafY (A : World) (bp l n : Nat) (xs : List Value) (v : Value) (Res : Bool → World → Prop) (d : Nat → Bool) (x16 x17 x18 x19 x20 x21 x22 x23 x24 x25 x5 : Value) (w : World) : Prop where
  o3 : d 3 = true → d 2 = true
  o4 : d 4 = true → d 3 = true
  o5 : d 5 = true → d 4 = true
  o6 : d 6 = true → d 4 = true
  o7 : d 7 = true → d 6 = true
  o8 : d 8 = true → d 7 = true ∧ d 5 = true
  o2 : d 2 = true → d 0 = true
  f0 : d 0 = true → x16 = .pointer (some ⟨bp, 0, none⟩)
  f1 : d 1 = true → v = x17
  f2 : d 2 = true → x18 = .bool true
  f3 : d 3 = true → x19 = .bool false
  f4 : d 4 = true → x20 = .bool false
  f5 : d 5 = true → x21 = .func (.yield l) #[] #[]
  f6 : d 6 = true → v = x22
  bl : d 8 = false → Below A.heap.size A w
  f7 : d 7 = true → d 8 = false → w.ownsRow A.heap.size 3 1 x23 n xs
  f8 : d 8 = true → ∃ r, x24 = .bool r ∧ Res r w
  f9 : d 9 = true → x24 = x25
  f10 : d 10 = true → x24 = x5
  o9 : d 9 = true → d 8 = true
  o10 : d 10 = true → d 9 = true
theorem LeafY.n8 {A : World} {bp l n : Nat} {xs : List Value} {v : Value} {Res : Bool → World → Prop} {d : Nat → Bool} {x16 x17 x18 x19 x20 x21 x22 x23 x24 x25 x5 : Value} {w : World} (F : LeafY A bp l n xs v Res d x16 x17 x18 x19 x20 x21 x22 x23 x24 x25 x5 w) (h : d 0 = false ∨ d 2 = false ∨ d 5 = false ∨ d 7 = false ∨ d 8 = false) : d 8 = false := by
  cases e : d 8 with
  | false => rfl
  | true =>
    have h1 := F.o8 e
    have h2 := F.o7 h1.1
    have h3 := F.o4 (F.o6 h2)
    have h4 := F.o3 h3
    have h5 := F.o2 h4
    rcases h with h | h | h | h | h
    · rw [h5] at h; cases h
    · rw [h4] at h; cases h
    · rw [h1.2] at h; cases h
    · rw [h1.1] at h; cases h
    · rw [e] at h; cases h
set_option maxRecDepth 100000 in
set_option maxHeartbeats 4000000 in
theorem leafY {A : World} {bp pb yb l n : Nat} {xs : List Value} {v : Value} {Res : Bool → World → Prop} {Q : Exit → Act → World → Prop} (k1 : Hid (A.cell? ⟨pb, 0, none⟩ = some (.pointer (some ⟨bp, 0, none⟩)))) (k2 : Hid (A.cell? ⟨yb, 0, none⟩ = some (.func (.yield l) #[] #[])))
    (kis : Hid (∀ w, Below A.heap.size A w → Calls Try.prog 82 #[.pointer (some ⟨bp, 0, none⟩), v] w fun e w' => e = .returned (.bool true) ∧ Below w.heap.size w w'))
    (kcl : Hid (∀ w, Below A.heap.size A w → Calls Try.prog 99 #[v] w fun e w' => ∃ v', e = .returned v' ∧ w'.ownsRow A.heap.size 3 1 v' n xs ∧ Below w.heap.size w w'))
    (ky : Hid (∀ w vc, Below A.heap.size A w → w.ownsRow A.heap.size 3 1 vc n xs → YieldAt Fence.wide 0 Try.prog l #[vc] w fun e w' => ∃ r, e = .returned (.bool r) ∧ Res r w'))
    {s3 s4 s5 s6 s7 s8 s9 s10 s11 s12 s13 s14 s15 s16 s17 s18 s19 s20 s21 s22 s23 s24 s25 s26 s27 s28 s29 s30 s31 s32 s33 s34 s35 s36 s37 s38 s39 s40 s41 s42 s43 s44 s45 s46 s47 s48 : Value} {dd : List Deferred}
    (hQ : ∀ (x16 x17 x18 x19 x20 x21 x22 x23 x24 x25 x5 : Value) (r : Bool) (w' : World), Res r w' → x5 = .bool r → Q .normal { tmps := #[v, .pointer (some ⟨pb, 0, none⟩), .pointer (some ⟨yb, 0, none⟩), s3, s4, x5, s6, s7, s8, s9, s10, s11, s12, s13, s14, s15, x16, x17, x18, x19, x20, x21, x22, x23, x24, x25, s26, s27, s28, s29, s30, s31, s32, s33, s34, s35, s36, s37, s38, s39, s40, s41, s42, s43, s44, s45, s46, s47, s48], defers := dd } w') :
    Code.wpIn (wideAt none) 0 Try.prog leafC Q { tmps := #[v, .pointer (some ⟨pb, 0, none⟩), .pointer (some ⟨yb, 0, none⟩), s3, s4, s5, s6, s7, s8, s9, s10, s11, s12, s13, s14, s15, s16, s17, s18, s19, s20, s21, s22, s23, s24, s25, s26, s27, s28, s29, s30, s31, s32, s33, s34, s35, s36, s37, s38, s39, s40, s41, s42, s43, s44, s45, s46, s47, s48], defers := dd } A := by
  have HQ := Lib.hid hQ
  clear hQ
  conv => arg 4; whnf
  refine wpIn_region_invG mixed (by kernel_rfl) (fun d_ a_ w' => ∃ x16 x17 x18 x19 x20 x21 x22 x23 x24 x25 x5, a_ = { tmps := #[v, .pointer (some ⟨pb, 0, none⟩), .pointer (some ⟨yb, 0, none⟩), s3, s4, x5, s6, s7, s8, s9, s10, s11, s12, s13, s14, s15, x16, x17, x18, x19, x20, x21, x22, x23, x24, x25, s26, s27, s28, s29, s30, s31, s32, s33, s34, s35, s36, s37, s38, s39, s40, s41, s42, s43, s44, s45, s46, s47, s48], defers := dd } ∧ LeafY A bp l n xs v Res d_ x16 x17 x18 x19 x20 x21 x22 x23 x24 x25 x5 w') ?_ ?_ ?_
  · refine ⟨s16, s17, s18, s19, s20, s21, s22, s23, s24, s25, s5, rfl, ?_⟩
    constructor <;> first | (intro h; cases h; done) | (intro _; exact (Below.refl _ A).drew)
  · refine ⟨?_, ?_, ?_, ?_, ?_, ?_, ?_, ?_, ?_, ?_, ?_, trivial⟩
    all_goals
      rintro d_ a_ w1 K hd_ hdep ⟨x16, x17, x18, x19, x20, x21, x22, x23, x24, x25, x5, rfl, F⟩ HK
      simp [Region.binds] at hdep
    · have n8 := F.n8 (.inl hd_)
      have k1' := cell_stays (F.bl n8) k1.out
      have HF : Hid (LeafY A bp l n xs v Res (upd d_ 0) (.pointer (some ⟨bp, 0, none⟩)) x17 x18 x19 x20 x21 x22 x23 x24 x25 x5 w1) := ⟨F.o3, F.o4, F.o5, F.o6, F.o7, F.o8, fun _ => rfl, fun _ => rfl, F.f1, F.f2, F.f3, F.f4, F.f5, F.f6, F.bl, F.f7, F.f8, F.f9, F.f10, F.o9, F.o10⟩
      clear F
      go_simp
      exact HK.out _ _ ⟨_, _, _, _, _, _, _, _, _, _, _, rfl, HF.out⟩
    · have HF : Hid (LeafY A bp l n xs v Res (upd d_ 1) x16 (v) x18 x19 x20 x21 x22 x23 x24 x25 x5 w1) := ⟨F.o3, F.o4, F.o5, F.o6, F.o7, F.o8, F.o2, F.f0, fun _ => rfl, F.f2, F.f3, F.f4, F.f5, F.f6, F.bl, F.f7, F.f8, F.f9, F.f10, F.o9, F.o10⟩
      clear F
      go_simp
      exact HK.out _ _ ⟨_, _, _, _, _, _, _, _, _, _, _, rfl, HF.out⟩
    · have n8 := F.n8 (.inr (.inl hd_))
      obtain rfl := F.f0 (by simp [hdep])
      obtain rfl := F.f1 (by simp [hdep])
      have hb1 := F.bl n8
      have hc := kis.out w1 hb1
      have HF := Lib.hid F
      clear F
      go_simp
      refine ⟨trivial, rfl, wideAt_calls (hc.mono ?_)⟩
      rintro e w5 ⟨rfl, hb5⟩
      exact HK.out _ _ ⟨_, _, _, _, _, _, _, _, _, _, _, rfl, ⟨fun _ => rfl, HF.out.o4, HF.out.o5, HF.out.o6, HF.out.o7, HF.out.o8, fun _ => (show _ from (by simp [hdep] : d_ 0 = true)), HF.out.f0, HF.out.f1, fun _ => rfl, HF.out.f3, HF.out.f4, HF.out.f5, HF.out.f6, fun _ => hb1.trans (hb5.mono hb1.size), fun h h8 => own_below (HF.out.f7 h h8) hb5, fun h => (by have h2 : d_ 8 = true := h; rw [n8] at h2; cases h2), HF.out.f9, HF.out.f10, HF.out.o9, HF.out.o10⟩⟩
    · obtain rfl := F.f2 (by simp [hdep])
      have HF : Hid (LeafY A bp l n xs v Res (upd d_ 3) x16 x17 (.bool true) (.bool false) x20 x21 x22 x23 x24 x25 x5 w1) := ⟨fun _ => (show _ from (by simp [hdep] : d_ 2 = true)), fun _ => rfl, F.o5, F.o6, F.o7, F.o8, F.o2, F.f0, F.f1, F.f2, fun _ => rfl, F.f4, F.f5, F.f6, F.bl, F.f7, F.f8, F.f9, F.f10, F.o9, F.o10⟩
      clear F
      go_simp
      exact HK.out _ _ ⟨_, _, _, _, _, _, _, _, _, _, _, rfl, HF.out⟩
    · obtain rfl := F.f3 (by simp [hdep])
      have HF : Hid (LeafY A bp l n xs v Res (upd d_ 4) x16 x17 x18 (.bool false) (.bool false) x21 x22 x23 x24 x25 x5 w1) := ⟨F.o3, fun _ => (show _ from (by simp [hdep] : d_ 3 = true)), fun _ => rfl, fun _ => rfl, F.o7, F.o8, F.o2, F.f0, F.f1, F.f2, F.f3, fun _ => rfl, F.f5, F.f6, F.bl, F.f7, F.f8, F.f9, F.f10, F.o9, F.o10⟩
      clear F
      go_simp
      exact HK.out _ _ ⟨_, _, _, _, _, _, _, _, _, _, _, rfl, HF.out⟩
    · have n8 := F.n8 (.inr (.inr (.inl hd_)))
      have k2' := cell_stays (F.bl n8) k2.out
      obtain rfl := F.f4 (by simp [hdep])
      have HF : Hid (LeafY A bp l n xs v Res (upd d_ 5) x16 x17 x18 x19 (.bool false) (.func (.yield l) #[] #[]) x22 x23 x24 x25 x5 w1) := ⟨F.o3, F.o4, fun _ => (show _ from (by simp [hdep] : d_ 4 = true)), F.o6, F.o7, fun h => ⟨(F.o8 h).1, rfl⟩, F.o2, F.f0, F.f1, F.f2, F.f3, F.f4, fun _ => rfl, F.f6, F.bl, F.f7, F.f8, F.f9, F.f10, F.o9, F.o10⟩
      clear F
      go_simp
      exact HK.out _ _ ⟨_, _, _, _, _, _, _, _, _, _, _, rfl, HF.out⟩
    · obtain rfl := F.f4 (by simp [hdep])
      have HF : Hid (LeafY A bp l n xs v Res (upd d_ 6) x16 x17 x18 x19 (.bool false) x21 (v) x23 x24 x25 x5 w1) := ⟨F.o3, F.o4, F.o5, fun _ => (show _ from (by simp [hdep] : d_ 4 = true)), fun _ => rfl, F.o8, F.o2, F.f0, F.f1, F.f2, F.f3, F.f4, F.f5, fun _ => rfl, F.bl, F.f7, F.f8, F.f9, F.f10, F.o9, F.o10⟩
      clear F
      go_simp
      exact HK.out _ _ ⟨_, _, _, _, _, _, _, _, _, _, _, rfl, HF.out⟩
    · have n8 := F.n8 (.inr (.inr (.inr (.inl hd_))))
      obtain rfl := F.f4 (by simp [hdep])
      obtain rfl := F.f6 (by simp [hdep])
      have hb1 := F.bl n8
      have hc := kcl.out w1 hb1
      have HF := Lib.hid F
      clear F
      go_simp
      refine ⟨trivial, rfl, wideAt_calls (hc.mono ?_)⟩
      rintro e w5 ⟨v', rfl, hown, hb5⟩
      exact HK.out _ _ ⟨_, _, _, _, _, _, _, _, _, _, _, rfl, ⟨HF.out.o3, HF.out.o4, HF.out.o5, HF.out.o6, fun _ => (show _ from (by simp [hdep] : d_ 6 = true)), fun h => ⟨rfl, (HF.out.o8 h).2⟩, HF.out.o2, HF.out.f0, HF.out.f1, HF.out.f2, HF.out.f3, HF.out.f4, HF.out.f5, HF.out.f6, fun _ => hb1.trans (hb5.mono hb1.size), fun _ _ => hown, fun h => (by have h2 : d_ 8 = true := h; rw [n8] at h2; cases h2), HF.out.f9, HF.out.f10, HF.out.o9, HF.out.o10⟩⟩
    · have n8 : d_ 8 = false := hd_
      obtain rfl := F.f4 (by simp [hdep])
      obtain rfl := F.f5 (by simp [hdep])
      have hb1 := F.bl n8
      have hown := F.f7 (by simp [hdep]) n8
      obtain ⟨fn, tmps, assign, body, hy, hR⟩ := ky.out w1 x23 hb1 hown
      have HR := Lib.hid hR
      have HF := Lib.hid F
      clear F hR hown hb1
      go_simp
      refine ⟨rfl, HR.out.mono ?_⟩
      rintro e w5 ⟨r, rfl, hres⟩
      exact HK.out _ _ ⟨_, _, _, _, _, _, _, _, _, _, _, rfl, ⟨HF.out.o3, HF.out.o4, HF.out.o5, HF.out.o6, HF.out.o7, fun _ => ⟨(show _ from (by simp [hdep] : d_ 7 = true)), (show _ from (by simp [hdep] : d_ 5 = true))⟩, HF.out.o2, HF.out.f0, HF.out.f1, HF.out.f2, HF.out.f3, HF.out.f4, HF.out.f5, HF.out.f6, fun h => (by simp [upd] at h), fun _ h => (by simp [upd] at h), fun _ => ⟨r, rfl, hres⟩, fun h => (by have h2 := HF.out.o9 h; rw [n8] at h2; cases h2), fun h => (by have h2 := HF.out.o9 (HF.out.o10 h); rw [n8] at h2; cases h2), fun _ => rfl, HF.out.o10⟩⟩
    · obtain rfl := F.f4 (by simp [hdep])
      obtain ⟨r, e24, hres⟩ := F.f8 (by simp [hdep])
      subst e24
      have HF : Hid (LeafY A bp l n xs v Res (upd d_ 9) x16 x17 x18 x19 (.bool false) x21 x22 x23 (.bool r) (.bool r) x5 w1) := ⟨F.o3, F.o4, F.o5, F.o6, F.o7, F.o8, F.o2, F.f0, F.f1, F.f2, F.f3, F.f4, F.f5, F.f6, F.bl, F.f7, F.f8, fun _ => rfl, F.f10, fun _ => (show _ from (by simp [hdep] : d_ 8 = true)), fun _ => rfl⟩
      clear F hres
      go_simp
      exact HK.out _ _ ⟨_, _, _, _, _, _, _, _, _, _, _, rfl, HF.out⟩
    · have HF : Hid (LeafY A bp l n xs v Res (upd d_ 10) x16 x17 x18 x19 x20 x21 x22 x23 x24 x25 (x25) w1) := ⟨F.o3, F.o4, F.o5, F.o6, F.o7, F.o8, F.o2, F.f0, F.f1, F.f2, F.f3, F.f4, F.f5, F.f6, F.bl, F.f7, F.f8, F.f9, fun _ => F.f9 (by simp [hdep]), F.o9, fun _ => (show _ from (by simp [hdep] : d_ 9 = true))⟩
      clear F
      go_simp
      exact HK.out _ _ ⟨_, _, _, _, _, _, _, _, _, _, _, rfl, HF.out⟩
  · rintro d_ a_ w1 hall ⟨x16, x17, x18, x19, x20, x21, x22, x23, x24, x25, x5, rfl, F⟩
    have hall' : ∀ k, k < 11 → d_ k = true := hall
    obtain ⟨r, e24, hres⟩ := F.f8 (hall' 8 (by decide))
    exact HQ.out _ _ _ _ _ _ _ _ _ _ _ r w1 hres ((F.f10 (hall' 10 (by decide))).symm.trans e24)
end Go.Proofs.Ytnfhlbmapfoifaa
namespace Go.Proofs.Ytnfhlbmapfoifaa
open Go.RowKit
set_option linter.unusedVariables false
theorem wpIn_append_run {P : Program} {m : Nat} {w : World} {o : Oper} {a : Act} {K : Act → World → Prop} {Q : Exit → Act → World → Prop} (s x : Operand) (t : TypeId)
    (ho : o.op = .call { callee := .builtin .append, args := #[s, x], argTypes := #[t, t] }) (v xv v' : Value) (w' : World) (hs : a.eval s = v) (hx : a.eval x = xv)
    (hr : (Builtin.append_ #[t, t] o.type #[v, xv]).run P w = .ok v' w') (h : K (a.put o.dst v') w') : o.wpIn (wideAt none) m P a w K Q := by
  refine ⟨fun _ _ => trivial, ?_⟩
  show o.uponIn _ _ P a K Q ((execOp a.eval o).run P w)
  unfold execOp
  simp only [ho, resolve, invoke, builtin, Sem.run_bind, Sem.run_pure, Result.andThen_ok, List.map_toArray, List.map_cons, List.map_nil, hs, hx, hr]
  exact h
noncomputable def onC : Code := (Try.f98.body.bind (regionAt 6)).getD .skip
structure SkipN (A : World) (av : Option Addr) (k cv : Nat) (f : Int) (d : Nat → Bool) (x36 x37 x38 x39 x40 x41 x42 x43 x44 x45 x46 x47 x48 : Value) (w : World) : Prop where
  same : Below A.heap.size A w
  f0 : d 0 = true → x36 = .int .i64 f
  f1 : d 1 = true → x37 = .slice av k cv
  f2 : d 2 = true → x38 = .int .i64 k
  f3 : d 3 = true → x39 = .bool false
  f4 : d 4 = true → x40 = .bool false
  f12 : d 12 = true → x48 = .bool false
set_option maxRecDepth 100000 in
set_option maxHeartbeats 2000000 in
theorem onSkip {A : World} {av : Option Addr} {k cv ob : Nat} {f : Int} {Q : Exit → Act → World → Prop} (hk : k ≤ 16) (hf : (f != (k : Int)) = false)
    {s1 s2 s4 s5 s7 s8 s9 s10 s11 s12 s13 s14 s15 s16 s17 s18 s19 s20 s21 s22 s23 s24 s25 s26 s27 s28 s29 s30 s31 s32 s33 s34 s35 s36 s37 s38 s39 s40 s41 s42 s43 s44 s45 s46 s47 s48 : Value} {dd : List Deferred}
    (hQ : ∀ (x36 x37 x38 x39 x40 x41 x42 x43 x44 x45 x46 x47 x48 : Value) (w' : World), Below A.heap.size A w' → x48 = .bool false → Q .normal { tmps := #[.slice av k cv, s1, s2, .pointer (some ⟨ob, 0, none⟩), s4, s5, .int .i64 f, s7, s8, s9, s10, s11, s12, s13, s14, s15, s16, s17, s18, s19, s20, s21, s22, s23, s24, s25, s26, s27, s28, s29, s30, s31, s32, s33, s34, s35, x36, x37, x38, x39, x40, x41, x42, x43, x44, x45, x46, x47, x48], defers := dd } w') :
    Code.wpIn (wideAt none) 0 Try.prog onC Q { tmps := #[.slice av k cv, s1, s2, .pointer (some ⟨ob, 0, none⟩), s4, s5, .int .i64 f, s7, s8, s9, s10, s11, s12, s13, s14, s15, s16, s17, s18, s19, s20, s21, s22, s23, s24, s25, s26, s27, s28, s29, s30, s31, s32, s33, s34, s35, s36, s37, s38, s39, s40, s41, s42, s43, s44, s45, s46, s47, s48], defers := dd } A := by
  have HQ := Lib.hid hQ
  clear hQ
  conv => arg 4; whnf
  refine wpIn_region_invG mixed (by kernel_rfl) (fun d_ a_ w' => ∃ x36 x37 x38 x39 x40 x41 x42 x43 x44 x45 x46 x47 x48, a_ = { tmps := #[.slice av k cv, s1, s2, .pointer (some ⟨ob, 0, none⟩), s4, s5, .int .i64 f, s7, s8, s9, s10, s11, s12, s13, s14, s15, s16, s17, s18, s19, s20, s21, s22, s23, s24, s25, s26, s27, s28, s29, s30, s31, s32, s33, s34, s35, x36, x37, x38, x39, x40, x41, x42, x43, x44, x45, x46, x47, x48], defers := dd } ∧ SkipN A av k cv f d_ x36 x37 x38 x39 x40 x41 x42 x43 x44 x45 x46 x47 x48 w') ?_ ?_ ?_
  · refine ⟨s36, s37, s38, s39, s40, s41, s42, s43, s44, s45, s46, s47, s48, rfl, (Below.refl _ A).drew, ?_, ?_, ?_, ?_, ?_, ?_⟩ <;> (intro h; cases h)
  · refine ⟨?_, ?_, ?_, ?_, ?_, ?_, ?_, ?_, ?_, ?_, ?_, ?_, ?_, trivial⟩
    all_goals
      rintro d_ a_ w1 K hd_ hdep ⟨x36, x37, x38, x39, x40, x41, x42, x43, x44, x45, x46, x47, x48, rfl, F⟩ HK
      simp [Region.binds] at hdep
    · have HF : Hid (SkipN A av k cv f (upd d_ 0) (.int .i64 f) x37 x38 x39 x40 x41 x42 x43 x44 x45 x46 x47 x48 w1) := ⟨F.same, fun _ => rfl, F.f1, F.f2, F.f3, F.f4, F.f12⟩
      clear F
      go_simp
      exact HK.out _ _ ⟨_, _, _, _, _, _, _, _, _, _, _, _, _, rfl, HF.out⟩
    · have HF : Hid (SkipN A av k cv f (upd d_ 1) x36 (.slice av k cv) x38 x39 x40 x41 x42 x43 x44 x45 x46 x47 x48 w1) := ⟨F.same, F.f0, fun _ => rfl, F.f2, F.f3, F.f4, F.f12⟩
      clear F
      go_simp
      exact HK.out _ _ ⟨_, _, _, _, _, _, _, _, _, _, _, _, _, rfl, HF.out⟩
    · obtain rfl := F.f1 (by simp [hdep])
      have HF : Hid (SkipN A av k cv f (upd d_ 2) x36 (.slice av k cv) (.int .i64 k) x39 x40 x41 x42 x43 x44 x45 x46 x47 x48 w1) := ⟨F.same, F.f0, F.f1, fun _ => rfl, F.f3, F.f4, F.f12⟩
      clear F
      go_simp
      exact HK.out _ _ ⟨_, _, _, _, _, _, _, _, _, _, _, _, _, rfl, HF.out⟩
    · obtain rfl := F.f0 (by simp [hdep])
      obtain rfl := F.f2 (by simp [hdep])
      have HF : Hid (SkipN A av k cv f (upd d_ 3) (.int .i64 f) x37 (.int .i64 k) (.bool false) x40 x41 x42 x43 x44 x45 x46 x47 x48 w1) := ⟨F.same, F.f0, F.f1, F.f2, fun _ => rfl, F.f4, F.f12⟩
      clear F
      go_simp
      exact HK.out _ _ ⟨_, _, _, _, _, _, _, _, _, _, _, _, _, rfl, HF.out⟩
    · obtain rfl := F.f3 (by simp [hdep])
      have HF : Hid (SkipN A av k cv f (upd d_ 4) x36 x37 x38 (.bool false) (.bool false) x41 x42 x43 x44 x45 x46 x47 x48 w1) := ⟨F.same, F.f0, F.f1, F.f2, F.f3, fun _ => rfl, F.f12⟩
      clear F
      go_simp
      exact HK.out _ _ ⟨_, _, _, _, _, _, _, _, _, _, _, _, _, rfl, HF.out⟩
    · obtain rfl := F.f4 (by simp [hdep])
      have HF : Hid (SkipN A av k cv f (upd d_ 5) x36 x37 x38 x39 (.bool false) (undef) x42 x43 x44 x45 x46 x47 x48 w1) := ⟨F.same, F.f0, F.f1, F.f2, F.f3, F.f4, F.f12⟩
      clear F
      go_simp
      exact HK.out _ _ ⟨_, _, _, _, _, _, _, _, _, _, _, _, _, rfl, HF.out⟩
    · obtain rfl := F.f4 (by simp [hdep])
      have HF : Hid (SkipN A av k cv f (upd d_ 6) x36 x37 x38 x39 (.bool false) x41 (undef) x43 x44 x45 x46 x47 x48 w1) := ⟨F.same, F.f0, F.f1, F.f2, F.f3, F.f4, F.f12⟩
      clear F
      go_simp
      exact HK.out _ _ ⟨_, _, _, _, _, _, _, _, _, _, _, _, _, rfl, HF.out⟩
    · obtain rfl := F.f4 (by simp [hdep])
      have HF : Hid (SkipN A av k cv f (upd d_ 7) x36 x37 x38 x39 (.bool false) x41 x42 (undef) x44 x45 x46 x47 x48 w1) := ⟨F.same, F.f0, F.f1, F.f2, F.f3, F.f4, F.f12⟩
      clear F
      go_simp
      exact HK.out _ _ ⟨_, _, _, _, _, _, _, _, _, _, _, _, _, rfl, HF.out⟩
    · obtain rfl := F.f4 (by simp [hdep])
      have HF : Hid (SkipN A av k cv f (upd d_ 8) x36 x37 x38 x39 (.bool false) x41 x42 x43 (undef) x45 x46 x47 x48 w1) := ⟨F.same, F.f0, F.f1, F.f2, F.f3, F.f4, F.f12⟩
      clear F
      go_simp
      exact HK.out _ _ ⟨_, _, _, _, _, _, _, _, _, _, _, _, _, rfl, HF.out⟩
    · obtain rfl := F.f4 (by simp [hdep])
      have HF : Hid (SkipN A av k cv f (upd d_ 9) x36 x37 x38 x39 (.bool false) x41 x42 x43 x44 (undef) x46 x47 x48 w1) := ⟨F.same, F.f0, F.f1, F.f2, F.f3, F.f4, F.f12⟩
      clear F
      go_simp
      exact HK.out _ _ ⟨_, _, _, _, _, _, _, _, _, _, _, _, _, rfl, HF.out⟩
    · obtain rfl := F.f4 (by simp [hdep])
      have HF : Hid (SkipN A av k cv f (upd d_ 10) x36 x37 x38 x39 (.bool false) x41 x42 x43 x44 x45 (undef) x47 x48 w1) := ⟨F.same, F.f0, F.f1, F.f2, F.f3, F.f4, F.f12⟩
      clear F
      go_simp
      exact HK.out _ _ ⟨_, _, _, _, _, _, _, _, _, _, _, _, _, rfl, HF.out⟩
    · obtain rfl := F.f4 (by simp [hdep])
      have HF : Hid (SkipN A av k cv f (upd d_ 11) x36 x37 x38 x39 (.bool false) x41 x42 x43 x44 x45 x46 (undef) x48 w1) := ⟨F.same, F.f0, F.f1, F.f2, F.f3, F.f4, F.f12⟩
      clear F
      go_simp
      exact HK.out _ _ ⟨_, _, _, _, _, _, _, _, _, _, _, _, _, rfl, HF.out⟩
    · obtain rfl := F.f4 (by simp [hdep])
      have HF : Hid (SkipN A av k cv f (upd d_ 12) x36 x37 x38 x39 (.bool false) x41 x42 x43 x44 x45 x46 x47 (.bool false) w1) := ⟨F.same, F.f0, F.f1, F.f2, F.f3, F.f4, fun _ => rfl⟩
      clear F
      go_simp
      exact HK.out _ _ ⟨_, _, _, _, _, _, _, _, _, _, _, _, _, rfl, HF.out⟩
  · rintro d_ a_ w1 hall ⟨x36, x37, x38, x39, x40, x41, x42, x43, x44, x45, x46, x47, x48, rfl, F⟩
    have hall' : ∀ k, k < 13 → d_ k = true := hall
    exact HQ.out _ _ _ _ _ _ _ _ _ _ _ _ _ w1 F.same (F.f12 (hall' 12 (by decide)))
structure OnF (A : World) (av : Option Addr) (k cv : Nat) (f : Int) (sf : Value) (App : Value → World → Prop) (Res : Bool → World → Prop) (d : Nat → Bool) (x36 x37 x38 x39 x40 x41 x42 x43 x44 x45 x46 x47 x48 : Value) (w : World) : Prop where
  o10 : d 10 = true → d 9 = true ∧ d 5 = true
  o9 : d 9 = true → d 8 = true ∧ d 6 = true
  o8 : d 8 = true → d 7 = true
  o11 : d 11 = true → d 10 = true
  o12 : d 12 = true → d 11 = true
  f0 : d 0 = true → x36 = .int .i64 f
  f1 : d 1 = true → x37 = .slice av k cv
  f2 : d 2 = true → x38 = .int .i64 k
  f3 : d 3 = true → x39 = .bool true
  f4 : d 4 = true → x40 = .bool true
  f5 : d 5 = true → x41 = sf
  f6 : d 6 = true → x42 = .slice av k cv
  f7 : d 7 = true → x43 = .int .i64 f
  f8 : d 8 = true → d 9 = false → ∃ g : Nat, x44 = .slice (some ⟨g, 0, none⟩) 1 1 ∧ w.heap[g]? = some (.cells #[.int .i64 f] 3 (0, 0))
  bl : d 9 = false → Below A.heap.size A w
  ap : d 9 = true → d 10 = false → App x45 w
  f10 : d 10 = true → ∃ r, x46 = .bool r ∧ Res r w
  f11 : d 11 = true → ∃ r, x46 = .bool r ∧ x47 = .bool (!r)
  f12 : d 12 = true → x47 = x48
theorem OnF.n10 {A : World} {av : Option Addr} {k cv : Nat} {f : Int} {sf : Value} {App : Value → World → Prop} {Res : Bool → World → Prop} {d : Nat → Bool} {x36 x37 x38 x39 x40 x41 x42 x43 x44 x45 x46 x47 x48 : Value} {w : World} (F : OnF A av k cv f sf App Res d x36 x37 x38 x39 x40 x41 x42 x43 x44 x45 x46 x47 x48 w) (h : d 5 = false ∨ d 9 = false ∨ d 10 = false) : d 10 = false := by
  cases e : d 10 with
  | false => rfl
  | true =>
    have h1 := F.o10 e
    rcases h with h | h | h
    · rw [h1.2] at h; cases h
    · rw [h1.1] at h; cases h
    · rw [e] at h; cases h
theorem OnF.n9 {A : World} {av : Option Addr} {k cv : Nat} {f : Int} {sf : Value} {App : Value → World → Prop} {Res : Bool → World → Prop} {d : Nat → Bool} {x36 x37 x38 x39 x40 x41 x42 x43 x44 x45 x46 x47 x48 : Value} {w : World} (F : OnF A av k cv f sf App Res d x36 x37 x38 x39 x40 x41 x42 x43 x44 x45 x46 x47 x48 w) (h : d 8 = false) : d 9 = false := by
  cases e : d 9 with
  | false => rfl
  | true => have h1 := F.o9 e; rw [h1.1] at h; cases h
set_option maxRecDepth 100000 in
set_option maxHeartbeats 4000000 in
theorem onMore {A : World} {av : Option Addr} {k cv ob pb yb : Nat} {f : Int} {App : Value → World → Prop} {Res : Bool → World → Prop} {Q : Exit → Act → World → Prop} (hk : k ≤ 16) (hf : (f != (k : Int)) = true)
    (ko : Hid (∀ w, Below A.heap.size A w → w.cell? ⟨ob, 0, none⟩ = some (.func (.func 98) #[] #[.pointer (some ⟨pb, 0, none⟩), .pointer (some ⟨yb, 0, none⟩), .pointer (some ⟨ob, 0, none⟩)]))) (ko' : Hid (∀ v w, App v w → w.cell? ⟨ob, 0, none⟩ = some (.func (.func 98) #[] #[.pointer (some ⟨pb, 0, none⟩), .pointer (some ⟨yb, 0, none⟩), .pointer (some ⟨ob, 0, none⟩)])))
    (kap : Hid (∀ (w : World) (g : Nat), Below A.heap.size A w → w.heap[g]? = some (.cells #[.int .i64 f] 3 (0, 0)) → ∃ v' w', (Builtin.append_ #[76, 76] 76 #[.slice av k cv, .slice (some ⟨g, 0, none⟩) 1 1]).run Try.prog w = .ok v' w' ∧ App v' w'))
    (kon : Hid (∀ v w, App v w → CallsIn Fence.wide 0 Try.prog 98 #[v, .pointer (some ⟨pb, 0, none⟩), .pointer (some ⟨yb, 0, none⟩), .pointer (some ⟨ob, 0, none⟩)] w fun e w' => ∃ r, e = .returned (.bool r) ∧ Res r w'))
    {s1 s2 s4 s5 s7 s8 s9 s10 s11 s12 s13 s14 s15 s16 s17 s18 s19 s20 s21 s22 s23 s24 s25 s26 s27 s28 s29 s30 s31 s32 s33 s34 s35 s36 s37 s38 s39 s40 s41 s42 s43 s44 s45 s46 s47 s48 : Value} {dd : List Deferred}
    (hQ : ∀ (x36 x37 x38 x39 x40 x41 x42 x43 x44 x45 x46 x47 x48 : Value) (r : Bool) (w' : World), Res r w' → x48 = .bool (!r) → Q .normal { tmps := #[.slice av k cv, s1, s2, .pointer (some ⟨ob, 0, none⟩), s4, s5, .int .i64 f, s7, s8, s9, s10, s11, s12, s13, s14, s15, s16, s17, s18, s19, s20, s21, s22, s23, s24, s25, s26, s27, s28, s29, s30, s31, s32, s33, s34, s35, x36, x37, x38, x39, x40, x41, x42, x43, x44, x45, x46, x47, x48], defers := dd } w') :
    Code.wpIn (wideAt none) 0 Try.prog onC Q { tmps := #[.slice av k cv, s1, s2, .pointer (some ⟨ob, 0, none⟩), s4, s5, .int .i64 f, s7, s8, s9, s10, s11, s12, s13, s14, s15, s16, s17, s18, s19, s20, s21, s22, s23, s24, s25, s26, s27, s28, s29, s30, s31, s32, s33, s34, s35, s36, s37, s38, s39, s40, s41, s42, s43, s44, s45, s46, s47, s48], defers := dd } A := by
  have HQ := Lib.hid hQ
  clear hQ
  conv => arg 4; whnf
  refine wpIn_region_invG mixed (by kernel_rfl) (fun d_ a_ w' => ∃ x36 x37 x38 x39 x40 x41 x42 x43 x44 x45 x46 x47 x48, a_ = { tmps := #[.slice av k cv, s1, s2, .pointer (some ⟨ob, 0, none⟩), s4, s5, .int .i64 f, s7, s8, s9, s10, s11, s12, s13, s14, s15, s16, s17, s18, s19, s20, s21, s22, s23, s24, s25, s26, s27, s28, s29, s30, s31, s32, s33, s34, s35, x36, x37, x38, x39, x40, x41, x42, x43, x44, x45, x46, x47, x48], defers := dd } ∧ OnF A av k cv f (.func (.func 98) #[] #[.pointer (some ⟨pb, 0, none⟩), .pointer (some ⟨yb, 0, none⟩), .pointer (some ⟨ob, 0, none⟩)]) App Res d_ x36 x37 x38 x39 x40 x41 x42 x43 x44 x45 x46 x47 x48 w') ?_ ?_ ?_
  · refine ⟨s36, s37, s38, s39, s40, s41, s42, s43, s44, s45, s46, s47, s48, rfl, ?_⟩
    constructor <;> first | (intro h; cases h; done) | (intro _; exact (Below.refl _ A).drew)
  · refine ⟨?_, ?_, ?_, ?_, ?_, ?_, ?_, ?_, ?_, ?_, ?_, ?_, ?_, trivial⟩
    all_goals
      rintro d_ a_ w1 K hd_ hdep ⟨x36, x37, x38, x39, x40, x41, x42, x43, x44, x45, x46, x47, x48, rfl, F⟩ HK
      simp [Region.binds] at hdep
    · have HF : Hid (OnF A av k cv f (.func (.func 98) #[] #[.pointer (some ⟨pb, 0, none⟩), .pointer (some ⟨yb, 0, none⟩), .pointer (some ⟨ob, 0, none⟩)]) App Res (upd d_ 0) (.int .i64 f) x37 x38 x39 x40 x41 x42 x43 x44 x45 x46 x47 x48 w1) := ⟨F.o10, F.o9, F.o8, F.o11, F.o12, fun _ => rfl, F.f1, F.f2, F.f3, F.f4, F.f5, F.f6, F.f7, F.f8, F.bl, F.ap, F.f10, F.f11, F.f12⟩
      clear F
      go_simp
      exact HK.out _ _ ⟨_, _, _, _, _, _, _, _, _, _, _, _, _, rfl, HF.out⟩
    · have HF : Hid (OnF A av k cv f (.func (.func 98) #[] #[.pointer (some ⟨pb, 0, none⟩), .pointer (some ⟨yb, 0, none⟩), .pointer (some ⟨ob, 0, none⟩)]) App Res (upd d_ 1) x36 (.slice av k cv) x38 x39 x40 x41 x42 x43 x44 x45 x46 x47 x48 w1) := ⟨F.o10, F.o9, F.o8, F.o11, F.o12, F.f0, fun _ => rfl, F.f2, F.f3, F.f4, F.f5, F.f6, F.f7, F.f8, F.bl, F.ap, F.f10, F.f11, F.f12⟩
      clear F
      go_simp
      exact HK.out _ _ ⟨_, _, _, _, _, _, _, _, _, _, _, _, _, rfl, HF.out⟩
    · obtain rfl := F.f1 (by simp [hdep])
      have HF : Hid (OnF A av k cv f (.func (.func 98) #[] #[.pointer (some ⟨pb, 0, none⟩), .pointer (some ⟨yb, 0, none⟩), .pointer (some ⟨ob, 0, none⟩)]) App Res (upd d_ 2) x36 (.slice av k cv) (.int .i64 k) x39 x40 x41 x42 x43 x44 x45 x46 x47 x48 w1) := ⟨F.o10, F.o9, F.o8, F.o11, F.o12, F.f0, F.f1, fun _ => rfl, F.f3, F.f4, F.f5, F.f6, F.f7, F.f8, F.bl, F.ap, F.f10, F.f11, F.f12⟩
      clear F
      go_simp
      exact HK.out _ _ ⟨_, _, _, _, _, _, _, _, _, _, _, _, _, rfl, HF.out⟩
    · obtain rfl := F.f0 (by simp [hdep])
      obtain rfl := F.f2 (by simp [hdep])
      have HF : Hid (OnF A av k cv f (.func (.func 98) #[] #[.pointer (some ⟨pb, 0, none⟩), .pointer (some ⟨yb, 0, none⟩), .pointer (some ⟨ob, 0, none⟩)]) App Res (upd d_ 3) (.int .i64 f) x37 (.int .i64 k) (.bool true) x40 x41 x42 x43 x44 x45 x46 x47 x48 w1) := ⟨F.o10, F.o9, F.o8, F.o11, F.o12, F.f0, F.f1, F.f2, fun _ => rfl, F.f4, F.f5, F.f6, F.f7, F.f8, F.bl, F.ap, F.f10, F.f11, F.f12⟩
      clear F
      go_simp
      exact HK.out _ _ ⟨_, _, _, _, _, _, _, _, _, _, _, _, _, rfl, HF.out⟩
    · obtain rfl := F.f3 (by simp [hdep])
      have HF : Hid (OnF A av k cv f (.func (.func 98) #[] #[.pointer (some ⟨pb, 0, none⟩), .pointer (some ⟨yb, 0, none⟩), .pointer (some ⟨ob, 0, none⟩)]) App Res (upd d_ 4) x36 x37 x38 (.bool true) (.bool true) x41 x42 x43 x44 x45 x46 x47 x48 w1) := ⟨F.o10, F.o9, F.o8, F.o11, F.o12, F.f0, F.f1, F.f2, F.f3, fun _ => rfl, F.f5, F.f6, F.f7, F.f8, F.bl, F.ap, F.f10, F.f11, F.f12⟩
      clear F
      go_simp
      exact HK.out _ _ ⟨_, _, _, _, _, _, _, _, _, _, _, _, _, rfl, HF.out⟩
    · have n10 := F.n10 (.inl hd_)
      have kc : w1.cell? ⟨ob, 0, none⟩ = some (.func (.func 98) #[] #[.pointer (some ⟨pb, 0, none⟩), .pointer (some ⟨yb, 0, none⟩), .pointer (some ⟨ob, 0, none⟩)]) := by
        cases e9 : d_ 9 with
        | false => exact ko.out w1 (F.bl e9)
        | true => exact ko'.out _ w1 (F.ap e9 n10)
      obtain rfl := F.f4 (by simp [hdep])
      have HF : Hid (OnF A av k cv f (.func (.func 98) #[] #[.pointer (some ⟨pb, 0, none⟩), .pointer (some ⟨yb, 0, none⟩), .pointer (some ⟨ob, 0, none⟩)]) App Res (upd d_ 5) x36 x37 x38 x39 (.bool true) (.func (.func 98) #[] #[.pointer (some ⟨pb, 0, none⟩), .pointer (some ⟨yb, 0, none⟩), .pointer (some ⟨ob, 0, none⟩)]) x42 x43 x44 x45 x46 x47 x48 w1) := ⟨fun h => ⟨(F.o10 h).1, rfl⟩, F.o9, F.o8, F.o11, F.o12, F.f0, F.f1, F.f2, F.f3, F.f4, fun _ => rfl, F.f6, F.f7, F.f8, F.bl, F.ap, F.f10, F.f11, F.f12⟩
      clear F
      go_simp
      exact HK.out _ _ ⟨_, _, _, _, _, _, _, _, _, _, _, _, _, rfl, HF.out⟩
    · obtain rfl := F.f4 (by simp [hdep])
      have HF : Hid (OnF A av k cv f (.func (.func 98) #[] #[.pointer (some ⟨pb, 0, none⟩), .pointer (some ⟨yb, 0, none⟩), .pointer (some ⟨ob, 0, none⟩)]) App Res (upd d_ 6) x36 x37 x38 x39 (.bool true) x41 (.slice av k cv) x43 x44 x45 x46 x47 x48 w1) := ⟨F.o10, fun h => ⟨(F.o9 h).1, rfl⟩, F.o8, F.o11, F.o12, F.f0, F.f1, F.f2, F.f3, F.f4, F.f5, fun _ => rfl, F.f7, F.f8, F.bl, F.ap, F.f10, F.f11, F.f12⟩
      clear F
      go_simp
      exact HK.out _ _ ⟨_, _, _, _, _, _, _, _, _, _, _, _, _, rfl, HF.out⟩
    · obtain rfl := F.f4 (by simp [hdep])
      have HF : Hid (OnF A av k cv f (.func (.func 98) #[] #[.pointer (some ⟨pb, 0, none⟩), .pointer (some ⟨yb, 0, none⟩), .pointer (some ⟨ob, 0, none⟩)]) App Res (upd d_ 7) x36 x37 x38 x39 (.bool true) x41 x42 (.int .i64 f) x44 x45 x46 x47 x48 w1) := ⟨F.o10, F.o9, fun _ => rfl, F.o11, F.o12, F.f0, F.f1, F.f2, F.f3, F.f4, F.f5, F.f6, fun _ => rfl, F.f8, F.bl, F.ap, F.f10, F.f11, F.f12⟩
      clear F
      go_simp
      exact HK.out _ _ ⟨_, _, _, _, _, _, _, _, _, _, _, _, _, rfl, HF.out⟩
    · have n9 := F.n9 hd_
      have n10 := F.n10 (.inr (.inl n9))
      obtain rfl := F.f4 (by simp [hdep])
      obtain rfl := F.f7 (by simp [hdep])
      have HF : Hid (OnF A av k cv f (.func (.func 98) #[] #[.pointer (some ⟨pb, 0, none⟩), .pointer (some ⟨yb, 0, none⟩), .pointer (some ⟨ob, 0, none⟩)]) App Res (upd d_ 8) x36 x37 x38 x39 (.bool true) x41 x42 (.int .i64 f) (.slice (some ⟨w1.heap.size, 0, none⟩) 1 1) x45 x46 x47 x48 (w1.alloc (.cells #[.int .i64 f] 3))) := ⟨F.o10, fun h => ⟨rfl, (F.o9 h).2⟩, fun _ => (show _ from (by simp [hdep] : d_ 7 = true)), F.o11, F.o12, F.f0, F.f1, F.f2, F.f3, F.f4, F.f5, F.f6, F.f7, fun _ _ => ⟨_, rfl, World.alloc_heap_new w1 _⟩, fun h => (F.bl n9).alloc (F.bl n9).size _, fun h => (by have h2 : d_ 9 = true := h; rw [n9] at h2; cases h2), fun h => (by have h2 : d_ 10 = true := h; rw [n10] at h2; cases h2), F.f11, F.f12⟩
      clear F
      go_simp
      exact HK.out _ _ ⟨_, _, _, _, _, _, _, _, _, _, _, _, _, rfl, HF.out⟩
    · have n9 : d_ 9 = false := hd_
      have n10 := F.n10 (.inr (.inl n9))
      obtain rfl := F.f4 (by simp [hdep])
      obtain rfl := F.f6 (by simp [hdep])
      obtain ⟨g, e44, hg⟩ := F.f8 (by simp [hdep]) n9
      subst e44
      obtain ⟨v', w', hr, hap⟩ := kap.out w1 g (F.bl n9) hg
      rw [if_pos (by rfl)]
      refine wpIn_append_run (.tmp 42) (.tmp 44) 76 rfl _ _ _ _ rfl rfl hr ?_
      exact HK.out _ _ ⟨_, _, _, _, _, _, _, _, _, _, _, _, _, rfl, ⟨fun h => ⟨rfl, (F.o10 h).2⟩, fun _ => ⟨(show _ from (by simp [hdep] : d_ 8 = true)), (show _ from (by simp [hdep] : d_ 6 = true))⟩, F.o8, F.o11, F.o12, F.f0, F.f1, F.f2, F.f3, F.f4, F.f5, F.f6, F.f7, fun _ h => (by simp [upd] at h), fun h => (by simp [upd] at h), fun _ _ => hap, fun h => (by have h2 : d_ 10 = true := h; rw [n10] at h2; cases h2), F.f11, F.f12⟩⟩
    · have n10 : d_ 10 = false := hd_
      obtain rfl := F.f4 (by simp [hdep])
      obtain rfl := F.f5 (by simp [hdep])
      have hc := kon.out _ w1 (F.ap (by simp [hdep]) n10)
      have HF := Lib.hid F
      clear F
      go_simp
      refine ⟨trivial, rfl, hc.mono ?_⟩
      rintro e w5 ⟨r, rfl, hres⟩
      exact HK.out _ _ ⟨_, _, _, _, _, _, _, _, _, _, _, _, _, rfl, ⟨fun _ => ⟨(show _ from (by simp [hdep] : d_ 9 = true)), (show _ from (by simp [hdep] : d_ 5 = true))⟩, HF.out.o9, HF.out.o8, fun _ => rfl, HF.out.o12, HF.out.f0, HF.out.f1, HF.out.f2, HF.out.f3, HF.out.f4, HF.out.f5, HF.out.f6, HF.out.f7, fun _ h => (by have h2 : d_ 9 = false := h; simp [hdep] at h2), fun h => (by have h2 : d_ 9 = false := h; simp [hdep] at h2), fun _ h => (by simp [upd] at h), fun _ => ⟨r, rfl, hres⟩, fun h => (by have h2 : d_ 10 = true := HF.out.o11 h; rw [n10] at h2; cases h2), HF.out.f12⟩⟩
    · obtain rfl := F.f4 (by simp [hdep])
      obtain ⟨r, e46, hres⟩ := F.f10 (by simp [hdep])
      subst e46
      have HF : Hid (OnF A av k cv f (.func (.func 98) #[] #[.pointer (some ⟨pb, 0, none⟩), .pointer (some ⟨yb, 0, none⟩), .pointer (some ⟨ob, 0, none⟩)]) App Res (upd d_ 11) x36 x37 x38 x39 (.bool true) x41 x42 x43 x44 x45 (.bool r) (.bool (!r)) x48 w1) := ⟨F.o10, F.o9, F.o8, fun _ => (show _ from (by simp [hdep] : d_ 10 = true)), fun _ => rfl, F.f0, F.f1, F.f2, F.f3, F.f4, F.f5, F.f6, F.f7, F.f8, F.bl, F.ap, F.f10, fun _ => ⟨r, rfl, rfl⟩, fun h => (by have h2 : d_ 11 = true := F.o12 h; have h3 : d_ 11 = false := hd_; rw [h3] at h2; cases h2)⟩
      clear F hres
      go_simp
      exact HK.out _ _ ⟨_, _, _, _, _, _, _, _, _, _, _, _, _, rfl, HF.out⟩
    · obtain rfl := F.f4 (by simp [hdep])
      obtain ⟨r, e46, e47⟩ := F.f11 (by simp [hdep])
      subst e47
      have HF : Hid (OnF A av k cv f (.func (.func 98) #[] #[.pointer (some ⟨pb, 0, none⟩), .pointer (some ⟨yb, 0, none⟩), .pointer (some ⟨ob, 0, none⟩)]) App Res (upd d_ 12) x36 x37 x38 x39 (.bool true) x41 x42 x43 x44 x45 x46 (.bool (!r)) (.bool (!r)) w1) := ⟨F.o10, F.o9, F.o8, F.o11, fun _ => (show _ from (by simp [hdep] : d_ 11 = true)), F.f0, F.f1, F.f2, F.f3, F.f4, F.f5, F.f6, F.f7, F.f8, F.bl, F.ap, F.f10, F.f11, fun _ => rfl⟩
      clear F e46
      go_simp
      exact HK.out _ _ ⟨_, _, _, _, _, _, _, _, _, _, _, _, _, rfl, HF.out⟩
  · rintro d_ a_ w1 hall ⟨x36, x37, x38, x39, x40, x41, x42, x43, x44, x45, x46, x47, x48, rfl, F⟩
    have hall' : ∀ k, k < 13 → d_ k = true := hall
    obtain ⟨r, e46, hres⟩ := F.f10 (hall' 10 (by decide))
    obtain ⟨r', e46', e47⟩ := F.f11 (hall' 11 (by decide))
    rw [e46] at e46'
    cases e46'
    exact HQ.out _ _ _ _ _ _ _ _ _ _ _ _ _ r w1 hres ((F.f12 (hall' 12 (by decide))).symm.trans e47)
end Go.Proofs.Ytnfhlbmapfoifaa
namespace Go.Proofs.Ytnfhlbmapfoifaa
open Go.RowKit
set_option linter.unusedVariables false
theorem same_later {M M' : Nat → Prop} {A B C : World} (h : Same M A B) (k : Same M' B C) (hm : ∀ i, M' i → M i ∨ A.heap.size ≤ i) : Same M A C :=
  ⟨k.os.trans h.os, k.tape.trans h.tape, k.output.trans h.output, Nat.le_trans h.size k.size, fun i hi hn => (k.block i (Nat.lt_of_lt_of_le hi h.size) (fun e => by
    rcases hm i e with h' | h'
    · exact hn h'
    · omega)).trans (h.block i hi hn)⟩
theorem own_base {w : World} {b b' : Nat} {e : TypeId} {s n : Nat} {v : Value} {xs : List Value} (h : w.ownsRow b e s v n xs) (hb : b' ≤ b) : w.ownsRow b' e s v n xs := by
  obtain ⟨h1, h2⟩ := h
  refine ⟨h1, ?_⟩
  rcases h2 with h2 | ⟨g, cap, cur, hv, hg, r⟩
  · exact .inl h2
  · exact .inr ⟨g, cap, cur, hv, by omega, r⟩
abbrev selfV (pb yb ob : Nat) : Value := .func (.func 98) #[] #[.pointer (some ⟨pb, 0, none⟩), .pointer (some ⟨yb, 0, none⟩), .pointer (some ⟨ob, 0, none⟩)]
/-- What holds throughout. -/
structure OnC (W : World) (M : Nat → Prop) (l pb : Nat) (A : World) (C : Nat → Prop) : Prop where
  same : Same M W A
  y : A.heap[W.heap.size]? = some (.cells #[.func (.yield l) #[] #[]] 109 (0, 0))
  o : A.heap[W.heap.size + 1]? = some (.cells #[selfV pb W.heap.size (W.heap.size + 1)] 109 (0, 0))
  cy : ¬ C W.heap.size
  co : ¬ C (W.heap.size + 1)
  old : ∀ k, k < W.heap.size → C k
  bd : ∀ k, C k → k < A.heap.size
theorem OnC.below {W : World} {M : Nat → Prop} {l pb : Nat} {A B : World} {C : Nat → Prop} (h : OnC W M l pb A C) (hb : Below A.heap.size A B) : OnC W M l pb B C :=
  ⟨h.same.trans (Same.of_below _ hb), (hb.block _ (heap_lt h.y)).trans h.y, (hb.block _ (heap_lt h.o)).trans h.o, h.cy, h.co, h.old, fun k hk => Nat.lt_of_lt_of_le (h.bd k hk) hb.size⟩
/-- What is handed over: the i-th way, in memory of its own. -/
def WayOk (p : Prs) (B0 : Nat) (i : Nat) (v : Array Value) (A : World) (K : Nat → Prop) : Prop :=
  ∃ x vc, (waysL p)[i]? = some x ∧ v = #[vc] ∧ A.ownsRow B0 3 1 vc x.length (x.map (Value.int .i64)) ∧ K = fun k => vc.ownBlock = some k
/-- How a call that goes on from some cards may end. -/
def OnPost (W : World) (M : Nat → Prop) (l pb N : Nat) (J Jx : Nat → World → (Nat → Prop) → Prop) (A : World) (C : Nat → Prop) (k i1 : Nat) (r : Bool) (A' : World) : Prop :=
  (r = true → ∃ C' : Nat → Prop, OnC W M l pb A' C' ∧ J i1 A' C' ∧ A.heap.size ≤ A'.heap.size ∧ ∀ b, b < A.heap.size → ¬ C b → ¬ C' b ∧ KeptTo 3 k A A' b) ∧
  (r = false → ∃ (C' : Nat → Prop) (i : Nat), i < N ∧ Jx (i + 1) A' C')
theorem onW_zero (p : Prs) (pre : List Int) : onW p 0 pre = if isWayB p pre then [pre] else [] := rfl
def onF (p : Prs) (d : Nat) (pre : List Int) (f : Int) : List (List Int) := if f = (pre.length : Int) then [] else onW p d (pre ++ [f])
theorem onW_succ (p : Prs) (d : Nat) (pre : List Int) : onW p (d + 1) pre = (froms p.cards.length).flatMap (onF p d pre) := rfl
/-- How many ways the first numbers give. -/
def cntF (p : Prs) (d : Nat) (pre : List Int) (j : Nat) : Nat := (((froms p.cards.length).take j).flatMap (onF p d pre)).length
theorem froms_len (n : Nat) : (froms n).length = n + 1 := by simp [froms]
theorem froms_get {n j : Nat} (h : j < n + 1) : (froms n)[j]'(by rw [froms_len]; exact h) = (j : Int) - 1 := by simp [froms]
theorem cntF_succ (p : Prs) (d : Nat) (pre : List Int) {j : Nat} (h : j < p.cards.length + 1) : cntF p d pre (j + 1) = cntF p d pre j + (onF p d pre ((j : Int) - 1)).length := by
  unfold cntF
  rw [List.take_succ_eq_append_getElem (by rw [froms_len]; exact h), froms_get h, List.flatMap_append]
  simp
theorem cntF_all (p : Prs) (d : Nat) (pre : List Int) : cntF p d pre (p.cards.length + 1) = (onW p (d + 1) pre).length := by
  unfold cntF
  rw [List.take_of_length_le (by rw [froms_len]; exact Nat.le_refl _), onW_succ]
theorem onF_at (p : Prs) (d : Nat) (pre : List Int) {j i : Nat} {x : List Int} (h : j < p.cards.length + 1) (hx : (onF p d pre ((j : Int) - 1))[i]? = some x) : (onW p (d + 1) pre)[cntF p d pre j + i]? = some x := by
  have e : froms p.cards.length = (froms p.cards.length).take j ++ (((j : Int) - 1) :: (froms p.cards.length).drop (j + 1)) := by
    have h1 := (List.take_append_drop j (froms p.cards.length)).symm
    rw [List.drop_eq_getElem_cons (by rw [froms_len]; exact h), froms_get h] at h1
    exact h1
  rw [onW_succ]
  conv => lhs; rw [e]
  rw [List.flatMap_append, List.flatMap_cons]
  unfold cntF
  rw [List.getElem?_append_right (by omega), Nat.add_sub_cancel_left, List.getElem?_append_left (List.getElem?_eq_some_iff.1 hx).1]
  exact hx
section
variable {p : Prs} {a : Option Addr} {cap bp g pb l : Nat} {W : World} {M : Nat → Prop} {J Jx : Nat → World → (Nat → Prop) → Prop}
/-- What the walk is given. -/
structure OnH (p : Prs) (a : Option Addr) (cap bp g pb l : Nat) (W : World) (M : Nat → Prop) (J Jx : Nat → World → (Nat → Prop) → Prop) : Prop where
  hv : p.valid = true
  pile : ∀ A, Same M W A → A.heap[pb]? = some (.cells #[.pointer (some ⟨bp, 0, none⟩)] 79 (0, 0)) ∧ PileP A bp p a cap g
  hJ : ∀ i A B C, J i A C → Same (fun k => ¬ C k) A B → J i B C
  hY : ∀ i v A C K, i < (waysL p).length → WayOk p W.heap.size i v A K → (∀ k, K k → ¬ C k) → J i A C → YieldAt Fence.wide 0 Try.prog l v A fun e B => Same (mayC M W.heap.size C) A B ∧
      ∃ C' : Nat → Prop, (∀ k, k < W.heap.size → C' k) ∧ (∀ k, C' k → k < B.heap.size) ∧ (∀ k, C' k → C k ∨ K k ∨ A.heap.size ≤ k) ∧ ((e = .returned (.bool true) ∧ J (i + 1) B C') ∨ (e = .returned (.bool false) ∧ Jx (i + 1) B C'))
theorem OnH.jb (H : OnH p a cap bp g pb l W M J Jx) {i : Nat} {A B : World} {C : Nat → Prop} (h : J i A C) (hb : Below A.heap.size A B) : J i B C := H.hJ _ _ _ _ h (Same.of_below _ hb)
/-- A way that is whole is handed over. -/
theorem yield_leaf (H : OnH p a cap bp g pb l W M J Jx) {pre : List Int} {i0 : Nat} {A w : World} {C : Nat → Prop} {vc : Value} (hi : (waysL p)[i0]? = some pre) (hC : OnC W M l pb A C) (hj : J i0 A C) (hb : Below A.heap.size A w)
    (hown : w.ownsRow A.heap.size 3 1 vc pre.length (pre.map (Value.int .i64))) (k : Nat) :
    YieldAt Fence.wide 0 Try.prog l #[vc] w fun e w' => ∃ r, e = .returned (.bool r) ∧ OnPost W M l pb (waysL p).length J Jx A C k (i0 + 1) r w' := by
  have hN : i0 < (waysL p).length := (List.getElem?_eq_some_iff.1 hi).1
  have hWA := hC.same.size
  have hlt : ∀ k, vc.ownBlock = some k → A.heap.size ≤ k := fun k hk => (hown.lt k hk).1
  obtain ⟨fn, tmps, assign, body, hy, hR⟩ := H.hY i0 #[vc] w C (fun k => vc.ownBlock = some k) hN ⟨pre, vc, hi, rfl, own_base hown hWA, rfl⟩ (fun k hk hck => by have := hlt k hk; have := hC.bd k hck; omega) (H.jb hj hb)
  refine ⟨fn, tmps, assign, body, hy, hR.mono ?_⟩
  rintro e B ⟨hs, C', h1, h2, h3, h4⟩
  have hyA := heap_lt hC.y
  have hoA := heap_lt hC.o
  have hout : ∀ b, b < A.heap.size → ¬ C b → ¬ C' b := fun b hb' hn hc => by
    rcases h3 b hc with h | h | h
    · exact hn h
    · have := hlt b h; omega
    · have := hb.size; omega
  have hblk : ∀ b, b < A.heap.size → ¬ C b → B.heap[b]? = A.heap[b]? := fun b hb' hn => (hs.block b (by have := hb.size; omega) (fun hm => hn hm.1)).trans (hb.block b hb')
  rcases h4 with ⟨rfl, hj'⟩ | ⟨rfl, hj'⟩
  · refine ⟨true, rfl, fun _ => ⟨C', ⟨?_, (hblk _ hyA hC.cy).trans hC.y, (hblk _ hoA hC.co).trans hC.o, hout _ hyA hC.cy, hout _ hoA hC.co, h1, h2⟩, hj', by have := hb.size; have := hs.size; omega, fun b hb' hn => ⟨hout b hb' hn, KeptTo.of_eq (hblk b hb' hn)⟩⟩, fun h => by cases h⟩
    exact same_later (hC.same.trans (Same.of_below _ hb)) hs (fun i hm => by
      by_cases hi' : i < W.heap.size
      · exact .inl (hm.2 hi')
      · exact .inr (by omega))
  · exact ⟨false, rfl, (fun h => by cases h), fun _ => ⟨C', i0, hN, hj'⟩⟩
end
end Go.Proofs.Ytnfhlbmapfoifaa
namespace Go.Proofs.Ytnfhlbmapfoifaa
open Go.RowKit
set_option linter.unusedVariables false
section
variable {p : Prs} {a : Option Addr} {cap bp g pb l : Nat} {W : World} {M : Nat → Prop} {J Jx : Nat → World → (Nat → Prop) → Prop}
theorem good_of {n : Nat} {pre : List Int} (h1 : pre.length = n) (h2 : ∀ x ∈ pre, -1 ≤ x ∧ x < n) : GoodW n pre := ⟨h1, h2⟩
set_option maxRecDepth 100000 in
set_option maxHeartbeats 2000000 in
theorem on_leaf (H : OnH p a cap bp g pb l W M J Jx) {pre : List Int} {i0 : Nat} {A : World} {C : Nat → Prop} {v : Value} (hl : pre.length = p.cards.length) (hr : ∀ x ∈ pre, -1 ≤ x ∧ x < p.cards.length)
    (hidx : ∀ (j : Nat) x, (onW p 0 pre)[j]? = some x → (waysL p)[i0 + j]? = some x) (hC : OnC W M l pb A C) (hown : A.ownsRow (W.heap.size + 2) 3 1 v pre.length (pre.map (Value.int .i64))) (hj : J i0 A C) :
    CallsIn Fence.wide 0 Try.prog 98 #[v, .pointer (some ⟨pb, 0, none⟩), .pointer (some ⟨W.heap.size, 0, none⟩), .pointer (some ⟨W.heap.size + 1, 0, none⟩)] A fun e A' => ∃ r, e = .returned (.bool r) ∧ OnPost W M l pb (waysL p).length J Jx A C pre.length (i0 + (onW p 0 pre).length) r A' := by
  have hn5 := (valid_parts H.hv).1
  obtain ⟨av, cv, rfl, hcv, _⟩ := own_slice hown
  have hpl := H.pile A hC.same
  have k1 : A.cell? ⟨pb, 0, none⟩ = some (.pointer (some ⟨bp, 0, none⟩)) := by rw [cell_of_heap hpl.1]; rfl
  obtain ⟨c0, _⟩ := hpl.2.cells
  have K1 := Lib.hid k1
  have K2 : Hid (A.cell? ⟨W.heap.size, 0, none⟩ = some (.func (.yield l) #[] #[])) := by rw [Hid, cell_of_heap hC.y]; rfl
  have hints : IsInts A av pre := own_ints hown
  have hgood := good_of hl hr
  have HIS : Hid (∀ w, Below A.heap.size A w → Calls Try.prog 82 #[.pointer (some ⟨bp, 0, none⟩), .slice av pre.length cv] w fun e w' => e = .returned (.bool (isWayB p pre)) ∧ Below w.heap.size w w') :=
    fun w hb => isWay_any H.hv hgood (hpl.2.mono hb) (hints.mono hb)
  have hkn : ((pre.length : Int) == (p.cards.length : Int)) = true := by rw [hl]; simp
  have HH := Lib.hid (And.intro H (And.intro hidx (And.intro hC (And.intro hown hj))))
  have HLN := Lib.hid hl
  have hl5 : pre.length ≤ 5 := by omega
  clear hpl hints hgood hC hown hj hidx H hl
  refine callsIn_wide.2 ?_
  go_enter Try.func98, Try.ntmps98
  go_wp2_with fail
  clear k1 c0 hkn
  cases hw : isWayB p pre
  · rw [hw] at HIS
    have HW := Lib.hid hw
    clear hw
    refine wpIn_wide.1 (leafN K1 HIS ?_)
    intro x16 x17 x18 x19 x20 x21 x22 x23 x24 x25 x5 w' hb e5
    subst e5
    have HB := Lib.hid hb
    clear hb
    go_wp2_with fail
    go_ret
    obtain ⟨H, _, hC, _, hj⟩ := HH.out
    refine ⟨true, rfl, fun _ => ⟨C, hC.below HB.out, ?_, HB.out.size, fun b hb hn => ⟨hn, KeptTo.of_eq (HB.out.block b hb)⟩⟩, fun h => by cases h⟩
    have e0 : (onW p 0 pre).length = 0 := by rw [onW_zero, HW.out]; rfl
    rw [e0]
    exact H.jb hj HB.out
  · rw [hw] at HIS
    have HW := Lib.hid hw
    clear hw
    have e1 : onW p 0 pre = [pre] := by rw [onW_zero, HW.out]; rfl
    have HCL : Hid (∀ w, Below A.heap.size A w → Calls Try.prog 99 #[.slice av pre.length cv] w fun e w' => ∃ v', e = .returned v' ∧ w'.ownsRow A.heap.size 3 1 v' pre.length (pre.map (Value.int .i64)) ∧ Below w.heap.size w w') :=
      fun w hb => (clone99 (own_below HH.out.2.2.2.1 hb) (by omega)).mono fun _ _ ⟨v', h1, h2, h3⟩ => ⟨v', h1, own_base h2 hb.size, h3⟩
    have hi : (waysL p)[i0]? = some pre := HH.out.2.1 0 pre (by rw [e1]; rfl)
    have HY : Hid (∀ w vc, Below A.heap.size A w → w.ownsRow A.heap.size 3 1 vc pre.length (pre.map (Value.int .i64)) → YieldAt Fence.wide 0 Try.prog l #[vc] w fun e w' => ∃ r, e = .returned (.bool r) ∧ OnPost W M l pb (waysL p).length J Jx A C pre.length (i0 + 1) r w') :=
      fun w vc hb hown => yield_leaf HH.out.1 hi HH.out.2.2.1 HH.out.2.2.2.2 hb hown _
    have E1 := Lib.hid e1
    clear hi e1
    refine wpIn_wide.1 (leafY K1 K2 HIS HCL HY ?_)
    intro x16 x17 x18 x19 x20 x21 x22 x23 x24 x25 x5 r w' hres e5
    subst e5
    have HR := Lib.hid hres
    clear hres
    go_wp2_with fail
    go_ret
    refine ⟨r, rfl, ?_⟩
    have e2 : (onW p 0 pre).length = 1 := by rw [E1.out]; rfl
    rw [e2]
    exact HR.out
end
end Go.Proofs.Ytnfhlbmapfoifaa
namespace Go.Proofs.Ytnfhlbmapfoifaa
open Go.RowKit
set_option linter.unusedVariables false
section
variable {p : Prs} {a : Option Addr} {cap bp g pb l : Nat} {W : World} {M : Nat → Prop} {J Jx : Nat → World → (Nat → Prop) → Prop}
/-- A card more has been appended. -/
structure AppF (W : World) (M : Nat → Prop) (l pb : Nat) (J : Nat → World → (Nat → Prop) → Prop) (wr : World) (C : Nat → Prop) (pre : List Int) (f : Int) (i1 : Nat) (v' : Value) (w' : World) : Prop where
  on : OnC W M l pb w' C
  own : w'.ownsRow (W.heap.size + 2) 3 1 v' (pre ++ [f]).length ((pre ++ [f]).map (Value.int .i64))
  nc : ∀ g, v'.ownBlock = some g → ¬ C g
  j : J i1 w' C
  sz : wr.heap.size ≤ w'.heap.size
  kept : ∀ b, b < wr.heap.size → ¬ C b → KeptTo 3 pre.length wr w' b
theorem app_more (H : OnH p a cap bp g pb l W M J Jx) {pre : List Int} {f : Int} {i1 : Nat} {wr w : World} {C : Nat → Prop} {av : Option Addr} {cv gx : Nat} (hk : pre.length ≤ 16) (hC : OnC W M l pb wr C) (hj : J i1 wr C)
    (hown : wr.ownsRow (W.heap.size + 2) 3 1 (.slice av pre.length cv) pre.length (pre.map (Value.int .i64))) (hnc : ∀ g, (Value.slice av pre.length cv).ownBlock = some g → ¬ C g) (hb : Below wr.heap.size wr w) (hg : w.heap[gx]? = some (.cells #[.int .i64 f] 3 (0, 0))) :
    ∃ v' w', (Builtin.append_ #[76, 76] 76 #[.slice av pre.length cv, .slice (some ⟨gx, 0, none⟩) 1 1]).run Try.prog w = .ok v' w' ∧ AppF W M l pb J wr C pre f i1 v' w' := by
  obtain ⟨i0, hi0, hz0, hz1, hz2⟩ := info_parts infoI
  have hsz2 : W.heap.size + 2 ≤ wr.heap.size := by have := heap_lt hC.o; omega
  obtain ⟨v', w', hr, h2, h3, h4, h5⟩ := append_keep (P := Try.prog) (w := w) (W.heap.size + 2) 76 76 3 i0 _ 8 Try.underlying76 hi0 hz0 hz1 hz2 rfl _ _ _ (own_below hown hb) ⟨gx, 0, none⟩ (.int .i64 f) (by rw [cell_of_heap hg]; rfl) rfl (by simp [maxLen]; omega) (by omega) (by have := hb.size; omega)
  have hrow : ∀ k, (Value.slice av pre.length cv).ownBlock = some k → W.heap.size + 2 ≤ k ∧ k < wr.heap.size := fun k hk => hown.lt k hk
  have hC' := hC.below hb
  refine ⟨v', w', hr, ⟨?_, ?_, ?_, ?_, by have := hb.size; have := h3.size; omega, ?_⟩⟩
  · refine ⟨hC'.same.grown h3 (fun k hk => .inr (by have := hrow k hk; omega)), (h3.block _ (heap_lt hC'.y) (fun e => by have := hrow _ e.symm; omega)).trans hC'.y, (h3.block _ (heap_lt hC'.o) (fun e => by have := hrow _ e.symm; omega)).trans hC'.o, hC.cy, hC.co, hC.old, fun k hk => Nat.lt_of_lt_of_le (hC'.bd k hk) h3.size⟩
  · have e : (pre ++ [f]).length = pre.length + 1 := by simp
    have e2 : (pre ++ [f]).map (Value.int .i64) = pre.map (Value.int .i64) ++ [.int .i64 f] := by simp
    rw [e, e2]
    exact h2
  · intro g hg'
    rcases h4 with h4 | h4
    · rw [h4] at hg'; exact hnc g hg'
    · rw [h4] at hg'
      cases hg'
      exact fun hc => by have := hC'.bd _ hc; omega
  · refine H.hJ _ _ _ _ (H.jb hj hb) ?_
    exact ⟨h3.os, h3.tape, h3.output, h3.size, fun k hk hn => h3.block k hk (fun e => hn (hnc k e.symm))⟩
  · intro b hb' hn
    have hbw : b < w.heap.size := by have := hb.size; omega
    have h1 : KeptTo 3 pre.length wr w b := KeptTo.of_eq (hb.block b hb')
    by_cases e : (Value.slice av pre.length cv).ownBlock = some b
    · exact h1.trans (h5 b e)
    · exact h1.trans (KeptTo.of_eq (h3.block b hbw (fun e' => e e'.symm)))
set_option maxRecDepth 100000 in
set_option maxHeartbeats 4000000 in
theorem on_any (H : OnH p a cap bp g pb l W M J Jx) : ∀ (d : Nat) (pre : List Int) (i0 : Nat) (A : World) (C : Nat → Prop) (v : Value), pre.length + d = p.cards.length → (∀ x ∈ pre, -1 ≤ x ∧ x < p.cards.length) →
    (∀ (j : Nat) x, (onW p d pre)[j]? = some x → (waysL p)[i0 + j]? = some x) → OnC W M l pb A C → A.ownsRow (W.heap.size + 2) 3 1 v pre.length (pre.map (Value.int .i64)) → (∀ g, v.ownBlock = some g → ¬ C g) → J i0 A C →
    CallsIn Fence.wide 0 Try.prog 98 #[v, .pointer (some ⟨pb, 0, none⟩), .pointer (some ⟨W.heap.size, 0, none⟩), .pointer (some ⟨W.heap.size + 1, 0, none⟩)] A fun e A' => ∃ r, e = .returned (.bool r) ∧ OnPost W M l pb (waysL p).length J Jx A C pre.length (i0 + (onW p d pre).length) r A' := by
  intro d
  induction d with
  | zero => exact fun pre i0 A C v hl hr hidx hC hown _ hj => on_leaf H hl hr hidx hC hown hj
  | succ d ih =>
    intro pre i0 A C v hl hr hidx hC hown hnc hj
    have hn5 := (valid_parts H.hv).1
    obtain ⟨av, cv, rfl, hcv, _⟩ := own_slice hown
    have HIH := Lib.hid ih
    have hk5 : pre.length ≤ 4 := by omega
    have hkn : ((pre.length : Int) == (p.cards.length : Int)) = false := by simp; omega
    have hpl := H.pile A hC.same
    have k1 : A.cell? ⟨pb, 0, none⟩ = some (.pointer (some ⟨bp, 0, none⟩)) := by rw [cell_of_heap hpl.1]; rfl
    obtain ⟨c0, _⟩ := hpl.2.cells
    have HLD := Lib.hid hl
    have HH := Lib.hid (And.intro H (And.intro hr (And.intro hidx (And.intro hC (And.intro hown (And.intro hnc hj))))))
    have hn0 : (0 : Int) ≤ (p.cards.length : Int) := by omega
    clear hpl hr hidx hC hown hnc hj H hl ih
    refine callsIn_wide.2 ?_
    go_enter Try.func98, Try.ntmps98
    go_wp2_with fail
    clear k1 c0 hkn
    go_loopw [6] (fun q wr => ∃ (j : Nat) (C' : Nat → Prop), j ≤ p.cards.length + 1 ∧ q = .int .i64 ((j : Int) - 1) ∧ Hid (OnC W M l pb wr C' ∧ J (i0 + cntF p d pre j) wr C' ∧ A.heap.size ≤ wr.heap.size ∧ ∀ b, b < A.heap.size → ¬ C b → ¬ C' b ∧ KeptTo 3 pre.length A wr b)) (fun q _ => p.cards.length + 1 - (intOf q + 1).toNat)
    case atStart => exact ⟨0, C, by omega, rfl, HH.out.2.2.2.1, HH.out.2.2.2.2.2.2, Nat.le_refl _, fun b _ hn => ⟨hn, KeptTo.of_eq rfl⟩⟩
    case round =>
      obtain ⟨j, C', hjn, rfl, HR⟩ := hrel
      obtain ⟨H, hr, hidx, hC0, hown0, hnc0, _⟩ := HH.out
      obtain ⟨hC, hj, hsz, hkp⟩ := HR.out
      have hpl := H.pile wr hC.same
      have k1 : wr.cell? ⟨pb, 0, none⟩ = some (.pointer (some ⟨bp, 0, none⟩)) := by rw [cell_of_heap hpl.1]; rfl
      obtain ⟨c0, _⟩ := hpl.2.cells
      by_cases hlt : j < p.cards.length + 1
      · have hj1 : (j : Int) - 1 < (p.cards.length : Int) := by omega
        have hj0 : -1 ≤ (j : Int) - 1 := by omega
        have HCS := Lib.hid (cntF_succ p d pre hlt)
        have hown : wr.ownsRow (W.heap.size + 2) 3 1 (.slice av pre.length cv) pre.length (pre.map (Value.int .i64)) := own_keptTo hown0 (fun b hb => (hkp b (hown0.lt b hb).2 (hnc0 b hb)).2)
        have hnc : ∀ g, (Value.slice av pre.length cv).ownBlock = some g → ¬ C' g := fun b hb => (hkp b (hown0.lt b hb).2 (hnc0 b hb)).1
        obtain ⟨f, hf⟩ : ∃ f : Int, f = (j : Int) - 1 := ⟨_, rfl⟩
        rw [← hf] at hj1 hj0 ⊢
        by_cases hfk : f = (pre.length : Int)
        · have hb : (f != (pre.length : Int)) = false := by simpa using hfk
          have HF : Hid (onF p d pre ((j : Int) - 1) = []) := by rw [Hid, ← hf]; unfold onF; rw [if_pos hfk]
          have HJF := Lib.hid hf
          clear hf hfk hown hnc hpl hC hj hkp hown0 hnc0 hC0 hidx H hr
          go_wp2_with fail
          clear k1 c0
          refine wpIn_wide.1 (onSkip (k := pre.length) (by omega) hb ?_)
          intro x36 x37 x38 x39 x40 x41 x42 x43 x44 x45 x46 x47 x48 w' hbw e48
          subst e48
          have HB := Lib.hid hbw
          clear hbw
          go_wp2_with fail
          go_roundw
          case rel =>
            obtain ⟨hC, hj, hsz, hkp⟩ := HR.out
            refine ⟨j + 1, C', by omega, by rw [HJF.out]; congr 1; omega, hC.below HB.out, ?_, by have := HB.out.size; omega, fun b hb hn => ⟨(hkp b hb hn).1, (hkp b hb hn).2.trans (KeptTo.of_eq (HB.out.block b (by omega)))⟩⟩
            rw [HCS.out, HF.out]
            exact HH.out.1.jb hj HB.out
          case measure => have := HJF.out; simp [intOf]; omega
        · have hb : (f != (pre.length : Int)) = true := by simpa using hfk
          have HF : Hid (onF p d pre ((j : Int) - 1) = onW p d (pre ++ [f])) := by rw [Hid, ← hf]; unfold onF; rw [if_neg hfk]
          have HO : Hid (∀ w, Below wr.heap.size wr w → w.cell? ⟨W.heap.size + 1, 0, none⟩ = some (selfV pb W.heap.size (W.heap.size + 1))) := fun w hbw => by
            have := (hC.below hbw).o
            rw [cell_of_heap this]; rfl
          have HO' : Hid (∀ v w, AppF W M l pb J wr C' pre f (i0 + cntF p d pre j) v w → w.cell? ⟨W.heap.size + 1, 0, none⟩ = some (selfV pb W.heap.size (W.heap.size + 1))) := fun v w h => by
            have := h.on.o
            rw [cell_of_heap this]; rfl
          have HAP : Hid (∀ (w : World) (gx : Nat), Below wr.heap.size wr w → w.heap[gx]? = some (.cells #[.int .i64 f] 3 (0, 0)) → ∃ v' w', (Builtin.append_ #[76, 76] 76 #[.slice av pre.length cv, .slice (some ⟨gx, 0, none⟩) 1 1]).run Try.prog w = .ok v' w' ∧ AppF W M l pb J wr C' pre f (i0 + cntF p d pre j) v' w') :=
            fun w gx hbw hg => app_more H (by omega) hC hj hown hnc hbw hg
          have HON : Hid (∀ v w, AppF W M l pb J wr C' pre f (i0 + cntF p d pre j) v w → CallsIn Fence.wide 0 Try.prog 98 #[v, .pointer (some ⟨pb, 0, none⟩), .pointer (some ⟨W.heap.size, 0, none⟩), .pointer (some ⟨W.heap.size + 1, 0, none⟩)] w fun e w' => ∃ r, e = .returned (.bool r) ∧ OnPost W M l pb (waysL p).length J Jx wr C' pre.length (i0 + cntF p d pre (j + 1)) r w') := fun v w h => by
            refine (HIH.out (pre ++ [f]) (i0 + cntF p d pre j) w C' v (by have := HLD.out; simp; omega) (fun x hx => ?_) (fun i x hx => ?_) h.on h.own h.nc h.j).mono ?_
            · rcases List.mem_append.1 hx with hx | hx
              · exact hr x hx
              · rw [List.mem_singleton.1 hx]; exact ⟨hj0, hj1⟩
            · have := hidx (cntF p d pre j + i) x (onF_at p d pre hlt (by rw [HF.out]; exact hx))
              rwa [← Nat.add_assoc] at this
            · rintro e w' ⟨r, rfl, h1, h2⟩
              refine ⟨r, rfl, fun hr' => ?_, h2⟩
              obtain ⟨C2, k1, k2, k3, k4⟩ := h1 hr'
              rw [Nat.add_assoc, ← HF.out, ← HCS.out] at k2
              refine ⟨C2, k1, k2, Nat.le_trans h.sz k3, fun b hb' hn => ?_⟩
              have := k4 b (Nat.lt_of_lt_of_le hb' h.sz) hn
              exact ⟨this.1, (h.kept b hb' hn).trans (this.2.mono (by simp))⟩
          have HJF := Lib.hid hf
          clear hf hfk hown hnc hpl hC hj hkp hown0 hnc0 hC0 hidx H hr
          go_wp2_with fail
          clear k1 c0
          refine wpIn_wide.1 (onMore (k := pre.length) (by omega) hb HO HO' HAP HON ?_)
          intro x36 x37 x38 x39 x40 x41 x42 x43 x44 x45 x46 x47 x48 r w' hres e48
          subst e48
          have HRS := Lib.hid hres
          clear hres
          cases r with
          | true =>
            go_wp2_with fail
            go_roundw
            case rel =>
              obtain ⟨_, _, hsz, hkp⟩ := HR.out
              obtain ⟨C2, k1, k2, k3, k4⟩ := HRS.out.1 rfl
              refine ⟨j + 1, C2, by omega, by rw [HJF.out]; congr 1; omega, k1, k2, Nat.le_trans hsz k3, fun b hb hn => ?_⟩
              have h1 := hkp b hb hn
              have h2 := k4 b (by omega) h1.1
              exact ⟨h2.1, h1.2.trans h2.2⟩
            case measure => have := HJF.out; simp [intOf]; omega
          | false =>
            go_wp2_with fail
            go_ret
            exact ⟨false, rfl, (fun h => by cases h), fun _ => HRS.out.2 rfl⟩
      · obtain rfl : j = p.cards.length + 1 := by omega
        have e1 : ((p.cards.length + 1 : Nat) : Int) - 1 = (p.cards.length : Int) := by omega
        rw [e1]
        have HX : Hid (i0 + cntF p d pre (p.cards.length + 1) = i0 + (onW p (d + 1) pre).length) := by rw [Hid, cntF_all]
        clear hC hj hkp hown0 hnc0 hC0 hidx H hr hpl e1
        go_wp2_with fail
        go_ret
        refine ⟨true, rfl, fun _ => ?_, fun h => by cases h⟩
        rw [← HX.out]
        exact ⟨C', HR.out⟩
end
end Go.Proofs.Ytnfhlbmapfoifaa
