/- The reference's Later: each minute is tried. The plain law of both. Far too long, or not. WalkOrders: the walk. -/
import Derived.Test.YtphefhpmbahagaaT32
import Derived.Test.YtphefhpmbahagaaT24
import Derived.Lib.MinMax
import Derived.Test.YtphefhpmbahagaaT50
namespace Go.Proofs.Ytphefhpmbahagaa
open Go.RowKit
set_option linter.unusedVariables false
set_option linter.unusedSimpArgs false

/-! ### the plain law -/
section
variable (n : Nat) (W L H S : Nat → Int)
/-- When one leaves for view i,if one sets out at d. -/
def fwT (d : Int) : Nat → Int
  | 0 => d
  | i + 1 => max (fwT d i + W i) (L i) + S i
def bwU : Nat → Int
  | 0 => 1440
  | k + 1 => (if k = 0 then H (n - 1 - k) else min (H (n - 1 - k)) (bwU k - S (n - 1 - k))) - W (n - 1 - k)
def fwOk (d : Int) : Prop := ∀ i,i < n → max (fwT W L S d i + W i) (L i) ≤ H i
theorem fw_le {d : Int} (h : fwOk n W L H S d) : ∀ k,0 < k → k ≤ n → fwT W L S d (n - k) ≤ bwU n W H S k
  | 0,h0,_ => by omega
  | k + 1,_,hk => by
    have hi := h (n - 1 - k) (by omega)
    have e : n - (k + 1) = n - 1 - k := by omega
    rw [e,bwU]
    by_cases h0 : k = 0
    · rw [if_pos h0]; omega
    · rw [if_neg h0]
      have ih := fw_le h k (by omega) (by omega)
      have e2 : n - k = (n - 1 - k) + 1 := by omega
      rw [e2,fwT] at ih
      omega
theorem fw_back {d d' : Int} (h : fwOk n W L H S d) (hd : d' ≤ bwU n W H S n) : ∀ i,i < n → fwT W L S d' i ≤ bwU n W H S (n - i)
  | 0,_ => hd
  | i + 1,hi => by
    have ih := fw_back h hd i (by omega)
    have e : n - i = (n - (i + 1)) + 1 := by omega
    have e2 : n - 1 - (n - (i + 1)) = i := by omega
    have hk := fw_le n W L H S h (n - (i + 1)) (by omega) (by omega)
    rw [show n - (n - (i + 1)) = i + 1 by omega,fwT] at hk
    rw [e,bwU,e2,if_neg (by omega)] at ih
    rw [fwT]
    omega
theorem fw_iff {d : Int} (h : fwOk n W L H S d) (hn : 0 < n) (d' : Int) : fwOk n W L H S d' ↔ d' ≤ bwU n W H S n := by
  constructor
  · intro h'
    have := fw_le n W L H S h' n hn (Nat.le_refl _)
    rwa [Nat.sub_self] at this
  · intro hd i hi
    have h1 := fw_back n W L H S h hd i hi
    have h2 := h i hi
    have e : n - i = (n - 1 - i) + 1 := by omega
    have e2 : n - 1 - (n - 1 - i) = i := by omega
    rw [e,bwU,e2] at h1
    have h3 : fwT W L S d' i + W i ≤ H i := by
      split at h1 <;> omega
    omega
end
/-- A tour with another dawn. -/
def Tr.on (t : Tr) (d : Int) : Tr := { t with dawn := d }
theorem on_way (t : Tr) (d : Int) (o : List Int) : ∀ k,k ≤ o.length → (((t.on d).at_ o k).1 = (t.at_ o k).1)
  | 0,_ => rfl
  | k + 1,h => by rw [at_succ _ (by omega),at_succ _ (by omega)]; rfl
theorem on_wayAt (t : Tr) (d : Int) {o : List Int} {k : Nat} (h : k ≤ o.length) : (t.on d).wayAt o k = t.wayAt o k := by
  unfold Tr.wayAt
  rw [on_way t d o k h]
  rfl
theorem on_fw (t : Tr) (d : Int) (o : List Int) : ∀ k,k ≤ o.length → ((t.on d).at_ o k).2.2 = fwT (fun i => (t.wayAt o i).hi) (fun i => (gs t.light (gi o i).toNat).lo) (fun i => (gs t.stay (gi o i).toNat).hi) d k
  | 0,_ => rfl
  | k + 1,h => by
    rw [at_succ _ (by omega),fwT,← on_fw t d o k (by omega),← on_wayAt t d (show k ≤ o.length by omega)]
    rfl
theorem on_sure (t : Tr) (d : Int) (o : List Int) : (t.on d).is true o = true ↔ fwOk o.length (fun i => (t.wayAt o i).hi) (fun i => (gs t.light (gi o i).toNat).lo) (fun i => (gs t.light (gi o i).toNat).hi) (fun i => (gs t.stay (gi o i).toNat).hi) d := by
  rw [← inL_is,Tr.inL,List.all_eq_true]
  constructor
  · intro h i hi
    have := h i (by simp [hi])
    rw [mins_at _ _ hi,← minAt_max,on_wayAt t d (Nat.le_of_lt hi)] at this
    simp only [decide_eq_true_eq] at this
    rw [← on_fw t d o i (Nat.le_of_lt hi)]
    exact this
  · intro h i hi
    have hi : i < o.length := by simpa using hi
    have := h i hi
    rw [← on_fw t d o i (Nat.le_of_lt hi)] at this
    rw [mins_at _ _ hi,← minAt_max,on_wayAt t d (Nat.le_of_lt hi)]
    simp only [decide_eq_true_eq]
    exact this
theorem until_bw (t : Tr) (o : List Int) : ∀ k,t.untilA o k = bwU o.length (fun i => (t.wayAt o i).hi) (fun i => (gs t.light (gi o i).toNat).hi) (fun i => (gs t.stay (gi o i).toNat).hi) k
  | 0 => rfl
  | k + 1 => by rw [Tr.untilA,bwU,← until_bw t o k]; rfl
theorem on_self (t : Tr) : t.on t.dawn = t := rfl
/-- Just the dawns that are not after the last one that can be are sure. -/
theorem sure_until {t : Tr} {o : List Int} (h : t.is true o = true) (hn : 0 < o.length) (d : Int) : (t.on d).is true o = true ↔ d ≤ t.untilA o o.length := by
  rw [on_sure,until_bw]
  exact fw_iff _ _ _ _ _ ((on_sure t t.dawn o).1 h) hn d
theorem later_at {t : Tr} {o : List Int} (hE : openE t (t.order o) = 0) (h : t.is true o = true) {d : Int} (hd : (t.on d).is true o = true) (hl : d = 1440 ∨ (d ≤ 1440 ∧ (t.on (d + 1)).is true o = false)) : laterE t o = (d - t.dawn,0) := by
  have hm : min (t.untilA o o.length) 1440 = d := by
    by_cases hn : 0 < o.length
    · have h1 := (sure_until h hn d).1 hd
      rcases hl with rfl | ⟨h2,h3⟩
      · omega
      · have h4 : ¬ (d + 1 ≤ t.untilA o o.length) := fun e => by rw [(sure_until h hn (d + 1)).2 e] at h3; cases h3
        omega
    · have h0 : o = [] := List.eq_nil_of_length_eq_zero (by omega)
      subst h0
      have h5 : ∀ d,(t.on d).is true [] = true := fun d => rfl
      rcases hl with rfl | ⟨h2,h3⟩
      · rfl
      · rw [h5] at h3; cases h3
  unfold laterE
  rw [if_pos hE,if_pos h,hm]
theorem on_fit {t : Tr} (hF : t.Fit) {d : Int} (h : 0 ≤ d ∧ d ≤ 1440) : (t.on d).Fit := ⟨hF.n,h,hF.ways,hF.stay,hF.light,hF.rows,hF.okf,hF.oks,hF.okl,hF.okw⟩
theorem on_tr {t : Tr} {A : TrA} {w : World} (h : IsTr w t A) (d : Int) : IsTr w (t.on d) A := ⟨h.frm,h.ways,h.stay,h.light⟩
theorem walkedE_cases (t : Tr) (o : List Int) : (openE t (t.order o) ≠ 0 ∧ walkedE t o = (0,openE t (t.order o))) ∨ (openE t (t.order o) = 0 ∧ t.is true o = true ∧ walkedE t o = (2,0)) ∨ (openE t (t.order o) = 0 ∧ t.is true o = false ∧ (walkedE t o).1 ≠ 2 ∧ (walkedE t o).2 = 0) := by
  by_cases h : openE t (t.order o) = 0
  · cases hs : t.is true o
    · refine .inr (.inr ⟨h,rfl,?_,?_⟩)
      · unfold walkedE; rw [if_pos h,hs]
        cases t.is false o <;> simp
      · unfold walkedE; rw [if_pos h]
    · exact .inr (.inl ⟨h,rfl,by unfold walkedE; rw [if_pos h,hs]; rfl⟩)
  · exact .inl ⟨h,by unfold walkedE; rw [if_neg h]⟩

/-! ### the walk -/
def max5 (a b c d e : Nat) : Nat := max (max (max (max a b) c) d) e
@[local go_sem high] theorem run_max5 {P : Program} (w : World) (ts : Array TypeId) (t : TypeId) (a b c d e : Nat) :
    (Builtin.max_ ts t #[.int .i64 (a : Int),.int .i64 (b : Int),.int .i64 (c : Int),.int .i64 (d : Int),.int .i64 (e : Int)]).run P w = .ok (.int .i64 ((max5 a b c d e : Nat) : Int)) w := by
  have h : ∀ x y : Nat,Builtin.max2 (.int .i64 (x : Int)) (.int .i64 (y : Int)) = pure (.int .i64 ((max x y : Nat) : Int)) := fun x y => by
    have e : (if (y : Int) > (x : Int) then (y : Int) else (x : Int)) = ((max x y : Nat) : Int) := by split <;> omega
    simp only [Builtin.max2,e]
  simp only [Builtin.max_,List.foldlM,h,Sem.run_bind,Sem.run_pure,Result.andThen_ok]
  rfl
/-- The longest of the lists. -/
def mostW (l : List (List Spn)) (m : Nat) : Nat := l.foldl (fun m r => max m r.length) m
theorem mostW_step {l : List (List Spn)} {m k : Nat} (hk : k < l.length) : mostW (l.take (k + 1)) m = max (mostW (l.take k) m) (gw l k).length := by
  have e : l.take (k + 1) = l.take k ++ [gw l k] := by rw [List.take_add_one,gw_at hk]; rfl
  rw [mostW,e,List.foldl_append]
  rfl
theorem mostW_le : ∀ (l : List (List Spn)) (m n : Nat),mostW l m ≤ n ↔ m ≤ n ∧ ∀ r ∈ l,r.length ≤ n
  | [],m,n => by simp [mostW]
  | x :: r,m,n => by
    have := mostW_le r (max m x.length) n
    rw [mostW] at this ⊢
    rw [List.foldl_cons,this]
    simp only [List.mem_cons,forall_eq_or_imp,Nat.max_le,and_assoc]
def Tr.most (t : Tr) (o : List Int) : Nat := mostW t.ways (max5 t.frm.length t.ways.length t.stay.length t.light.length o.length)
theorem most_small {t : Tr} {o : List Int} (h : t.most o ≤ 16) : t.Small ∧ o.length ≤ 16 := by
  have h := (mostW_le _ _ _).1 h
  have h1 := h.1
  unfold max5 at h1
  exact ⟨⟨by omega,by omega,by omega,by omega,h.2⟩,by omega⟩
def Tr.great (t : Tr) (o : List Int) (m : Nat) : Bool := decide (16 < t.most o) || (decide (m < t.frm.length) && t.valid)
theorem great_no {t : Tr} {o : List Int} {m : Nat} (h : t.great o m = false) : t.Small ∧ o.length ≤ 16 ∧ ¬(m < t.frm.length ∧ t.valid = true) := by
  unfold Tr.great at h
  simp only [Bool.or_eq_false_iff,decide_eq_false_iff_not,Bool.and_eq_false_iff] at h
  have h2 := most_small (t := t) (o := o) (by omega)
  refine ⟨h2.1,h2.2,fun hh => ?_⟩
  rcases h.2 with h3 | h3
  · exact h3 hh.1
  · rw [hh.2] at h3; cases h3
set_option maxRecDepth 100000 in
set_option maxHeartbeats 4000000 in
theorem great12 {t : Tr} {A : TrA} {w : World} (ht : IsTr w t A) {o : List Int} {a : Option Addr} {cap : Nat} (hw : t.ways.length ≤ 9223372036854775807) (m : Nat) :
    Calls Try.prog 12 #[t.v A,.slice a o.length cap,.int .i64 m] w fun e w' => e = .returned (.bool (t.great o m)) ∧ Below w.heap.size w w' := by
  have hb : Below w.heap.size w (w.alloc (.cells (t.cells A) 25)) := (Below.refl _ w).alloc (Nat.le_refl _) _
  have hq := World.alloc_heap_new w (.cells (t.cells A) 25)
  have HB := Lib.hid (And.intro hb (And.intro hq (ht.mono hb)))
  have HM : Hid (t.most o = mostW t.ways (max5 t.frm.length t.ways.length t.stay.length t.light.length o.length)) := rfl
  clear hb hq ht
  go_enter Try.func12,Try.ntmps12
  go_upto_region 1 with fail
  revert HB
  generalize (w.alloc (.cells (t.cells A) 25)) = w1
  intro HB
  obtain ⟨k0,k1,k2,k3,k4⟩ := tr_cells HB.out.2.1
  go_wp2_with fail
  revert HM
  generalize max5 t.frm.length t.ways.length t.stay.length t.light.length o.length = M0
  intro HM
  go_loopw [7,9,28] (fun v7 _ i wr => ∃ k : Nat,k ≤ t.ways.length ∧ i = .int .i64 k ∧ wr = w1 ∧ ∃ M : Nat,v7 = .int .i64 M ∧ Hid (M = mostW (t.ways.take k) M0)) (fun _ _ i _ => t.ways.length - (intOf i).toNat)
  case atStart => exact ⟨0,by omega,rfl,rfl,M0,rfl,rfl⟩
  case round =>
    obtain ⟨k,hk,rfl,rfl,M,rfl,HMk⟩ := hrel
    by_cases hlt : k < t.ways.length
    · obtain ⟨wb,wo,w0,ai,ci,c0,_⟩ := HB.out.2.2.ways k hlt
      rw [w0] at k2
      have HS := Lib.hid (mostW_step (m := M0) hlt)
      go_wp2_with fail
      go_roundw
      case rel => exact ⟨k + 1,by omega,by go_num,(by first | trivial | rfl),max M (gw t.ways k).length,by go_num,by rw [Hid,HMk.out,HS.out]⟩
      case measure => simp [intOf]; omega
    · obtain rfl : k = t.ways.length := by omega
      have HM2 : Hid (t.most o = M) := by rw [Hid,HM.out,HMk.out,List.take_length]
      clear HM HMk
      by_cases h16 : 16 < M
      · go_wp2_with fail
        go_ret
        refine ⟨ret_bool ?_,HB.out.1⟩
        rw [Tr.great,HM2.out]
        simp [h16]
      · have HSM := Lib.hid (most_small (t := t) (o := o) (by rw [HM2.out]; omega)).1
        by_cases hf : m < t.frm.length
        · go_wp2_with fail
          refine (rtour33 HB.out.2.2 HSM.out).mono ?_
          rintro e w3 ⟨rfl,hb3⟩
          have HB3 := Lib.hid (HB.out.1.trans (hb3.mono HB.out.1.size))
          clear hb3
          go_wp2_with fail
          go_ret
          refine ⟨ret_bool ?_,HB3.out⟩
          rw [Tr.great,HM2.out]
          first | (simp [h16,hf]; done) | (simp [h16,hf]; omega)
        · go_wp2_with fail
          go_ret
          refine ⟨ret_bool ?_,HB.out.1⟩
          rw [Tr.great,HM2.out]
          first | (simp [h16,hf]; done) | (simp [h16,hf]; omega)
end Go.Proofs.Ytphefhpmbahagaa

namespace Go.Proofs.Ytphefhpmbahagaa
open Go.RowKit
set_option linter.unusedVariables false
set_option linter.unusedSimpArgs false

end Go.Proofs.Ytphefhpmbahagaa
