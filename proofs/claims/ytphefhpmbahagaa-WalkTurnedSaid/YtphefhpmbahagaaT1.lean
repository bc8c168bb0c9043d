/- Spans and tours in memory; whether spans are valid. -/
import Derived.Test.YtphefhpmbahagaaWords
namespace Go.Proofs.Ytphefhpmbahagaa
open Go.RowKit
set_option linter.unusedVariables false
set_option linter.unusedSimpArgs false

abbrev Spn.arr (s : Spn) : Array Value := #[.int .i64 s.lo,.int .i64 s.hi]
abbrev Spn.v (s : Spn) : Value := .agg s.arr
/-- A slice's array holds these spans; these lists of spans. -/
def IsSpns (w : World) (a : Option Addr) (l : List Spn) : Prop :=
  ∀ i,i < l.length → ∃ b off,a = some ⟨b,off,none⟩ ∧ w.cell? ⟨b,off + i * 2,none⟩ = some (.int .i64 (gs l i).lo) ∧ w.cell? ⟨b,off + i * 2 + 1,none⟩ = some (.int .i64 (gs l i).hi)
theorem IsSpns.mono {w w' : World} {a : Option Addr} {l : List Spn} (h : IsSpns w a l) (hb : Below w.heap.size w w') : IsSpns w' a l := fun i hi => by
  obtain ⟨b,off,ha,h0,h1⟩ := h i hi
  exact ⟨b,off,ha,cell_stays hb h0,cell_stays hb h1⟩
def IsWays (w : World) (a : Option Addr) (l : List (List Spn)) : Prop :=
  ∀ i,i < l.length → ∃ b off,a = some ⟨b,off,none⟩ ∧ ∃ ai ci,w.cell? ⟨b,off + i,none⟩ = some (.slice ai (gw l i).length ci) ∧ IsSpns w ai (gw l i)
theorem IsWays.mono {w w' : World} {a : Option Addr} {l : List (List Spn)} (h : IsWays w a l) (hb : Below w.heap.size w w') : IsWays w' a l := fun i hi => by
  obtain ⟨b,off,ha,ai,ci,h0,h1⟩ := h i hi
  exact ⟨b,off,ha,ai,ci,cell_stays hb h0,h1.mono hb⟩
/-- Where a tour's lists lie. -/
structure TrA where
  af : Option Addr
  cf : Nat
  aw : Option Addr
  cw : Nat
  as_ : Option Addr
  cs : Nat
  al : Option Addr
  cl : Nat
structure IsTr (w : World) (t : Tr) (A : TrA) : Prop where
  frm : IsSpns w A.af t.frm
  ways : IsWays w A.aw t.ways
  stay : IsSpns w A.as_ t.stay
  light : IsSpns w A.al t.light
theorem IsTr.mono {w w' : World} {t : Tr} {A : TrA} (h : IsTr w t A) (hb : Below w.heap.size w w') : IsTr w' t A := ⟨h.frm.mono hb,h.ways.mono hb,h.stay.mono hb,h.light.mono hb⟩
abbrev Tr.cells (t : Tr) (A : TrA) : Array Value := #[.int .i64 t.dawn,.slice A.af t.frm.length A.cf,.slice A.aw t.ways.length A.cw,.slice A.as_ t.stay.length A.cs,.slice A.al t.light.length A.cl]
abbrev Tr.v (t : Tr) (A : TrA) : Value := .agg (t.cells A)
/-- No list is far too long. -/
structure Tr.Small (t : Tr) : Prop where
  frm : t.frm.length ≤ 16
  ways : t.ways.length ≤ 16
  stay : t.stay.length ≤ 16
  light : t.light.length ≤ 16
  rows : ∀ l ∈ t.ways,l.length ≤ 16
theorem tr_cells {w : World} {b : Nat} {t : Tr} {A : TrA} {ty : TypeId} (hq : w.heap[b]? = some (.cells (t.cells A) ty (0,0))) : w.cell? ⟨b,0,none⟩ = some (.int .i64 t.dawn) ∧ w.cell? ⟨b,1,none⟩ = some (.slice A.af t.frm.length A.cf) ∧
    w.cell? ⟨b,2,none⟩ = some (.slice A.aw t.ways.length A.cw) ∧ w.cell? ⟨b,3,none⟩ = some (.slice A.as_ t.stay.length A.cs) ∧ w.cell? ⟨b,4,none⟩ = some (.slice A.al t.light.length A.cl) := by
  refine ⟨?_,?_,?_,?_,?_⟩ <;> (rw [cell_of_heap hq]; rfl)

set_option maxHeartbeats 400000 in
theorem bad104 (s : Spn) (w : World) : Calls Try.prog 104 #[s.v] w fun e w' => e = .returned (.bool (!s.ok)) ∧ Below w.heap.size w w' := by
  have hb : Below w.heap.size w (w.alloc (.cells s.arr 33)) := (Below.refl _ w).alloc (Nat.le_refl _) _
  have HB := Lib.hid hb
  clear hb
  obtain ⟨lo,hi⟩ := s
  have e : Spn.ok ⟨lo,hi⟩ = (decide (0 ≤ lo) && decide (lo ≤ hi) && decide (hi ≤ 1440)) := rfl
  rw [e]
  clear e
  go_enter Try.func104,Try.ntmps104
  go_wp2
  all_goals go_ret
  all_goals refine ⟨ret_bool ?_,HB.out⟩
  all_goals (rw [Bool.eq_iff_iff]; first | (simp; done) | (simp; omega))
/-- The first span,from number k on,that is not valid; -1: none. -/
def badS : List Spn → Nat → Int
  | [],_ => -1
  | c :: r,k => if c.ok then badS r (k + 1) else (k : Int)
theorem badS_ge : ∀ (l : List Spn) (k : Nat),decide (0 ≤ badS l k) = !l.all Spn.ok
  | [],k => by simp [badS]
  | x :: r,k => by
    unfold badS
    cases h : x.ok
    · simp [h]
    · simp [h,badS_ge r (k + 1)]
theorem badS_step {l : List Spn} {k : Nat} (hk : k < l.length) : badS (l.drop k) k = if (gs l k).ok then badS (l.drop (k + 1)) (k + 1) else (k : Int) := by
  rw [List.drop_eq_getElem_cons hk]
  have : gs l k = l[k] := by simp [gs,hk]
  rw [this]
  rfl
set_option maxHeartbeats 1000000 in
theorem index110 {l : List Spn} {a : Option Addr} {cap : Nat} {w : World} (ha : IsSpns w a l) (hn : l.length ≤ 16) :
    Calls Try.prog 110 #[.slice a l.length cap,.func (.func 104) #[] #[]] w fun e w' => e = .returned (.int .i64 (badS l 0)) ∧ Below w.heap.size w w' := by
  go_enter Try.func110,Try.ntmps110
  go_wp2
  go_loopw [4,5,8] (fun _ _ i wr => ∃ k : Nat,k ≤ l.length ∧ i = .int .i64 k ∧ Hid (badS l 0 = badS (l.drop k) k) ∧ Below w.heap.size w wr) (fun _ _ i _ => l.length - (intOf i).toNat)
  case atStart => exact ⟨0,by omega,rfl,rfl,Below.refl _ _⟩
  case round =>
    obtain ⟨k,hkn,rfl,HL,hbr⟩ := hrel
    by_cases hlt : k < l.length
    · obtain ⟨b,off,rfl,l0,l1⟩ := (ha.mono hbr) k hlt
      have HB := Lib.hid (badS_step hlt)
      go_wp2_with fail
      refine (bad104 (gs l k) _).mono ?_
      rintro e w2 ⟨rfl,hb2⟩
      cases hok : (gs l k).ok
      · go_wp2
        go_ret
        refine ⟨ret_int ?_,hbr.trans (hb2.mono hbr.size)⟩
        rw [HL.out,HB.out,hok]; rfl
      · go_wp2
        go_roundw
        case rel => exact ⟨k + 1,by omega,by go_num,by rw [Hid,HL.out,HB.out,hok]; rfl,hbr.trans (hb2.mono hbr.size)⟩
        case measure => simp [intOf]; omega
    · go_wp2
      go_ret
      refine ⟨ret_int ?_,hbr⟩
      rw [HL.out,List.drop_of_length_le (by omega)]
      rfl
theorem contains105 {l : List Spn} {a : Option Addr} {cap : Nat} {w : World} (ha : IsSpns w a l) (hn : l.length ≤ 16) :
    Calls Try.prog 105 #[.slice a l.length cap,.func (.func 104) #[] #[]] w fun e w' => e = .returned (.bool (!l.all Spn.ok)) ∧ Below w.heap.size w w' := by
  have HG := Lib.hid (badS_ge l 0)
  have hcall := index110 (cap := cap) ha hn
  clear ha
  go_enter Try.func105,Try.ntmps105
  go_wp2_with fail
  refine hcall.mono ?_
  rintro e w2 ⟨rfl,hb2⟩
  go_wp2
  go_ret
  exact ⟨ret_bool HG.out,hb2⟩
set_option maxHeartbeats 1000000 in
theorem are97 {l : List Spn} {a : Option Addr} {cap : Nat} {w : World} (ha : IsSpns w a l) (hn : l.length ≤ 16) (n : Nat) (hn2 : n ≤ 16) :
    Calls Try.prog 97 #[.slice a l.length cap,.int .i64 n] w fun e w' => e = .returned (.bool (areB l n)) ∧ Below w.heap.size w w' := by
  have hmf : ∀ (fn : Fn) (first cap : Array Value) (w : World),(Instr.makeFunc fn first cap).run Try.prog w = .ok (.func fn first cap) w := fun _ _ _ _ => rfl
  have HC := Lib.hid (contains105 (cap := cap) ha hn)
  clear ha
  have HA : Hid (areB l n = (decide (l.length = n) && l.all Spn.ok)) := rfl
  by_cases h : l.length = n
  · subst h
    have hb : ((l.length : Int) == (l.length : Int)) = true := by simp
    go_enter Try.func97,Try.ntmps97
    go_wp2_with fail
    refine HC.out.mono ?_
    rintro e w2 ⟨rfl,hb2⟩
    go_wp2_with fail
    go_ret
    exact ⟨ret_bool (by rw [HA.out]; simp),hb2⟩
  · have hb : ((l.length : Int) == (n : Int)) = false := by simp; omega
    have HH := Lib.hid h
    clear h
    go_enter Try.func97,Try.ntmps97
    go_wp2_with fail
    all_goals try refine ⟨fun _ _ => trivial,?_⟩
    all_goals try go_wp2_with fail
    go_ret
    exact ⟨ret_bool (by rw [HA.out]; simp [HH.out]),Below.refl _ _⟩
set_option maxHeartbeats 1000000 in
theorem bad96 {l : List Spn} {a : Option Addr} {cap nb : Nat} {w : World} (ha : IsSpns w a l) (hn : l.length ≤ 16) (n : Nat) (hn2 : n ≤ 16) (hc : w.cell? ⟨nb,0,none⟩ = some (.int .i64 n)) :
    Calls Try.prog 96 #[.slice a l.length cap,.pointer (some ⟨nb,0,none⟩)] w fun e w' => e = .returned (.bool (!areB l n)) ∧ Below w.heap.size w w' := by
  have HC := Lib.hid (are97 (cap := cap) ha hn n hn2)
  clear ha
  go_enter Try.func96,Try.ntmps96
  go_wp2_with fail
  refine HC.out.mono ?_
  rintro e w2 ⟨rfl,hb2⟩
  go_wp2_with fail
  go_ret
  exact ⟨rfl,hb2⟩
/-- The first list,from number k on,that is not of n valid spans; -1: none. -/
def badW (n : Nat) : List (List Spn) → Nat → Int
  | [],_ => -1
  | c :: r,k => if areB c n then badW n r (k + 1) else (k : Int)
theorem badW_ge (n : Nat) : ∀ (l : List (List Spn)) (k : Nat),decide (0 ≤ badW n l k) = !l.all fun x => areB x n
  | [],k => by simp [badW]
  | x :: r,k => by
    unfold badW
    cases h : areB x n
    · simp [h]
    · simp [h,badW_ge n r (k + 1)]
theorem badW_step (n : Nat) {l : List (List Spn)} {k : Nat} (hk : k < l.length) : badW n (l.drop k) k = if areB (gw l k) n then badW n (l.drop (k + 1)) (k + 1) else (k : Int) := by
  rw [List.drop_eq_getElem_cons hk]
  have : gw l k = l[k] := by simp [gw,hk]
  rw [this]
  rfl
set_option maxHeartbeats 1000000 in
theorem index106 {l : List (List Spn)} {a : Option Addr} {cap nb : Nat} {w : World} (ha : IsWays w a l) (hn : l.length ≤ 32) (hr : ∀ x ∈ l,x.length ≤ 16) (n : Nat) (hn2 : n ≤ 16) (hc : w.cell? ⟨nb,0,none⟩ = some (.int .i64 n)) :
    Calls Try.prog 106 #[.slice a l.length cap,.func (.func 96) #[] #[.pointer (some ⟨nb,0,none⟩)]] w fun e w' => e = .returned (.int .i64 (badW n l 0)) ∧ Below w.heap.size w w' := by
  have HR : Hid (∀ k,k < l.length → (gw l k).length ≤ 16) := fun k hk => hr _ (by simp [gw,hk])
  clear hr
  go_enter Try.func106,Try.ntmps106
  go_wp2_with fail
  go_loopw [4,5,8] (fun _ _ i wr => ∃ k : Nat,k ≤ l.length ∧ i = .int .i64 k ∧ Hid (badW n l 0 = badW n (l.drop k) k) ∧ Hid (Below w.heap.size w wr)) (fun _ _ i _ => l.length - (intOf i).toNat)
  case atStart => exact ⟨0,by omega,rfl,rfl,Below.refl _ _⟩
  case round =>
    obtain ⟨k,hkn,rfl,HL,hbr⟩ := hrel
    by_cases hlt : k < l.length
    · obtain ⟨b,off,rfl,ai,ci,l0,l1⟩ := (ha.mono hbr.out) k hlt
      have HB := Lib.hid (badW_step n hlt)
      have HCL := Lib.hid (bad96 (cap := ci) l1 (HR.out k hlt) n hn2 (cell_stays hbr.out hc))
      clear l1
      go_wp2_with fail
      refine HCL.out.mono ?_
      rintro e w2 ⟨rfl,hb2⟩
      have HB2 := Lib.hid (hbr.out.trans (hb2.mono hbr.out.size))
      clear hb2
      cases hok : areB (gw l k) n
      · have HK := Lib.hid hok
        clear hok
        go_wp2_with fail
        go_ret
        refine ⟨ret_int ?_,HB2.out⟩
        rw [HL.out,HB.out,HK.out]; rfl
      · have HK := Lib.hid hok
        clear hok
        go_wp2_with fail
        go_roundw
        case rel => exact ⟨k + 1,by omega,by go_num,by rw [Hid,HL.out,HB.out,HK.out]; rfl,HB2.out⟩
        case measure => simp [intOf]; omega
    · go_wp2_with fail
      go_ret
      refine ⟨ret_int ?_,hbr.out⟩
      rw [HL.out,List.drop_of_length_le (by omega)]
      rfl
theorem contains98 {l : List (List Spn)} {a : Option Addr} {cap nb : Nat} {w : World} (ha : IsWays w a l) (hn : l.length ≤ 32) (hr : ∀ x ∈ l,x.length ≤ 16) (n : Nat) (hn2 : n ≤ 16) (hc : w.cell? ⟨nb,0,none⟩ = some (.int .i64 n)) :
    Calls Try.prog 98 #[.slice a l.length cap,.func (.func 96) #[] #[.pointer (some ⟨nb,0,none⟩)]] w fun e w' => e = .returned (.bool (!l.all fun x => areB x n)) ∧ Below w.heap.size w w' := by
  have HG := Lib.hid (badW_ge n l 0)
  have hcall := Lib.hid (index106 (cap := cap) ha hn hr n hn2 hc)
  clear ha
  go_enter Try.func98,Try.ntmps98
  go_wp2_with fail
  refine hcall.out.mono ?_
  rintro e w2 ⟨rfl,hb2⟩
  go_wp2
  go_ret
  exact ⟨ret_bool HG.out,hb2⟩
end Go.Proofs.Ytphefhpmbahagaa
