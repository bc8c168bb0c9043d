/- All ways, one after the other: the closure that goes on from some cards. All ways, one after the other: the closure that goes on from some cards: walked. All ways, one after the other: the closure that goes on from some cards: whatever cards. -/
import Derived.Test.YtnfhlbmapfoifaaW12
namespace Go.Proofs.Ytnfhlbmapfoifaa
open Go.RowKit
set_option linter.unusedVariables false

theorem same_later {M M' : Nat → Prop} {A B C : World} (h : Same M A B) (k : Same M' B C) (hm : ∀ i, M' i → M i ∨ A.heap.size ≤ i) : Same M A C :=
  ⟨k.os.trans h.os, k.tape.trans h.tape, k.output.trans h.output, Nat.le_trans h.size k.size, fun i hi hn => (k.block i (Nat.lt_of_lt_of_le hi h.size) (fun e => by
    rcases hm i e with h' | h'
    · exact hn h'
    · omega)).trans (h.block i hi hn)⟩
theorem own_base {w : World} {b b' : Nat} {e : TypeId} {s n : Nat} {v : Value} {xs : List Value} (h : w.ownsRow b e s v n xs) (hb : b' ≤ b) : w.ownsRow b' e s v n xs := by
  obtain ⟨h1, h2⟩ := h
  refine ⟨h1, ?_⟩
  rcases h2 with h2 | ⟨g, cap, cur, hv, hg, r⟩
  · exact .inl h2
  · exact .inr ⟨g, cap, cur, hv, by omega, r⟩
abbrev selfV (pb yb ob : Nat) : Value := .func (.func 98) #[] #[.pointer (some ⟨pb, 0, none⟩), .pointer (some ⟨yb, 0, none⟩), .pointer (some ⟨ob, 0, none⟩)]
/-- What holds throughout. -/
structure OnC (W : World) (M : Nat → Prop) (l pb : Nat) (A : World) (C : Nat → Prop) : Prop where
  same : Same M W A
  y : A.heap[W.heap.size]? = some (.cells #[.func (.yield l) #[] #[]] 109 (0, 0))
  o : A.heap[W.heap.size + 1]? = some (.cells #[selfV pb W.heap.size (W.heap.size + 1)] 109 (0, 0))
  cy : ¬ C W.heap.size
  co : ¬ C (W.heap.size + 1)
  old : ∀ k, k < W.heap.size → C k
  bd : ∀ k, C k → k < A.heap.size
theorem OnC.below {W : World} {M : Nat → Prop} {l pb : Nat} {A B : World} {C : Nat → Prop} (h : OnC W M l pb A C) (hb : Below A.heap.size A B) : OnC W M l pb B C :=
  ⟨h.same.trans (Same.of_below _ hb), (hb.block _ (heap_lt h.y)).trans h.y, (hb.block _ (heap_lt h.o)).trans h.o, h.cy, h.co, h.old, fun k hk => Nat.lt_of_lt_of_le (h.bd k hk) hb.size⟩
/-- What is handed over: the i-th way, in memory of its own. -/
def WayOk (p : Prs) (B0 : Nat) (i : Nat) (v : Array Value) (A : World) (K : Nat → Prop) : Prop :=
  ∃ x vc, (waysL p)[i]? = some x ∧ v = #[vc] ∧ A.ownsRow B0 3 1 vc x.length (x.map (Value.int .i64)) ∧ K = fun k => vc.ownBlock = some k
/-- How a call that goes on from some cards may end. -/
def OnPost (W : World) (M : Nat → Prop) (l pb N : Nat) (J Jx : Nat → World → (Nat → Prop) → Prop) (A : World) (C : Nat → Prop) (k i1 : Nat) (r : Bool) (A' : World) : Prop :=
  (r = true → ∃ C' : Nat → Prop, OnC W M l pb A' C' ∧ J i1 A' C' ∧ A.heap.size ≤ A'.heap.size ∧ ∀ b, b < A.heap.size → ¬ C b → ¬ C' b ∧ KeptTo 3 k A A' b) ∧
  (r = false → ∃ (C' : Nat → Prop) (i : Nat), i < N ∧ Jx (i + 1) A' C')
theorem onW_zero (p : Prs) (pre : List Int) : onW p 0 pre = if isWayB p pre then [pre] else [] := rfl
def onF (p : Prs) (d : Nat) (pre : List Int) (f : Int) : List (List Int) := if f = (pre.length : Int) then [] else onW p d (pre ++ [f])
theorem onW_succ (p : Prs) (d : Nat) (pre : List Int) : onW p (d + 1) pre = (froms p.cards.length).flatMap (onF p d pre) := rfl
/-- How many ways the first numbers give. -/
def cntF (p : Prs) (d : Nat) (pre : List Int) (j : Nat) : Nat := (((froms p.cards.length).take j).flatMap (onF p d pre)).length
theorem froms_len (n : Nat) : (froms n).length = n + 1 := by simp [froms]
theorem froms_get {n j : Nat} (h : j < n + 1) : (froms n)[j]'(by rw [froms_len]; exact h) = (j : Int) - 1 := by simp [froms]
theorem cntF_succ (p : Prs) (d : Nat) (pre : List Int) {j : Nat} (h : j < p.cards.length + 1) : cntF p d pre (j + 1) = cntF p d pre j + (onF p d pre ((j : Int) - 1)).length := by
  unfold cntF
  rw [List.take_succ_eq_append_getElem (by rw [froms_len]; exact h), froms_get h, List.flatMap_append]
  simp
theorem cntF_all (p : Prs) (d : Nat) (pre : List Int) : cntF p d pre (p.cards.length + 1) = (onW p (d + 1) pre).length := by
  unfold cntF
  rw [List.take_of_length_le (by rw [froms_len]; exact Nat.le_refl _), onW_succ]
theorem onF_at (p : Prs) (d : Nat) (pre : List Int) {j i : Nat} {x : List Int} (h : j < p.cards.length + 1) (hx : (onF p d pre ((j : Int) - 1))[i]? = some x) : (onW p (d + 1) pre)[cntF p d pre j + i]? = some x := by
  have e : froms p.cards.length = (froms p.cards.length).take j ++ (((j : Int) - 1) :: (froms p.cards.length).drop (j + 1)) := by
    have h1 := (List.take_append_drop j (froms p.cards.length)).symm
    rw [List.drop_eq_getElem_cons (by rw [froms_len]; exact h), froms_get h] at h1
    exact h1
  rw [onW_succ]
  conv => lhs; rw [e]
  rw [List.flatMap_append, List.flatMap_cons]
  unfold cntF
  rw [List.getElem?_append_right (by omega), Nat.add_sub_cancel_left, List.getElem?_append_left (List.getElem?_eq_some_iff.1 hx).1]
  exact hx

section
variable {p : Prs} {a : Option Addr} {cap bp g pb l : Nat} {W : World} {M : Nat → Prop} {J Jx : Nat → World → (Nat → Prop) → Prop}
/-- What the walk is given. -/
structure OnH (p : Prs) (a : Option Addr) (cap bp g pb l : Nat) (W : World) (M : Nat → Prop) (J Jx : Nat → World → (Nat → Prop) → Prop) : Prop where
  hv : p.valid = true
  pile : ∀ A, Same M W A → A.heap[pb]? = some (.cells #[.pointer (some ⟨bp, 0, none⟩)] 79 (0, 0)) ∧ PileP A bp p a cap g
  hJ : ∀ i A B C, J i A C → Same (fun k => ¬ C k) A B → J i B C
  hY : ∀ i v A C K, i < (waysL p).length → WayOk p W.heap.size i v A K → (∀ k, K k → ¬ C k) → J i A C → YieldAt Fence.wide 0 Try.prog l v A fun e B => Same (mayC M W.heap.size C) A B ∧
      ∃ C' : Nat → Prop, (∀ k, k < W.heap.size → C' k) ∧ (∀ k, C' k → k < B.heap.size) ∧ (∀ k, C' k → C k ∨ K k ∨ A.heap.size ≤ k) ∧ ((e = .returned (.bool true) ∧ J (i + 1) B C') ∨ (e = .returned (.bool false) ∧ Jx (i + 1) B C'))
theorem OnH.jb (H : OnH p a cap bp g pb l W M J Jx) {i : Nat} {A B : World} {C : Nat → Prop} (h : J i A C) (hb : Below A.heap.size A B) : J i B C := H.hJ _ _ _ _ h (Same.of_below _ hb)
/-- A way that is whole is handed over. -/
theorem yield_leaf (H : OnH p a cap bp g pb l W M J Jx) {pre : List Int} {i0 : Nat} {A w : World} {C : Nat → Prop} {vc : Value} (hi : (waysL p)[i0]? = some pre) (hC : OnC W M l pb A C) (hj : J i0 A C) (hb : Below A.heap.size A w)
    (hown : w.ownsRow A.heap.size 3 1 vc pre.length (pre.map (Value.int .i64))) (k : Nat) :
    YieldAt Fence.wide 0 Try.prog l #[vc] w fun e w' => ∃ r, e = .returned (.bool r) ∧ OnPost W M l pb (waysL p).length J Jx A C k (i0 + 1) r w' := by
  have hN : i0 < (waysL p).length := (List.getElem?_eq_some_iff.1 hi).1
  have hWA := hC.same.size
  have hlt : ∀ k, vc.ownBlock = some k → A.heap.size ≤ k := fun k hk => (hown.lt k hk).1
  obtain ⟨fn, tmps, assign, body, hy, hR⟩ := H.hY i0 #[vc] w C (fun k => vc.ownBlock = some k) hN ⟨pre, vc, hi, rfl, own_base hown hWA, rfl⟩ (fun k hk hck => by have := hlt k hk; have := hC.bd k hck; omega) (H.jb hj hb)
  refine ⟨fn, tmps, assign, body, hy, hR.mono ?_⟩
  rintro e B ⟨hs, C', h1, h2, h3, h4⟩
  have hyA := heap_lt hC.y
  have hoA := heap_lt hC.o
  have hout : ∀ b, b < A.heap.size → ¬ C b → ¬ C' b := fun b hb' hn hc => by
    rcases h3 b hc with h | h | h
    · exact hn h
    · have := hlt b h; omega
    · have := hb.size; omega
  have hblk : ∀ b, b < A.heap.size → ¬ C b → B.heap[b]? = A.heap[b]? := fun b hb' hn => (hs.block b (by have := hb.size; omega) (fun hm => hn hm.1)).trans (hb.block b hb')
  rcases h4 with ⟨rfl, hj'⟩ | ⟨rfl, hj'⟩
  · refine ⟨true, rfl, fun _ => ⟨C', ⟨?_, (hblk _ hyA hC.cy).trans hC.y, (hblk _ hoA hC.co).trans hC.o, hout _ hyA hC.cy, hout _ hoA hC.co, h1, h2⟩, hj', by have := hb.size; have := hs.size; omega, fun b hb' hn => ⟨hout b hb' hn, KeptTo.of_eq (hblk b hb' hn)⟩⟩, fun h => by cases h⟩
    exact same_later (hC.same.trans (Same.of_below _ hb)) hs (fun i hm => by
      by_cases hi' : i < W.heap.size
      · exact .inl (hm.2 hi')
      · exact .inr (by omega))
  · exact ⟨false, rfl, (fun h => by cases h), fun _ => ⟨C', i0, hN, hj'⟩⟩
end
end Go.Proofs.Ytnfhlbmapfoifaa

namespace Go.Proofs.Ytnfhlbmapfoifaa
open Go.RowKit
set_option linter.unusedVariables false

section
variable {p : Prs} {a : Option Addr} {cap bp g pb l : Nat} {W : World} {M : Nat → Prop} {J Jx : Nat → World → (Nat → Prop) → Prop}
theorem good_of {n : Nat} {pre : List Int} (h1 : pre.length = n) (h2 : ∀ x ∈ pre, -1 ≤ x ∧ x < n) : GoodW n pre := ⟨h1, h2⟩
set_option maxRecDepth 100000 in
set_option maxHeartbeats 2000000 in
theorem on_leaf (H : OnH p a cap bp g pb l W M J Jx) {pre : List Int} {i0 : Nat} {A : World} {C : Nat → Prop} {v : Value} (hl : pre.length = p.cards.length) (hr : ∀ x ∈ pre, -1 ≤ x ∧ x < p.cards.length)
    (hidx : ∀ (j : Nat) x, (onW p 0 pre)[j]? = some x → (waysL p)[i0 + j]? = some x) (hC : OnC W M l pb A C) (hown : A.ownsRow (W.heap.size + 2) 3 1 v pre.length (pre.map (Value.int .i64))) (hj : J i0 A C) :
    CallsIn Fence.wide 0 Try.prog 98 #[v, .pointer (some ⟨pb, 0, none⟩), .pointer (some ⟨W.heap.size, 0, none⟩), .pointer (some ⟨W.heap.size + 1, 0, none⟩)] A fun e A' => ∃ r, e = .returned (.bool r) ∧ OnPost W M l pb (waysL p).length J Jx A C pre.length (i0 + (onW p 0 pre).length) r A' := by
  have hn5 := (valid_parts H.hv).1
  obtain ⟨av, cv, rfl, hcv, _⟩ := own_slice hown
  have hpl := H.pile A hC.same
  have k1 : A.cell? ⟨pb, 0, none⟩ = some (.pointer (some ⟨bp, 0, none⟩)) := by rw [cell_of_heap hpl.1]; rfl
  obtain ⟨c0, _⟩ := hpl.2.cells
  have K1 := Lib.hid k1
  have K2 : Hid (A.cell? ⟨W.heap.size, 0, none⟩ = some (.func (.yield l) #[] #[])) := by rw [Hid, cell_of_heap hC.y]; rfl
  have hints : IsInts A av pre := own_ints hown
  have hgood := good_of hl hr
  have HIS : Hid (∀ w, Below A.heap.size A w → Calls Try.prog 82 #[.pointer (some ⟨bp, 0, none⟩), .slice av pre.length cv] w fun e w' => e = .returned (.bool (isWayB p pre)) ∧ Below w.heap.size w w') :=
    fun w hb => isWay_any H.hv hgood (hpl.2.mono hb) (hints.mono hb)
  have hkn : ((pre.length : Int) == (p.cards.length : Int)) = true := by rw [hl]; simp
  have HH := Lib.hid (And.intro H (And.intro hidx (And.intro hC (And.intro hown hj))))
  have HLN := Lib.hid hl
  have hl5 : pre.length ≤ 5 := by omega
  clear hpl hints hgood hC hown hj hidx H hl
  refine callsIn_wide.2 ?_
  go_enter Try.func98, Try.ntmps98
  go_wp2_with fail
  clear k1 c0 hkn
  cases hw : isWayB p pre
  · rw [hw] at HIS
    have HW := Lib.hid hw
    clear hw
    refine wpIn_wide.1 (leafN K1 HIS ?_)
    intro x16 x17 x18 x19 x20 x21 x22 x23 x24 x25 x5 w' hb e5
    subst e5
    have HB := Lib.hid hb
    clear hb
    go_wp2_with fail
    go_ret
    obtain ⟨H, _, hC, _, hj⟩ := HH.out
    refine ⟨true, rfl, fun _ => ⟨C, hC.below HB.out, ?_, HB.out.size, fun b hb hn => ⟨hn, KeptTo.of_eq (HB.out.block b hb)⟩⟩, fun h => by cases h⟩
    have e0 : (onW p 0 pre).length = 0 := by rw [onW_zero, HW.out]; rfl
    rw [e0]
    exact H.jb hj HB.out
  · rw [hw] at HIS
    have HW := Lib.hid hw
    clear hw
    have e1 : onW p 0 pre = [pre] := by rw [onW_zero, HW.out]; rfl
    have HCL : Hid (∀ w, Below A.heap.size A w → Calls Try.prog 99 #[.slice av pre.length cv] w fun e w' => ∃ v', e = .returned v' ∧ w'.ownsRow A.heap.size 3 1 v' pre.length (pre.map (Value.int .i64)) ∧ Below w.heap.size w w') :=
      fun w hb => (clone99 (own_below HH.out.2.2.2.1 hb) (by omega)).mono fun _ _ ⟨v', h1, h2, h3⟩ => ⟨v', h1, own_base h2 hb.size, h3⟩
    have hi : (waysL p)[i0]? = some pre := HH.out.2.1 0 pre (by rw [e1]; rfl)
    have HY : Hid (∀ w vc, Below A.heap.size A w → w.ownsRow A.heap.size 3 1 vc pre.length (pre.map (Value.int .i64)) → YieldAt Fence.wide 0 Try.prog l #[vc] w fun e w' => ∃ r, e = .returned (.bool r) ∧ OnPost W M l pb (waysL p).length J Jx A C pre.length (i0 + 1) r w') :=
      fun w vc hb hown => yield_leaf HH.out.1 hi HH.out.2.2.1 HH.out.2.2.2.2 hb hown _
    have E1 := Lib.hid e1
    clear hi e1
    refine wpIn_wide.1 (leafY K1 K2 HIS HCL HY ?_)
    intro x16 x17 x18 x19 x20 x21 x22 x23 x24 x25 x5 r w' hres e5
    subst e5
    have HR := Lib.hid hres
    clear hres
    go_wp2_with fail
    go_ret
    refine ⟨r, rfl, ?_⟩
    have e2 : (onW p 0 pre).length = 1 := by rw [E1.out]; rfl
    rw [e2]
    exact HR.out
end
end Go.Proofs.Ytnfhlbmapfoifaa

namespace Go.Proofs.Ytnfhlbmapfoifaa
open Go.RowKit
set_option linter.unusedVariables false

section
variable {p : Prs} {a : Option Addr} {cap bp g pb l : Nat} {W : World} {M : Nat → Prop} {J Jx : Nat → World → (Nat → Prop) → Prop}
/-- A card more has been appended. -/
structure AppF (W : World) (M : Nat → Prop) (l pb : Nat) (J : Nat → World → (Nat → Prop) → Prop) (wr : World) (C : Nat → Prop) (pre : List Int) (f : Int) (i1 : Nat) (v' : Value) (w' : World) : Prop where
  on : OnC W M l pb w' C
  own : w'.ownsRow (W.heap.size + 2) 3 1 v' (pre ++ [f]).length ((pre ++ [f]).map (Value.int .i64))
  nc : ∀ g, v'.ownBlock = some g → ¬ C g
  j : J i1 w' C
  sz : wr.heap.size ≤ w'.heap.size
  kept : ∀ b, b < wr.heap.size → ¬ C b → KeptTo 3 pre.length wr w' b
theorem app_more (H : OnH p a cap bp g pb l W M J Jx) {pre : List Int} {f : Int} {i1 : Nat} {wr w : World} {C : Nat → Prop} {av : Option Addr} {cv gx : Nat} (hk : pre.length ≤ 16) (hC : OnC W M l pb wr C) (hj : J i1 wr C)
    (hown : wr.ownsRow (W.heap.size + 2) 3 1 (.slice av pre.length cv) pre.length (pre.map (Value.int .i64))) (hnc : ∀ g, (Value.slice av pre.length cv).ownBlock = some g → ¬ C g) (hb : Below wr.heap.size wr w) (hg : w.heap[gx]? = some (.cells #[.int .i64 f] 3 (0, 0))) :
    ∃ v' w', (Builtin.append_ #[76, 76] 76 #[.slice av pre.length cv, .slice (some ⟨gx, 0, none⟩) 1 1]).run Try.prog w = .ok v' w' ∧ AppF W M l pb J wr C pre f i1 v' w' := by
  obtain ⟨i0, hi0, hz0, hz1, hz2⟩ := info_parts infoI
  have hsz2 : W.heap.size + 2 ≤ wr.heap.size := by have := heap_lt hC.o; omega
  obtain ⟨v', w', hr, h2, h3, h4, h5⟩ := append_keep (P := Try.prog) (w := w) (W.heap.size + 2) 76 76 3 i0 _ 8 Try.underlying76 hi0 hz0 hz1 hz2 rfl _ _ _ (own_below hown hb) ⟨gx, 0, none⟩ (.int .i64 f) (by rw [cell_of_heap hg]; rfl) rfl (by simp [maxLen]; omega) (by omega) (by have := hb.size; omega)
  have hrow : ∀ k, (Value.slice av pre.length cv).ownBlock = some k → W.heap.size + 2 ≤ k ∧ k < wr.heap.size := fun k hk => hown.lt k hk
  have hC' := hC.below hb
  refine ⟨v', w', hr, ⟨?_, ?_, ?_, ?_, by have := hb.size; have := h3.size; omega, ?_⟩⟩
  · refine ⟨hC'.same.grown h3 (fun k hk => .inr (by have := hrow k hk; omega)), (h3.block _ (heap_lt hC'.y) (fun e => by have := hrow _ e.symm; omega)).trans hC'.y, (h3.block _ (heap_lt hC'.o) (fun e => by have := hrow _ e.symm; omega)).trans hC'.o, hC.cy, hC.co, hC.old, fun k hk => Nat.lt_of_lt_of_le (hC'.bd k hk) h3.size⟩
  · have e : (pre ++ [f]).length = pre.length + 1 := by simp
    have e2 : (pre ++ [f]).map (Value.int .i64) = pre.map (Value.int .i64) ++ [.int .i64 f] := by simp
    rw [e, e2]
    exact h2
  · intro g hg'
    rcases h4 with h4 | h4
    · rw [h4] at hg'; exact hnc g hg'
    · rw [h4] at hg'
      cases hg'
      exact fun hc => by have := hC'.bd _ hc; omega
  · refine H.hJ _ _ _ _ (H.jb hj hb) ?_
    exact ⟨h3.os, h3.tape, h3.output, h3.size, fun k hk hn => h3.block k hk (fun e => hn (hnc k e.symm))⟩
  · intro b hb' hn
    have hbw : b < w.heap.size := by have := hb.size; omega
    have h1 : KeptTo 3 pre.length wr w b := KeptTo.of_eq (hb.block b hb')
    by_cases e : (Value.slice av pre.length cv).ownBlock = some b
    · exact h1.trans (h5 b e)
    · exact h1.trans (KeptTo.of_eq (h3.block b hbw (fun e' => e e'.symm)))
set_option maxRecDepth 100000 in
set_option maxHeartbeats 4000000 in
theorem on_any (H : OnH p a cap bp g pb l W M J Jx) : ∀ (d : Nat) (pre : List Int) (i0 : Nat) (A : World) (C : Nat → Prop) (v : Value), pre.length + d = p.cards.length → (∀ x ∈ pre, -1 ≤ x ∧ x < p.cards.length) →
    (∀ (j : Nat) x, (onW p d pre)[j]? = some x → (waysL p)[i0 + j]? = some x) → OnC W M l pb A C → A.ownsRow (W.heap.size + 2) 3 1 v pre.length (pre.map (Value.int .i64)) → (∀ g, v.ownBlock = some g → ¬ C g) → J i0 A C →
    CallsIn Fence.wide 0 Try.prog 98 #[v, .pointer (some ⟨pb, 0, none⟩), .pointer (some ⟨W.heap.size, 0, none⟩), .pointer (some ⟨W.heap.size + 1, 0, none⟩)] A fun e A' => ∃ r, e = .returned (.bool r) ∧ OnPost W M l pb (waysL p).length J Jx A C pre.length (i0 + (onW p d pre).length) r A' := by
  intro d
  induction d with
  | zero => exact fun pre i0 A C v hl hr hidx hC hown _ hj => on_leaf H hl hr hidx hC hown hj
  | succ d ih =>
    intro pre i0 A C v hl hr hidx hC hown hnc hj
    have hn5 := (valid_parts H.hv).1
    obtain ⟨av, cv, rfl, hcv, _⟩ := own_slice hown
    have HIH := Lib.hid ih
    have hk5 : pre.length ≤ 4 := by omega
    have hkn : ((pre.length : Int) == (p.cards.length : Int)) = false := by simp; omega
    have hpl := H.pile A hC.same
    have k1 : A.cell? ⟨pb, 0, none⟩ = some (.pointer (some ⟨bp, 0, none⟩)) := by rw [cell_of_heap hpl.1]; rfl
    obtain ⟨c0, _⟩ := hpl.2.cells
    have HLD := Lib.hid hl
    have HH := Lib.hid (And.intro H (And.intro hr (And.intro hidx (And.intro hC (And.intro hown (And.intro hnc hj))))))
    have hn0 : (0 : Int) ≤ (p.cards.length : Int) := by omega
    clear hpl hr hidx hC hown hnc hj H hl ih
    refine callsIn_wide.2 ?_
    go_enter Try.func98, Try.ntmps98
    go_wp2_with fail
    clear k1 c0 hkn
    go_loopw [6] (fun q wr => ∃ (j : Nat) (C' : Nat → Prop), j ≤ p.cards.length + 1 ∧ q = .int .i64 ((j : Int) - 1) ∧ Hid (OnC W M l pb wr C' ∧ J (i0 + cntF p d pre j) wr C' ∧ A.heap.size ≤ wr.heap.size ∧ ∀ b, b < A.heap.size → ¬ C b → ¬ C' b ∧ KeptTo 3 pre.length A wr b)) (fun q _ => p.cards.length + 1 - (intOf q + 1).toNat)
    case atStart => exact ⟨0, C, by omega, rfl, HH.out.2.2.2.1, HH.out.2.2.2.2.2.2, Nat.le_refl _, fun b _ hn => ⟨hn, KeptTo.of_eq rfl⟩⟩
    case round =>
      obtain ⟨j, C', hjn, rfl, HR⟩ := hrel
      obtain ⟨H, hr, hidx, hC0, hown0, hnc0, _⟩ := HH.out
      obtain ⟨hC, hj, hsz, hkp⟩ := HR.out
      have hpl := H.pile wr hC.same
      have k1 : wr.cell? ⟨pb, 0, none⟩ = some (.pointer (some ⟨bp, 0, none⟩)) := by rw [cell_of_heap hpl.1]; rfl
      obtain ⟨c0, _⟩ := hpl.2.cells
      by_cases hlt : j < p.cards.length + 1
      · have hj1 : (j : Int) - 1 < (p.cards.length : Int) := by omega
        have hj0 : -1 ≤ (j : Int) - 1 := by omega
        have HCS := Lib.hid (cntF_succ p d pre hlt)
        have hown : wr.ownsRow (W.heap.size + 2) 3 1 (.slice av pre.length cv) pre.length (pre.map (Value.int .i64)) := own_keptTo hown0 (fun b hb => (hkp b (hown0.lt b hb).2 (hnc0 b hb)).2)
        have hnc : ∀ g, (Value.slice av pre.length cv).ownBlock = some g → ¬ C' g := fun b hb => (hkp b (hown0.lt b hb).2 (hnc0 b hb)).1
        obtain ⟨f, hf⟩ : ∃ f : Int, f = (j : Int) - 1 := ⟨_, rfl⟩
        rw [← hf] at hj1 hj0 ⊢
        by_cases hfk : f = (pre.length : Int)
        · have hb : (f != (pre.length : Int)) = false := by simpa using hfk
          have HF : Hid (onF p d pre ((j : Int) - 1) = []) := by rw [Hid, ← hf]; unfold onF; rw [if_pos hfk]
          have HJF := Lib.hid hf
          clear hf hfk hown hnc hpl hC hj hkp hown0 hnc0 hC0 hidx H hr
          go_wp2_with fail
          clear k1 c0
          refine wpIn_wide.1 (onSkip (k := pre.length) (by omega) hb ?_)
          intro x36 x37 x38 x39 x40 x41 x42 x43 x44 x45 x46 x47 x48 w' hbw e48
          subst e48
          have HB := Lib.hid hbw
          clear hbw
          go_wp2_with fail
          go_roundw
          case rel =>
            obtain ⟨hC, hj, hsz, hkp⟩ := HR.out
            refine ⟨j + 1, C', by omega, by rw [HJF.out]; congr 1; omega, hC.below HB.out, ?_, by have := HB.out.size; omega, fun b hb hn => ⟨(hkp b hb hn).1, (hkp b hb hn).2.trans (KeptTo.of_eq (HB.out.block b (by omega)))⟩⟩
            rw [HCS.out, HF.out]
            exact HH.out.1.jb hj HB.out
          case measure => have := HJF.out; simp [intOf]; omega
        · have hb : (f != (pre.length : Int)) = true := by simpa using hfk
          have HF : Hid (onF p d pre ((j : Int) - 1) = onW p d (pre ++ [f])) := by rw [Hid, ← hf]; unfold onF; rw [if_neg hfk]
          have HO : Hid (∀ w, Below wr.heap.size wr w → w.cell? ⟨W.heap.size + 1, 0, none⟩ = some (selfV pb W.heap.size (W.heap.size + 1))) := fun w hbw => by
            have := (hC.below hbw).o
            rw [cell_of_heap this]; rfl
          have HO' : Hid (∀ v w, AppF W M l pb J wr C' pre f (i0 + cntF p d pre j) v w → w.cell? ⟨W.heap.size + 1, 0, none⟩ = some (selfV pb W.heap.size (W.heap.size + 1))) := fun v w h => by
            have := h.on.o
            rw [cell_of_heap this]; rfl
          have HAP : Hid (∀ (w : World) (gx : Nat), Below wr.heap.size wr w → w.heap[gx]? = some (.cells #[.int .i64 f] 3 (0, 0)) → ∃ v' w', (Builtin.append_ #[76, 76] 76 #[.slice av pre.length cv, .slice (some ⟨gx, 0, none⟩) 1 1]).run Try.prog w = .ok v' w' ∧ AppF W M l pb J wr C' pre f (i0 + cntF p d pre j) v' w') :=
            fun w gx hbw hg => app_more H (by omega) hC hj hown hnc hbw hg
          have HON : Hid (∀ v w, AppF W M l pb J wr C' pre f (i0 + cntF p d pre j) v w → CallsIn Fence.wide 0 Try.prog 98 #[v, .pointer (some ⟨pb, 0, none⟩), .pointer (some ⟨W.heap.size, 0, none⟩), .pointer (some ⟨W.heap.size + 1, 0, none⟩)] w fun e w' => ∃ r, e = .returned (.bool r) ∧ OnPost W M l pb (waysL p).length J Jx wr C' pre.length (i0 + cntF p d pre (j + 1)) r w') := fun v w h => by
            refine (HIH.out (pre ++ [f]) (i0 + cntF p d pre j) w C' v (by have := HLD.out; simp; omega) (fun x hx => ?_) (fun i x hx => ?_) h.on h.own h.nc h.j).mono ?_
            · rcases List.mem_append.1 hx with hx | hx
              · exact hr x hx
              · rw [List.mem_singleton.1 hx]; exact ⟨hj0, hj1⟩
            · have := hidx (cntF p d pre j + i) x (onF_at p d pre hlt (by rw [HF.out]; exact hx))
              rwa [← Nat.add_assoc] at this
            · rintro e w' ⟨r, rfl, h1, h2⟩
              refine ⟨r, rfl, fun hr' => ?_, h2⟩
              obtain ⟨C2, k1, k2, k3, k4⟩ := h1 hr'
              rw [Nat.add_assoc, ← HF.out, ← HCS.out] at k2
              refine ⟨C2, k1, k2, Nat.le_trans h.sz k3, fun b hb' hn => ?_⟩
              have := k4 b (Nat.lt_of_lt_of_le hb' h.sz) hn
              exact ⟨this.1, (h.kept b hb' hn).trans (this.2.mono (by simp))⟩
          have HJF := Lib.hid hf
          clear hf hfk hown hnc hpl hC hj hkp hown0 hnc0 hC0 hidx H hr
          go_wp2_with fail
          clear k1 c0
          refine wpIn_wide.1 (onMore (k := pre.length) (by omega) hb HO HO' HAP HON ?_)
          intro x36 x37 x38 x39 x40 x41 x42 x43 x44 x45 x46 x47 x48 r w' hres e48
          subst e48
          have HRS := Lib.hid hres
          clear hres
          cases r with
          | true =>
            go_wp2_with fail
            go_roundw
            case rel =>
              obtain ⟨_, _, hsz, hkp⟩ := HR.out
              obtain ⟨C2, k1, k2, k3, k4⟩ := HRS.out.1 rfl
              refine ⟨j + 1, C2, by omega, by rw [HJF.out]; congr 1; omega, k1, k2, Nat.le_trans hsz k3, fun b hb hn => ?_⟩
              have h1 := hkp b hb hn
              have h2 := k4 b (by omega) h1.1
              exact ⟨h2.1, h1.2.trans h2.2⟩
            case measure => have := HJF.out; simp [intOf]; omega
          | false =>
            go_wp2_with fail
            go_ret
            exact ⟨false, rfl, (fun h => by cases h), fun _ => HRS.out.2 rfl⟩
      · obtain rfl : j = p.cards.length + 1 := by omega
        have e1 : ((p.cards.length + 1 : Nat) : Int) - 1 = (p.cards.length : Int) := by omega
        rw [e1]
        have HX : Hid (i0 + cntF p d pre (p.cards.length + 1) = i0 + (onW p (d + 1) pre).length) := by rw [Hid, cntF_all]
        clear hC hj hkp hown0 hnc0 hC0 hidx H hr hpl e1
        go_wp2_with fail
        go_ret
        refine ⟨true, rfl, fun _ => ?_, fun h => by cases h⟩
        rw [← HX.out]
        exact ⟨C', HR.out⟩
end
end Go.Proofs.Ytnfhlbmapfoifaa

