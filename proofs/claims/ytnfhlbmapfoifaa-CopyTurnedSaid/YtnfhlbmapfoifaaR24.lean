/- The reference's Split. -/
import Derived.Test.YtnfhlbmapfoifaaR19
import Derived.Test.YtnfhlbmapfoifaaOut
namespace Go.Proofs.Ytnfhlbmapfoifaa
open Go.RowKit
set_option linter.unusedVariables false
set_option linter.unusedSimpArgs false

def befB (a b : Int) (x : List Int) : Bool := decide (indexL x a < indexL x b)
def befL (l : List (List Int)) (a b : Int) : List (List Int) := l.filter (befB a b)
def aftL (l : List (List Int)) (a b : Int) : List (List Int) := l.filter fun x => !befB a b x
theorem befL_step {l : List (List Int)} {k : Nat} {a b : Int} (hk : k < l.length) : befL (l.take (k + 1)) a b = befL (l.take k) a b ++ if befB a b (l.getD k []) then [l.getD k []] else [] := by
  unfold befL
  rw [List.take_succ_eq_append_getElem hk, List.filter_append]
  have : l.getD k [] = l[k] := by simp [hk]
  rw [this]
  congr 1
  by_cases h : befB a b l[k] = true <;> simp [h]
theorem aftL_step {l : List (List Int)} {k : Nat} {a b : Int} (hk : k < l.length) : aftL (l.take (k + 1)) a b = aftL (l.take k) a b ++ if befB a b (l.getD k []) then [] else [l.getD k []] := by
  unfold aftL
  rw [List.take_succ_eq_append_getElem hk, List.filter_append]
  have : l.getD k [] = l[k] := by simp [hk]
  rw [this]
  congr 1
  by_cases h : befB a b l[k] = true <;> simp [h]
theorem out_add2 {w0 V : World} {v u : Value} {m n : List (List Int)} {ax : Option Addr} {cx : Nat} {x : List Int} (h : OutL w0 V v m) (h' : OutL w0 V u n) (hap : ∀ g, v.ownBlock = some g → u.ownBlock ≠ some g) (hi : IsInts w0 ax x) (hm : m.length ≤ 1000000) :
    ∃ v' w', (Builtin.append_ #[32, 32] 32 #[v, .slice (some ⟨V.heap.size, 0, none⟩) 1 1]).run Try.prog (V.alloc (.cells #[.slice ax x.length cx] 42)) = .ok v' w' ∧ OutL w0 w' v' (m ++ [x]) ∧ OutL w0 w' u n ∧ (∀ g, v'.ownBlock = some g → u.ownBlock ≠ some g) := by
  obtain ⟨i0, hi0, hz0, hz1, hz2⟩ := info_parts infoO
  obtain ⟨hb, vs, h1, h2⟩ := h
  obtain ⟨_, us, u1, u2⟩ := h'
  have hV1 := World.alloc_heap_new V (.cells #[.slice ax x.length cx] 42)
  obtain ⟨v', w', hr, hn, hg, hor, _⟩ := append_keep (P := Try.prog) (w := V.alloc (.cells #[.slice ax x.length cx] 42)) w0.heap.size 32 32 42 i0 _ 24 Try.underlying32 hi0 hz0 hz1 hz2 rfl v m.length vs (own_blocks h1 (fun g hg => Below.heap_alloc _ _ _ (h1.lt g hg).2)) ⟨V.heap.size, 0, none⟩ (.slice ax x.length cx) (by rw [cell_of_heap hV1]; rfl) (by cases ax <;> rfl) (by simp [maxLen]; omega) (by omega) (by have := hb.size; simp; omega)
  have hvl : vs.length = m.length := by have := h1.1; simpa using this
  have hB := (hb.alloc hb.size (.cells #[.slice ax x.length cx] 42)).grown hg (by have := hb.size; simp; omega) (fun k hk => (h1.lt k hk).1)
  refine ⟨v', w', hr, ⟨hB, vs ++ [.slice ax x.length cx], by rw [List.length_append]; exact hn, fun j y hy => ?_⟩, ⟨hB, us, own_blocks u1 (fun g hg' => (hg.block g (by have := (u1.lt g hg').2; simp; omega) (fun e => hap g e.symm hg')).trans (Below.heap_alloc _ _ _ (u1.lt g hg').2)), u2⟩, fun g hg' e => ?_⟩
  · rcases Nat.lt_trichotomy j m.length with hj | hj | hj
    · rw [List.getElem?_append_left hj] at hy
      obtain ⟨a1, c1, e1, e2⟩ := h2 j y hy
      exact ⟨a1, c1, by rw [List.getElem?_append_left (by omega)]; exact e1, e2⟩
    · rw [hj, List.getElem?_append_right (Nat.le_refl _)] at hy
      simp at hy
      subst hy
      exact ⟨ax, cx, by rw [hj, ← hvl]; simp, hi⟩
    · rw [List.getElem?_eq_none (by simp; omega)] at hy
      cases hy
  · rcases hor with h | h
    · rw [h] at hg'; exact hap g hg' e
    · rw [h] at hg'
      cases hg'
      have := (u1.lt _ e).2
      simp at this
      omega
set_option maxRecDepth 100000 in
set_option maxHeartbeats 4000000 in
theorem split_ref {l : List (List Int)} {al : Option Addr} {cap : Nat} {w : World} (ha : IsLists w al l) (hn : l.length ≤ 10000) (hr : ∀ x ∈ l, x.length ≤ 16) (a b : Int) :
    Calls Try.prog 29 #[.slice al l.length cap, .int .i64 a, .int .i64 b] w fun e w' => ∃ a1 c1 a2 c2, e = .returned (.tuple #[.slice a1 (befL l a b).length c1, .slice a2 (aftL l a b).length c2]) ∧ OutL w w' (.slice a1 (befL l a b).length c1) (befL l a b) ∧ OutL w w' (.slice a2 (aftL l a b).length c2) (aftL l a b) := by
  have HA := Lib.hid ha
  have HR : Hid (∀ k, k < l.length → (l.getD k []).length ≤ 16) := fun k hk => hr _ (by simp [hk])
  clear ha hr
  go_enter Try.func29, Try.ntmps29
  go_wp2_with fail
  go_loopw [8, 9, 10] (fun u v i wr => ∃ (k : Nat) (a1 : Option Addr) (c1 : Nat) (a2 : Option Addr) (c2 : Nat), k ≤ l.length ∧ i = .int .i64 k ∧ u = .slice a1 (befL (l.take k) a b).length c1 ∧ v = .slice a2 (aftL (l.take k) a b).length c2 ∧ Hid (OutL w wr u (befL (l.take k) a b)) ∧ Hid (OutL w wr v (aftL (l.take k) a b)) ∧ Hid (∀ g, u.ownBlock = some g → v.ownBlock ≠ some g)) (fun _ _ i _ => l.length - (intOf i).toNat)
  case atStart => exact ⟨0, none, 0, none, 0, by omega, rfl, by simp [befL], by simp [aftL], by simpa [Hid, befL] using outL_nil w, by simpa [Hid, aftL] using outL_nil w, fun g hg => by simp [Value.ownBlock] at hg⟩
  case round =>
    obtain ⟨k, a1, c1, a2, c2, hk, rfl, rfl, rfl, HU, HV, HAP⟩ := hrel
    by_cases hlt : k < l.length
    · obtain ⟨bb, off, rfl, ax, cx, hcell, hints⟩ := (HA.out.mono HU.out.1) k hlt
      obtain ⟨b', off', eb, ax', cx', hcell', hints'⟩ := HA.out k hlt
      obtain ⟨rfl, rfl⟩ : bb = b' ∧ off = off' := by simpa using eb
      have hcc := cell_stays HU.out.1 hcell'
      rw [hcell] at hcc
      obtain ⟨rfl, rfl⟩ : ax = ax' ∧ cx = cx' := by simpa using hcc
      have h5 := HR.out k hlt
      have HS := Lib.hid (befL_step (a := a) (b := b) hlt)
      have HT := Lib.hid (aftL_step (a := a) (b := b) hlt)
      have HL : Hid ((befL (l.take k) a b).length ≤ 10000 ∧ (aftL (l.take k) a b).length ≤ 10000) := ⟨Nat.le_trans (List.length_filter_le _ _) (by rw [List.length_take]; omega), Nat.le_trans (List.length_filter_le _ _) (by rw [List.length_take]; omega)⟩
      have HI := Lib.hid (And.intro hints hints')
      have HCW := Lib.hid hcell'
      clear hcc hcell' hints hints' eb
      revert hcell h5 HS HT HI HCW
      generalize l.getD k [] = x
      intro hcell h5 HS HT HI HCW
      go_wp2_with fail
      have z0 := fun y : Aft wr.heap.size wr => cell_stays y.h hcell
      have C1 := Lib.hid (fun y : Aft wr.heap.size wr => index_ref (cap := cx) (v := a) (show x.length ≤ 1000 by omega) (HI.out.1.mono y.h))
      have C2 := Lib.hid (fun y : Aft wr.heap.size wr => index_ref (cap := cx) (v := b) (show x.length ≤ 1000 by omega) (HI.out.1.mono y.h))
      have HBB : Hid (befB a b x = decide (indexL x a < indexL x b)) := rfl
      clear hcell
      revert C1 C2 HBB
      generalize indexL x a = ia
      generalize indexL x b = ib
      intro C1 C2 HBB
      refine wp_region_aft mixed (by kernel_rfl) ?_
      iterate 6 (go_big_quiet_step ((go_at_call 78; exact calls_aft_same (C1.out _))))
      repeat (go_big_quiet_step ((go_at_call 78; exact calls_aft_same (C2.out _))))
      refine wpQuiet_nil ?_
      rintro _ ⟨y, rfl⟩
      clear C1 C2 z0
      have HY : Hid (Below wr.heap.size wr y.v) := y.h
      revert HY
      generalize y.v = V
      intro HY
      have OU : OutL w V _ _ := ⟨HU.out.1.trans (HY.out.mono HU.out.1.size), by obtain ⟨vs, h1, h2⟩ := HU.out.2; exact ⟨vs, own_below h1 HY.out, h2⟩⟩
      have OV : OutL w V _ _ := ⟨HU.out.1.trans (HY.out.mono HU.out.1.size), by obtain ⟨vs, h1, h2⟩ := HV.out.2; exact ⟨vs, own_below h1 HY.out, h2⟩⟩
      have hcell := cell_stays (OU.1) (HCW.out)
      cases hq : befB a b x
      · rw [hq] at HS HT HBB
        have hlt2 : ¬ ia < ib := by have := HBB.out; simpa using this.symm
        obtain ⟨v', w', hrun, h1, h2, h3⟩ := out_add2 (cx := cx) OV OU (fun g h e => HAP.out g e h) HI.out.2 (by have := HL.out; omega)
        obtain ⟨a3, c3, rfl⟩ := h1.sl
        have HRun := Lib.hid hrun
        have HOut := Lib.hid (And.intro h1 (And.intro h2 h3))
        clear hrun h1 h2 h3 hq OU OV
        go_wp2_with (at_builtin; refine wpList_append_run rfl (.tmp 37) (.tmp 42) 32 rfl _ _ _ _ rfl rfl HRun.out ?_)
        go_roundw
        case rel => exact ⟨k + 1, a1, c1, a3, c3, by omega, by go_num, by simp [HS.out], by simp [HT.out], by rw [Hid, HS.out]; simpa using HOut.out.2.1, by rw [Hid, HT.out]; simpa using HOut.out.1, fun g h e => HOut.out.2.2 g (by simpa [Value.ownBlock] using e) h⟩
        case measure => simp [intOf]; omega
      · rw [hq] at HS HT HBB
        have hlt2 : ia < ib := by have := HBB.out; simpa using this.symm
        obtain ⟨v', w', hrun, h1, h2, h3⟩ := out_add2 (cx := cx) OU OV HAP.out HI.out.2 (by have := HL.out; omega)
        obtain ⟨a3, c3, rfl⟩ := h1.sl
        have HRun := Lib.hid hrun
        have HOut := Lib.hid (And.intro h1 (And.intro h2 h3))
        clear hrun h1 h2 h3 hq OU OV
        go_wp2_with (at_builtin; refine wpList_append_run rfl (.tmp 30) (.tmp 35) 32 rfl _ _ _ _ rfl rfl HRun.out ?_)
        go_roundw
        case rel => exact ⟨k + 1, a3, c3, a2, c2, by omega, by go_num, by simp [HS.out], by simp [HT.out], by rw [Hid, HS.out]; simpa using HOut.out.1, by rw [Hid, HT.out]; simpa using HOut.out.2.1, fun g h e => HOut.out.2.2 g (by simpa [Value.ownBlock] using h) e⟩
        case measure => simp [intOf]; omega
    · obtain rfl : k = l.length := by omega
      go_wp2_with fail
      refine bodyPost_ret (results_tmp2 rfl _ _ _) rfl ?_
      rw [List.take_length] at HU HV ⊢
      exact ⟨_, _, _, _, rfl, HU.out, HV.out⟩
end Go.Proofs.Ytnfhlbmapfoifaa
