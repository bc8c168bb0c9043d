/- StockMore's drawn region; a row of ints that is copied. StockMore from region 15 on. StockMore's walk. The row's last step where the call leaves a world of which only what lay there before is known. Presses and formes that are handed in, opened. -/
import Derived.Test.YtjkhclijmcmdjaaDM1
import Derived.Lib.MinMax
import Derived.Below
import Derived.ChangeSame
import Derived.ProofKit
import Derived.Test.YtjkhclijmcmdjaaProg
import Derived.Deep.Slices
import Derived.Deep.Fields
import Derived.Lib.SmallJoins
import Derived.Carry
import Derived.OpenShut
namespace Go.Proofs.Ytjkhclijmcmdjaa
open Go.RowKit
set_option linter.unusedVariables false
set_option linter.unusedSimpArgs false
/-- A row of ints of one's own. -/
structure IRow (g : Nat) (l : List Int) (w : World) : Prop where
  row : ∃ cur : Array Value, w.heap[g]? = some (.cells cur 3 (0, 0)) ∧ ∀ i, i < l.length → cur[i]? = some (.int .i64 (gi l i))
theorem IRow.mono {g : Nat} {l : List Int} {w w' : World} (h : IRow g l w) (hb : Below w.heap.size w w') : IRow g l w' := by
  obtain ⟨cur, h1, h2⟩ := h.row
  exact ⟨cur, (hb.block _ (heap_lt h1)).trans h1, h2⟩
theorem IRow.cell {g : Nat} {l : List Int} {w : World} (h : IRow g l w) {i : Nat} (hi : i < l.length) : w.cell? ⟨g, i, none⟩ = some (.int .i64 (gi l i)) := by
  obtain ⟨cur, h1, h2⟩ := h.row
  rw [cell_of_heap h1]; exact h2 i hi
theorem IRow.lt {g : Nat} {l : List Int} {w : World} (h : IRow g l w) : g < w.heap.size := by
  obtain ⟨cur, h1, h2⟩ := h.row
  exact heap_lt h1
theorem IRow.other {g b k : Nat} {l : List Int} {w : World} {x : Value} (h : IRow g l w) (hne : b ≠ g) : IRow g l (w.setCell ⟨b, k, none⟩ x) := by
  obtain ⟨cur, h1, h2⟩ := h.row
  exact ⟨cur, (Below.heap_setCell _ _ _ _ (Ne.symm hne)).trans h1, h2⟩
theorem IRow.put {g : Nat} {l : List Int} {w : World} (h : IRow g l w) {i : Nat} (hi : i < l.length) (x : Int) :
    (∃ u, w.cell? ⟨g, i, none⟩ = some u) ∧ w.frozen? ⟨g, i, none⟩ = false ∧ IRow g (l.set i x) (w.setCell ⟨g, i, none⟩ (.int .i64 x)) := by
  have c1 := h.cell hi
  obtain ⟨cur, h1, h2⟩ := h.row
  refine ⟨⟨_, c1⟩, frozen_of_heap h1, _, heap_setCell_at (k := i) h1 _, fun j hj => ?_⟩
  rw [List.length_set] at hj
  have hsz : i < cur.size := (Array.getElem?_eq_some_iff.1 (h2 i hi)).1
  by_cases e : i = j
  · subst e
    rw [gi_set_at hi, Array.getElem?_setIfInBounds, if_pos rfl, if_pos hsz]
  · rw [gi_set_off e, Array.getElem?_setIfInBounds, if_neg e]; exact h2 j hj
theorem IRow.own {g : Nat} {c : Nat} {l : List Int} {w : World} {B : Nat} (h : w.ownsRow B 3 1 (.slice (some ⟨g, 0, none⟩) l.length c) l.length (l.map (Value.int .i64))) : IRow g l w := by
  rcases h.2 with ⟨h1, _⟩ | ⟨g', cap, cur, h1, _, h2, h3, _, h4, h5⟩
  · cases h1
  · cases h1
    refine ⟨cur, h2, fun i hi => ?_⟩
    have e : (cur.toList.take (l.length * 1))[i]? = (l.map (Value.int .i64))[i]? := by rw [h5]
    rw [List.getElem?_take_of_lt (by omega), List.getElem?_map, List.getElem?_eq_getElem hi] at e
    have : gi l i = l[i] := by simp [gi, hi]
    rw [this]
    simpa using e
theorem IRow.ints {g : Nat} {l : List Int} {w : World} (h : IRow g l w) : IsInts w (some ⟨g, 0, none⟩) l := fun i hi => ⟨g, 0, rfl, by rw [Nat.zero_add]; exact h.cell hi⟩
/-- Ints are copied into a row of one's own. -/
theorem icopy {W w : World} {av : Option Addr} {l : List Int} {cv : Nat} {xs : Value} (h0 : 0 < l.length) (hk : l.length ≤ 16) (hb : Below W.heap.size W w) (hx : w.ownsRow W.heap.size 3 1 xs 0 []) (hi : IsInts w av l) :
    ∃ (g c : Nat) (w' : World), (Builtin.append_ #[24, 24] 24 #[xs, .slice av l.length cv]).run Try.prog w = .ok (.slice (some ⟨g, 0, none⟩) l.length c) w' ∧ W.heap.size ≤ g ∧ IRow g l w' ∧ Below W.heap.size W w' := by
  obtain ⟨r, w', h1, h2, h3, _⟩ := copy_new (cv := cv) hk hb hx hi
  obtain ⟨g, cap, e, hg, _⟩ := own_cell h3 h0
  cases hr : r.1 with
  | none => rw [hr] at e; cases e
  | some ad =>
    rw [hr] at e h1 h3
    cases e
    exact ⟨g, r.2, w', h1, hg, IRow.own h3, h2⟩
noncomputable def mor9C : Code := (Try.f11.body.bind (regionAt 9)).getD .skip
set_option maxRecDepth 100000 in
set_option maxHeartbeats 8000000 in
theorem mor9 {b3 b7 g cg ab ao n cw v : Nat} {k x z1 z2 : Int} {P0 P1 : World → Prop} {Q : Exit → Act → World → Prop} {W1 : World} (hvn : v < n) (hz1 : k.tdiv 9 = z1) (hz1w : IntKind.i64.wrap z1 = z1) (hz2 : z1.tmod 9 = z2) (hz2w : IntKind.i64.wrap z2 = z2) (hz3 : IntKind.i64.wrap (x + z2) = x + z2) (h0 : P0 W1.drew)
    (kl1 : Hid (∀ w : World, (P0 w ∨ P1 w) → w.cell? ⟨b7, 6, none⟩ = some (.slice (some ⟨g, 0, none⟩) n cg)))
    (kl4 : Hid (∀ w : World, (P0 w ∨ P1 w) → w.cell? ⟨b3, 6, none⟩ = some (.slice (some ⟨ab, ao, none⟩) n cw)))
    (kl7 : Hid (∀ w : World, (P0 w) → w.cell? ⟨ab, ao + v, none⟩ = some (.int .i64 (x))))
    (ks14 : Hid (∀ w : World, P0 w → (∃ u, w.cell? ⟨g, v, none⟩ = some u) ∧ w.frozen? ⟨g, v, none⟩ = false ∧ P1 (w.setCell ⟨g, v, none⟩ (.int .i64 (min 60 (x + z2))))))
    {s0 s1 s2 s4 s5 s6 s9 s11 s12 s13 s14 s15 s16 s17 s18 s19 s20 s21 s22 s23 s24 s25 s26 s27 s28 s29 s30 s31 s32 s33 s34 s35 s36 s37 s38 s39 s40 s41 s42 s43 s44 s45 s46 s47 s48 s49 s50 s51 s52 s53 s54 s55 s56 s57 s58 s59 s60 s61 s62 s63 s64 s65 s66 s67 s68 s69 s70 s71 s72 s73 s74 s75 s76 s77 s78 s79 s80 s81 s82 s83 s84 s85 s86 s87 s88 s89 s90 s91 s92 s93 s94 s95 s96 s97 s98 s99 s100 s101 s102 s103 s104 s105 s106 s107 s108 s109 s110 s111 s112 s113 s114 s115 s116 s117 s118 s119 s120 s121 s122 s123 s124 s125 s126 s127 s128 s129 s130 s131 s132 s133 s134 s135 s136 s137 s138 s139 s140 s141 s142 s143 s144 s145 s146 s147 s148 s149 s150 s151 s152 s153 s154 s155 s156 s157 s158 s159 s160 s161 s162 s163 s164 s165 s166 s167 s168 s169 s170 s171 s172 s173 s174 s175 s176 s177 s178 s179 s180 s181 s182 s183 s184 s185 s186 s187 s188 s189 s190 s191 s192 s193 s194 s195 s196 s197 s198 s199 s200 s201 s202 s203 s204 s205 s206 s207 s208 : Value} {dd : List Deferred}
    (hQ : ∀ w' : World, P1 w' → Q .normal { tmps := List.toArray (s0 :: s1 :: s2 :: .pointer (some ⟨b3, 0, none⟩) :: s4 :: s5 :: s6 :: .pointer (some ⟨b7, 0, none⟩) :: .int .i64 (k) :: s9 :: .int .i64 ((v : Int)) :: s11 :: s12 :: s13 :: s14 :: s15 :: s16 :: s17 :: s18 :: s19 :: s20 :: s21 :: s22 :: s23 :: s24 :: s25 :: s26 :: s27 :: s28 :: s29 :: s30 :: s31 :: s32 :: s33 :: s34 :: s35 :: s36 :: s37 :: s38 :: s39 :: s40 :: s41 :: s42 :: s43 :: s44 :: s45 :: s46 :: s47 :: s48 :: s49 :: s50 :: s51 :: s52 :: s53 :: .pointer (some ⟨b7, 6, none⟩) :: .slice (some ⟨g, 0, none⟩) n cg :: .int .i64 ((v : Int)) :: .pointer (some ⟨b3, 6, none⟩) :: .slice (some ⟨ab, ao, none⟩) n cw :: .int .i64 ((v : Int)) :: .pointer (some ⟨ab, ao + v, none⟩) :: .int .i64 (x) :: .int .i64 (k) :: .int .i64 (z1) :: .int .i64 (z2) :: .int .i64 (x + z2) :: .int .i64 (min 60 (x + z2)) :: .pointer (some ⟨g, v, none⟩) :: s68 :: s69 :: s70 :: s71 :: s72 :: s73 :: s74 :: s75 :: s76 :: s77 :: s78 :: s79 :: s80 :: s81 :: s82 :: s83 :: s84 :: s85 :: s86 :: s87 :: s88 :: s89 :: s90 :: s91 :: s92 :: s93 :: s94 :: s95 :: s96 :: s97 :: s98 :: s99 :: s100 :: s101 :: s102 :: s103 :: s104 :: s105 :: s106 :: s107 :: s108 :: s109 :: s110 :: s111 :: s112 :: s113 :: s114 :: s115 :: s116 :: s117 :: s118 :: s119 :: s120 :: s121 :: s122 :: s123 :: s124 :: s125 :: s126 :: s127 :: s128 :: s129 :: s130 :: s131 :: s132 :: s133 :: s134 :: s135 :: s136 :: s137 :: s138 :: s139 :: s140 :: s141 :: s142 :: s143 :: s144 :: s145 :: s146 :: s147 :: s148 :: s149 :: s150 :: s151 :: s152 :: s153 :: s154 :: s155 :: s156 :: s157 :: s158 :: s159 :: s160 :: s161 :: s162 :: s163 :: s164 :: s165 :: s166 :: s167 :: s168 :: s169 :: s170 :: s171 :: s172 :: s173 :: s174 :: s175 :: s176 :: s177 :: s178 :: s179 :: s180 :: s181 :: s182 :: s183 :: s184 :: s185 :: s186 :: s187 :: s188 :: s189 :: s190 :: s191 :: s192 :: s193 :: s194 :: s195 :: s196 :: s197 :: s198 :: s199 :: s200 :: s201 :: s202 :: s203 :: s204 :: s205 :: s206 :: s207 :: s208 :: []),defers := dd } w') :
    Code.wpIn (wideAt none) 0 Try.prog mor9C Q { tmps := List.toArray (s0 :: s1 :: s2 :: .pointer (some ⟨b3, 0, none⟩) :: s4 :: s5 :: s6 :: .pointer (some ⟨b7, 0, none⟩) :: .int .i64 (k) :: s9 :: .int .i64 ((v : Int)) :: s11 :: s12 :: s13 :: s14 :: s15 :: s16 :: s17 :: s18 :: s19 :: s20 :: s21 :: s22 :: s23 :: s24 :: s25 :: s26 :: s27 :: s28 :: s29 :: s30 :: s31 :: s32 :: s33 :: s34 :: s35 :: s36 :: s37 :: s38 :: s39 :: s40 :: s41 :: s42 :: s43 :: s44 :: s45 :: s46 :: s47 :: s48 :: s49 :: s50 :: s51 :: s52 :: s53 :: s54 :: s55 :: s56 :: s57 :: s58 :: s59 :: s60 :: s61 :: s62 :: s63 :: s64 :: s65 :: s66 :: s67 :: s68 :: s69 :: s70 :: s71 :: s72 :: s73 :: s74 :: s75 :: s76 :: s77 :: s78 :: s79 :: s80 :: s81 :: s82 :: s83 :: s84 :: s85 :: s86 :: s87 :: s88 :: s89 :: s90 :: s91 :: s92 :: s93 :: s94 :: s95 :: s96 :: s97 :: s98 :: s99 :: s100 :: s101 :: s102 :: s103 :: s104 :: s105 :: s106 :: s107 :: s108 :: s109 :: s110 :: s111 :: s112 :: s113 :: s114 :: s115 :: s116 :: s117 :: s118 :: s119 :: s120 :: s121 :: s122 :: s123 :: s124 :: s125 :: s126 :: s127 :: s128 :: s129 :: s130 :: s131 :: s132 :: s133 :: s134 :: s135 :: s136 :: s137 :: s138 :: s139 :: s140 :: s141 :: s142 :: s143 :: s144 :: s145 :: s146 :: s147 :: s148 :: s149 :: s150 :: s151 :: s152 :: s153 :: s154 :: s155 :: s156 :: s157 :: s158 :: s159 :: s160 :: s161 :: s162 :: s163 :: s164 :: s165 :: s166 :: s167 :: s168 :: s169 :: s170 :: s171 :: s172 :: s173 :: s174 :: s175 :: s176 :: s177 :: s178 :: s179 :: s180 :: s181 :: s182 :: s183 :: s184 :: s185 :: s186 :: s187 :: s188 :: s189 :: s190 :: s191 :: s192 :: s193 :: s194 :: s195 :: s196 :: s197 :: s198 :: s199 :: s200 :: s201 :: s202 :: s203 :: s204 :: s205 :: s206 :: s207 :: s208 :: []),defers := dd } W1 := by
  have HQ := Lib.hid hQ
  clear hQ
  conv => arg 4; whnf
  refine wpIn_region_invG mixed (by kernel_rfl) (fun d_ a_ w' => a_ = { tmps := List.toArray (s0 :: s1 :: s2 :: .pointer (some ⟨b3, 0, none⟩) :: s4 :: s5 :: s6 :: .pointer (some ⟨b7, 0, none⟩) :: .int .i64 (k) :: s9 :: .int .i64 ((v : Int)) :: s11 :: s12 :: s13 :: s14 :: s15 :: s16 :: s17 :: s18 :: s19 :: s20 :: s21 :: s22 :: s23 :: s24 :: s25 :: s26 :: s27 :: s28 :: s29 :: s30 :: s31 :: s32 :: s33 :: s34 :: s35 :: s36 :: s37 :: s38 :: s39 :: s40 :: s41 :: s42 :: s43 :: s44 :: s45 :: s46 :: s47 :: s48 :: s49 :: s50 :: s51 :: s52 :: s53 :: pk (d_ 0) (.pointer (some ⟨b7, 6, none⟩)) s54 :: pk (d_ 1) (.slice (some ⟨g, 0, none⟩) n cg) s55 :: pk (d_ 2) (.int .i64 ((v : Int))) s56 :: pk (d_ 3) (.pointer (some ⟨b3, 6, none⟩)) s57 :: pk (d_ 4) (.slice (some ⟨ab, ao, none⟩) n cw) s58 :: pk (d_ 5) (.int .i64 ((v : Int))) s59 :: pk (d_ 6) (.pointer (some ⟨ab, ao + v, none⟩)) s60 :: pk (d_ 7) (.int .i64 (x)) s61 :: pk (d_ 8) (.int .i64 (k)) s62 :: pk (d_ 9) (.int .i64 (z1)) s63 :: pk (d_ 10) (.int .i64 (z2)) s64 :: pk (d_ 11) (.int .i64 (x + z2)) s65 :: pk (d_ 12) (.int .i64 (min 60 (x + z2))) s66 :: pk (d_ 13) (.pointer (some ⟨g, v, none⟩)) s67 :: s68 :: s69 :: s70 :: s71 :: s72 :: s73 :: s74 :: s75 :: s76 :: s77 :: s78 :: s79 :: s80 :: s81 :: s82 :: s83 :: s84 :: s85 :: s86 :: s87 :: s88 :: s89 :: s90 :: s91 :: s92 :: s93 :: s94 :: s95 :: s96 :: s97 :: s98 :: s99 :: s100 :: s101 :: s102 :: s103 :: s104 :: s105 :: s106 :: s107 :: s108 :: s109 :: s110 :: s111 :: s112 :: s113 :: s114 :: s115 :: s116 :: s117 :: s118 :: s119 :: s120 :: s121 :: s122 :: s123 :: s124 :: s125 :: s126 :: s127 :: s128 :: s129 :: s130 :: s131 :: s132 :: s133 :: s134 :: s135 :: s136 :: s137 :: s138 :: s139 :: s140 :: s141 :: s142 :: s143 :: s144 :: s145 :: s146 :: s147 :: s148 :: s149 :: s150 :: s151 :: s152 :: s153 :: s154 :: s155 :: s156 :: s157 :: s158 :: s159 :: s160 :: s161 :: s162 :: s163 :: s164 :: s165 :: s166 :: s167 :: s168 :: s169 :: s170 :: s171 :: s172 :: s173 :: s174 :: s175 :: s176 :: s177 :: s178 :: s179 :: s180 :: s181 :: s182 :: s183 :: s184 :: s185 :: s186 :: s187 :: s188 :: s189 :: s190 :: s191 :: s192 :: s193 :: s194 :: s195 :: s196 :: s197 :: s198 :: s199 :: s200 :: s201 :: s202 :: s203 :: s204 :: s205 :: s206 :: s207 :: s208 :: []),defers := dd } ∧ ch1 P0 P1 (d_ 14) w' ∧ OrdP [[], [0], [], [], [3], [], [4, 5], [6], [], [8], [9], [7, 10], [11], [0, 1, 2, 3, 4, 5, 6, 7, 8, 9, 10, 11, 12], [0, 1, 2, 3, 4, 5, 6, 7, 8, 9, 10, 11, 12, 13]] d_) ?_ ?_ ?_
  · exact ⟨rfl, h0, fun k h => by cases h⟩
  · refine ⟨?_,?_,?_,?_,?_,?_,?_,?_,?_,?_,?_,?_,?_,?_,?_, trivial⟩
    all_goals
      rintro d_ a_ w1 K hd_ hdep ⟨rfl, F, O⟩ HK
      simp [Region.binds] at hdep
    · have HO : Hid (OrdP [[], [0], [], [], [3], [], [4, 5], [6], [], [8], [9], [7, 10], [11], [0, 1, 2, 3, 4, 5, 6, 7, 8, 9, 10, 11, 12], [0, 1, 2, 3, 4, 5, 6, 7, 8, 9, 10, 11, 12, 13]] (upd d_ 0)) := O.step (show ∀ e ∈ ([] : List Nat), d_ e = true by simp [hdep])
      clear O
      have HF := Lib.hid F
      clear F hdep
      go_simp
      refine HK.out _ _ ⟨?_, HF.out, HO.out⟩
      all_goals rfl
    · have HO : Hid (OrdP [[], [0], [], [], [3], [], [4, 5], [6], [], [8], [9], [7, 10], [11], [0, 1, 2, 3, 4, 5, 6, 7, 8, 9, 10, 11, 12], [0, 1, 2, 3, 4, 5, 6, 7, 8, 9, 10, 11, 12, 13]] (upd d_ 1)) := O.step (show ∀ e ∈ ([0] : List Nat), d_ e = true by simp [hdep])
      have q0 : d_ 0 = true := by simp [hdep]
      have kk := kl1.out w1 (ch1_or F)
      clear O
      rw [pk_of q0]
      have HF := Lib.hid F
      clear F hdep
      go_simp
      refine HK.out _ _ ⟨?_, HF.out, HO.out⟩
      rw [pk_of (show upd d_ 1 0 = true from q0)]
      all_goals rfl
    · have HO : Hid (OrdP [[], [0], [], [], [3], [], [4, 5], [6], [], [8], [9], [7, 10], [11], [0, 1, 2, 3, 4, 5, 6, 7, 8, 9, 10, 11, 12], [0, 1, 2, 3, 4, 5, 6, 7, 8, 9, 10, 11, 12, 13]] (upd d_ 2)) := O.step (show ∀ e ∈ ([] : List Nat), d_ e = true by simp [hdep])
      clear O
      have HF := Lib.hid F
      clear F hdep
      go_simp
      refine HK.out _ _ ⟨?_, HF.out, HO.out⟩
      all_goals rfl
    · have HO : Hid (OrdP [[], [0], [], [], [3], [], [4, 5], [6], [], [8], [9], [7, 10], [11], [0, 1, 2, 3, 4, 5, 6, 7, 8, 9, 10, 11, 12], [0, 1, 2, 3, 4, 5, 6, 7, 8, 9, 10, 11, 12, 13]] (upd d_ 3)) := O.step (show ∀ e ∈ ([] : List Nat), d_ e = true by simp [hdep])
      clear O
      have HF := Lib.hid F
      clear F hdep
      go_simp
      refine HK.out _ _ ⟨?_, HF.out, HO.out⟩
      all_goals rfl
    · have HO : Hid (OrdP [[], [0], [], [], [3], [], [4, 5], [6], [], [8], [9], [7, 10], [11], [0, 1, 2, 3, 4, 5, 6, 7, 8, 9, 10, 11, 12], [0, 1, 2, 3, 4, 5, 6, 7, 8, 9, 10, 11, 12, 13]] (upd d_ 4)) := O.step (show ∀ e ∈ ([3] : List Nat), d_ e = true by simp [hdep])
      have q3 : d_ 3 = true := by simp [hdep]
      have kk := kl4.out w1 (ch1_or F)
      clear O
      rw [pk_of q3]
      have HF := Lib.hid F
      clear F hdep
      go_simp
      refine HK.out _ _ ⟨?_, HF.out, HO.out⟩
      rw [pk_of (show upd d_ 4 3 = true from q3)]
      all_goals rfl
    · have HO : Hid (OrdP [[], [0], [], [], [3], [], [4, 5], [6], [], [8], [9], [7, 10], [11], [0, 1, 2, 3, 4, 5, 6, 7, 8, 9, 10, 11, 12], [0, 1, 2, 3, 4, 5, 6, 7, 8, 9, 10, 11, 12, 13]] (upd d_ 5)) := O.step (show ∀ e ∈ ([] : List Nat), d_ e = true by simp [hdep])
      clear O
      have HF := Lib.hid F
      clear F hdep
      go_simp
      refine HK.out _ _ ⟨?_, HF.out, HO.out⟩
      all_goals rfl
    · have HO : Hid (OrdP [[], [0], [], [], [3], [], [4, 5], [6], [], [8], [9], [7, 10], [11], [0, 1, 2, 3, 4, 5, 6, 7, 8, 9, 10, 11, 12], [0, 1, 2, 3, 4, 5, 6, 7, 8, 9, 10, 11, 12, 13]] (upd d_ 6)) := O.step (show ∀ e ∈ ([4, 5] : List Nat), d_ e = true by simp [hdep])
      have q4 : d_ 4 = true := by simp [hdep]
      have q5 : d_ 5 = true := by simp [hdep]
      clear O
      have hvn2 := hvn
      rw [pk_of q4, pk_of q5]
      have HF := Lib.hid F
      clear F hdep
      go_simp
      refine HK.out _ _ ⟨?_, HF.out, HO.out⟩
      rw [pk_of (show upd d_ 6 4 = true from q4), pk_of (show upd d_ 6 5 = true from q5)]
      all_goals rfl
    · have HO : Hid (OrdP [[], [0], [], [], [3], [], [4, 5], [6], [], [8], [9], [7, 10], [11], [0, 1, 2, 3, 4, 5, 6, 7, 8, 9, 10, 11, 12], [0, 1, 2, 3, 4, 5, 6, 7, 8, 9, 10, 11, 12, 13]] (upd d_ 7)) := O.step (show ∀ e ∈ ([6] : List Nat), d_ e = true by simp [hdep])
      have q6 : d_ 6 = true := by simp [hdep]
      have F2 := F
      have n_ : d_ 14 = false := by
        cases e_ : d_ 14 with
        | false => rfl
        | true => have h2 := (O 14 e_ 7 (by decide)); rw [show d_ 7 = false from hd_] at h2; cases h2
      rw [n_] at F2
      have kk := kl7.out w1 (by
        have h3 := ch1_or F2
        simp_all [ch1])
      clear F2
      clear n_
      clear O
      rw [pk_of q6]
      have HF := Lib.hid F
      clear F hdep
      go_simp
      refine HK.out _ _ ⟨?_, HF.out, HO.out⟩
      rw [pk_of (show upd d_ 7 6 = true from q6)]
      all_goals rfl
    · have HO : Hid (OrdP [[], [0], [], [], [3], [], [4, 5], [6], [], [8], [9], [7, 10], [11], [0, 1, 2, 3, 4, 5, 6, 7, 8, 9, 10, 11, 12], [0, 1, 2, 3, 4, 5, 6, 7, 8, 9, 10, 11, 12, 13]] (upd d_ 8)) := O.step (show ∀ e ∈ ([] : List Nat), d_ e = true by simp [hdep])
      clear O
      have HF := Lib.hid F
      clear F hdep
      go_simp
      refine HK.out _ _ ⟨?_, HF.out, HO.out⟩
      all_goals rfl
    · have HO : Hid (OrdP [[], [0], [], [], [3], [], [4, 5], [6], [], [8], [9], [7, 10], [11], [0, 1, 2, 3, 4, 5, 6, 7, 8, 9, 10, 11, 12], [0, 1, 2, 3, 4, 5, 6, 7, 8, 9, 10, 11, 12, 13]] (upd d_ 9)) := O.step (show ∀ e ∈ ([8] : List Nat), d_ e = true by simp [hdep])
      have q8 : d_ 8 = true := by simp [hdep]
      clear O
      have a1 := hz1
      have a2 := hz1w
      rw [pk_of q8]
      have HF := Lib.hid F
      clear F hdep
      go_simp
      refine HK.out _ _ ⟨?_, HF.out, HO.out⟩
      rw [pk_of (show upd d_ 9 8 = true from q8)]
      all_goals rfl
    · have HO : Hid (OrdP [[], [0], [], [], [3], [], [4, 5], [6], [], [8], [9], [7, 10], [11], [0, 1, 2, 3, 4, 5, 6, 7, 8, 9, 10, 11, 12], [0, 1, 2, 3, 4, 5, 6, 7, 8, 9, 10, 11, 12, 13]] (upd d_ 10)) := O.step (show ∀ e ∈ ([9] : List Nat), d_ e = true by simp [hdep])
      have q9 : d_ 9 = true := by simp [hdep]
      clear O
      have a3 := hz2
      have a4 := hz2w
      rw [pk_of q9]
      have HF := Lib.hid F
      clear F hdep
      go_simp
      refine HK.out _ _ ⟨?_, HF.out, HO.out⟩
      rw [pk_of (show upd d_ 10 9 = true from q9)]
      all_goals rfl
    · have HO : Hid (OrdP [[], [0], [], [], [3], [], [4, 5], [6], [], [8], [9], [7, 10], [11], [0, 1, 2, 3, 4, 5, 6, 7, 8, 9, 10, 11, 12], [0, 1, 2, 3, 4, 5, 6, 7, 8, 9, 10, 11, 12, 13]] (upd d_ 11)) := O.step (show ∀ e ∈ ([7, 10] : List Nat), d_ e = true by simp [hdep])
      have q7 : d_ 7 = true := by simp [hdep]
      have q10 : d_ 10 = true := by simp [hdep]
      clear O
      have a5 := hz3
      rw [pk_of q7, pk_of q10]
      have HF := Lib.hid F
      clear F hdep
      go_simp
      refine HK.out _ _ ⟨?_, HF.out, HO.out⟩
      rw [pk_of (show upd d_ 11 7 = true from q7), pk_of (show upd d_ 11 10 = true from q10)]
      all_goals rfl
    · have HO : Hid (OrdP [[], [0], [], [], [3], [], [4, 5], [6], [], [8], [9], [7, 10], [11], [0, 1, 2, 3, 4, 5, 6, 7, 8, 9, 10, 11, 12], [0, 1, 2, 3, 4, 5, 6, 7, 8, 9, 10, 11, 12, 13]] (upd d_ 12)) := O.step (show ∀ e ∈ ([11] : List Nat), d_ e = true by simp [hdep])
      have q11 : d_ 11 = true := by simp [hdep]
      clear O
      rw [pk_of q11]
      have HF := Lib.hid F
      clear F hdep
      go_simp
      refine HK.out _ _ ⟨?_, HF.out, HO.out⟩
      rw [pk_of (show upd d_ 12 11 = true from q11)]
      all_goals rfl
    · have HO : Hid (OrdP [[], [0], [], [], [3], [], [4, 5], [6], [], [8], [9], [7, 10], [11], [0, 1, 2, 3, 4, 5, 6, 7, 8, 9, 10, 11, 12], [0, 1, 2, 3, 4, 5, 6, 7, 8, 9, 10, 11, 12, 13]] (upd d_ 13)) := O.step (show ∀ e ∈ ([0, 1, 2, 3, 4, 5, 6, 7, 8, 9, 10, 11, 12] : List Nat), d_ e = true by simp [hdep])
      have q1 : d_ 1 = true := by simp [hdep]
      have q2 : d_ 2 = true := by simp [hdep]
      clear O
      have hvn2 := hvn
      rw [pk_of q1, pk_of q2]
      have HF := Lib.hid F
      clear F hdep
      go_simp
      refine HK.out _ _ ⟨?_, HF.out, HO.out⟩
      rw [pk_of (show upd d_ 13 1 = true from q1), pk_of (show upd d_ 13 2 = true from q2)]
      all_goals rfl
    · have HO : Hid (OrdP [[], [0], [], [], [3], [], [4, 5], [6], [], [8], [9], [7, 10], [11], [0, 1, 2, 3, 4, 5, 6, 7, 8, 9, 10, 11, 12], [0, 1, 2, 3, 4, 5, 6, 7, 8, 9, 10, 11, 12, 13]] (upd d_ 14)) := O.step (show ∀ e ∈ ([0, 1, 2, 3, 4, 5, 6, 7, 8, 9, 10, 11, 12, 13] : List Nat), d_ e = true by simp [hdep])
      have q12 : d_ 12 = true := by simp [hdep]
      have q13 : d_ 13 = true := by simp [hdep]
      clear O
      rw [pk_of q12, pk_of q13]
      obtain ⟨hP, hN⟩ := ch1_s1 F hd_
      obtain ⟨⟨u0, c0⟩, z0, hR⟩ := ks14.out w1 hP
      have HF := Lib.hid (hN _ hR)
      clear F hP hR hN hdep
      go_simp
      have HG := HF.out
      refine HK.out _ _ ⟨?_, HG, HO.out⟩
      rw [pk_of (show upd d_ 14 12 = true from q12), pk_of (show upd d_ 14 13 = true from q13)]
      all_goals rfl
  · rintro d_ a_ w1 hall ⟨rfl, F, O⟩
    have hall' : ∀ k, k < 15 → d_ k = true := hall
    rw [hall' 14 (by decide)] at F
    have HF := Lib.hid F
    clear F
    rw [pk_of (hall' 0 (by decide)), pk_of (hall' 1 (by decide)), pk_of (hall' 2 (by decide)), pk_of (hall' 3 (by decide)), pk_of (hall' 4 (by decide)), pk_of (hall' 5 (by decide)), pk_of (hall' 6 (by decide)), pk_of (hall' 7 (by decide)), pk_of (hall' 8 (by decide)), pk_of (hall' 9 (by decide)), pk_of (hall' 10 (by decide)), pk_of (hall' 11 (by decide)), pk_of (hall' 12 (by decide)), pk_of (hall' 13 (by decide))]
    exact HQ.out w1 HF.out
end Go.Proofs.Ytjkhclijmcmdjaa
namespace Go.Proofs.Ytjkhclijmcmdjaa
open Go.RowKit
set_option linter.unusedVariables false
set_option linter.unusedSimpArgs false
theorem gives_nth {p : Prs} {f : Fme} {v : Nat} (hv : v < p.wanted.length) : gs ((List.range p.wanted.length).map fun v => p.gives f v) v = p.gives f v := by simp [gs, hv]
theorem gives_cases {p : Prs} (hV : p.valid = true) (f : Fme) : (givesE p f = ([], 2) ∧ fmeOk p f = false) ∨ (givesE p f = ((List.range p.wanted.length).map (fun v => p.gives f v), 0) ∧ fmeOk p f = true) := by
  unfold givesE
  rw [open_ok hV]
  cases h : fmeOk p f with
  | true => right; simp
  | false => left; simp
noncomputable def morRC : Code := (Try.f11.body.bind (fromRegion 15)).getD .skip
set_option maxRecDepth 100000 in
set_option maxHeartbeats 16000000 in
theorem more_rest {p q : Prs} {A B : PrsA} {b3 b4 b7 : Nat} {f : Fme} {fa : Option Addr} {fc : Nat} {less : Bool} {w w0 : World} {dd : List Deferred}
    (HPX : Hid (∀ v, Below w0.heap.size w0 v → (PrsC v b3 p A ∧ IsPrs v p A) ∧ (PrsC v b7 q B ∧ IsPrs v q B) ∧ (v.cell? ⟨b4, 0, none⟩ = some (.slice fa f.slots.length fc) ∧ v.cell? ⟨b4, 1, none⟩ = some (.int .i64 f.times)) ∧ IsInts v fa f.slots ∧ Below w.heap.size w v)) (HSP : Hid p.Small) (HSQ : Hid q.Small) (HFS : Hid (f.slots.length ≤ 1000))
    (HM : Hid (MoreR p q less)) (hdd : dd = [])
    {s0 s1 s2 s5 s6 s8 s10 s11 s12 s13 s14 s15 s16 s17 s18 s19 s20 s21 s22 s23 s24 s25 s26 s27 s28 s29 s30 s31 s32 s33 s34 s35 s36 s37 s38 s39 s40 s41 s42 s43 s44 s45 s46 s47 s48 s49 s50 s51 s52 s53 s54 s55 s56 s57 s58 s59 s60 s61 s62 s63 s64 s65 s66 s67 s68 s69 s70 s71 s72 s73 s74 s75 s76 s77 s78 s79 s80 s81 s82 s83 s84 s85 s86 s87 s88 s89 s90 s91 s92 s93 s94 s95 s96 s97 s98 s99 s100 s101 s102 s103 s104 s105 s106 s107 s108 s109 s110 s111 s112 s113 s114 s115 s116 s117 s118 s119 s120 s121 s122 s123 s124 s125 s126 s127 s128 s129 s130 s131 s132 s133 s134 s135 s136 s137 s138 s139 s140 s141 s142 s143 s144 s145 s146 s147 s148 s149 s150 s151 s152 s153 s154 s155 s156 s157 s158 s159 s160 s161 s162 s163 s164 s165 s166 s167 s168 s169 s170 s171 s172 s173 s174 s175 s176 s177 s178 s179 s180 s181 s182 s183 s184 s185 s186 s187 s188 s189 s190 s191 s192 s193 s194 s195 s196 s197 s198 s199 s200 s201 s202 s203 s204 s205 s206 s207 s208 : Value} :
    Code.wp Try.prog morRC (bodyPost Try.prog Try.f11 fun e w' => e = .returned (.bool true) ∧ Below w.heap.size w w') { tmps := List.toArray (s0 :: s1 :: s2 :: .pointer (some ⟨b3, 0, none⟩) :: .pointer (some ⟨b4, 0, none⟩) :: s5 :: s6 :: .pointer (some ⟨b7, 0, none⟩) :: s8 :: .bool less :: s10 :: s11 :: s12 :: s13 :: s14 :: s15 :: s16 :: s17 :: s18 :: s19 :: s20 :: s21 :: s22 :: s23 :: s24 :: s25 :: s26 :: s27 :: s28 :: s29 :: s30 :: s31 :: s32 :: s33 :: s34 :: s35 :: s36 :: s37 :: s38 :: s39 :: s40 :: s41 :: s42 :: s43 :: s44 :: s45 :: s46 :: s47 :: s48 :: s49 :: s50 :: s51 :: s52 :: s53 :: s54 :: s55 :: s56 :: s57 :: s58 :: s59 :: s60 :: s61 :: s62 :: s63 :: s64 :: s65 :: s66 :: s67 :: s68 :: s69 :: s70 :: s71 :: s72 :: s73 :: s74 :: s75 :: s76 :: s77 :: s78 :: s79 :: s80 :: s81 :: s82 :: s83 :: s84 :: s85 :: s86 :: s87 :: s88 :: s89 :: s90 :: s91 :: s92 :: s93 :: s94 :: s95 :: s96 :: s97 :: s98 :: s99 :: s100 :: s101 :: s102 :: s103 :: s104 :: s105 :: s106 :: s107 :: s108 :: s109 :: s110 :: s111 :: s112 :: s113 :: s114 :: s115 :: s116 :: s117 :: s118 :: s119 :: s120 :: s121 :: s122 :: s123 :: s124 :: s125 :: s126 :: s127 :: s128 :: s129 :: s130 :: s131 :: s132 :: s133 :: s134 :: s135 :: s136 :: s137 :: s138 :: s139 :: s140 :: s141 :: s142 :: s143 :: s144 :: s145 :: s146 :: s147 :: s148 :: s149 :: s150 :: s151 :: s152 :: s153 :: s154 :: s155 :: s156 :: s157 :: s158 :: s159 :: s160 :: s161 :: s162 :: s163 :: s164 :: s165 :: s166 :: s167 :: s168 :: s169 :: s170 :: s171 :: s172 :: s173 :: s174 :: s175 :: s176 :: s177 :: s178 :: s179 :: s180 :: s181 :: s182 :: s183 :: s184 :: s185 :: s186 :: s187 :: s188 :: s189 :: s190 :: s191 :: s192 :: s193 :: s194 :: s195 :: s196 :: s197 :: s198 :: s199 :: s200 :: s201 :: s202 :: s203 :: s204 :: s205 :: s206 :: s207 :: s208 :: []), defers := dd } w0 := by
  subst hdd
  conv => arg 2; whnf
  have HB := Lib.hid (Below.refl w0.heap.size w0)
  have HL : Hid (∃ l a e m b g, bestE p = (l, a, e) ∧ bestE q = (m, b, g) ∧ (e = 0 ∨ e = 10) ∧ (g = 0 ∨ g = 10) ∧ (less = true → e = 0 → g = 0 ∧ b ≤ a) ∧ (less = false → g = 0 → e = 0 ∧ a ≤ b)) := by
    cases less with
    | true =>
      obtain ⟨l, a, e, m, b, g, h1, h2, h3, h4, h5⟩ := best_sub HM.out.vp HM.out.vq (HM.out.yes rfl)
      exact ⟨l, a, e, m, b, g, h1, h2, h3, h4, fun _ => h5, fun h => by cases h⟩
    | false =>
      obtain ⟨l, a, e, m, b, g, h1, h2, h3, h4, h5⟩ := best_sub HM.out.vq HM.out.vp (HM.out.no rfl)
      exact ⟨m, b, g, l, a, e, h2, h1, h4, h3, (fun h => by cases h), fun _ => h5⟩
  obtain ⟨l, a, e, m, b, g, hE, hQ, he, hg, hl1, hl2⟩ := HL.out
  have HEE := Lib.hid (And.intro hE hQ)
  have HEG := Lib.hid (And.intro he (And.intro hg (And.intro hl1 hl2)))
  clear hE hQ he hg hl1 hl2 HL
  refine wp_seq_hid ?_
  intro K15 HK15
  obtain ⟨k0, k1, k2, k3, k4, k5, k6, k7, k8, k9⟩ := (HPX.out w0 HB.out).1.1
  have G := best23 (HPX.out w0 HB.out).1.2 HSP.out
  rw [HEE.out.1] at G
  go_wp2_with fail
  refine G.mono ?_
  rintro ee b15 ⟨a1, c1, rfl, hf, hb⟩
  have HX := Lib.hid (HB.out.trans (hb.mono HB.out.size))
  clear hb HB G hf k0 k1 k2 k3 k4 k5 k6 k7 k8 k9
  have HB := HX
  clear HX
  go_wp2_with fail
  refine HK15.out _ _ ?_
  clear HK15 K15
  refine wp_seq_hid ?_
  intro K16 HK16
  obtain ⟨k0, k1, k2, k3, k4, k5, k6, k7, k8, k9⟩ := (HPX.out b15 HB.out).2.1.1
  have G := best23 (HPX.out b15 HB.out).2.1.2 HSQ.out
  rw [HEE.out.2] at G
  go_wp2_with fail
  refine G.mono ?_
  rintro ee b16 ⟨a2, c2, rfl, hf, hb⟩
  have HX := Lib.hid (HB.out.trans (hb.mono HB.out.size))
  clear hb HB G hf k0 k1 k2 k3 k4 k5 k6 k7 k8 k9
  have HB := HX
  clear HX
  go_wp2_with fail
  refine HK16.out _ _ ?_
  clear HK16 K16
  rcases HEG.out with ⟨he, hg, hl1, hl2⟩
  have HDN : Hid (b ≤ a ∨ a ≤ b) := by rw [Hid]; omega
  cases less
  case true =>
    have h5 := hl1 rfl
    clear hl1 hl2
    rcases he with rfl | rfl
    · obtain ⟨rfl, hba⟩ := h5 rfl
      have g1 : decide (b > a) = false := by simp; omega
      clear h5 hba hg
      refine wp_seq_hid ?_
      intro K17 HK17
      go_wp2_with fail
      refine HK17.out _ _ ?_
      clear HK17 K17
      refine wp_seq_hid ?_
      intro K19 HK19
      go_wp2_with fail
      refine HK19.out _ _ ?_
      clear HK19 K19
      clear g1
      rcases gives_cases HM.out.vp f with ⟨hs, hfo⟩ | ⟨hs, hfo⟩
      · have HSE := Lib.hid hs
        have HFO := Lib.hid hfo
        clear hs hfo
        refine wp_seq_hid ?_
        intro K21 HK21
        obtain ⟨k0, k1, k2, k3, k4, k5, k6, k7, k8, k9⟩ := (HPX.out b16 HB.out).1.1
        obtain ⟨j0, j1⟩ := (HPX.out b16 HB.out).2.2.1
        have G := gives15 (f := f) (c := fc) (HPX.out b16 HB.out).1.2 HSP.out (HPX.out b16 HB.out).2.2.2.1 HFS.out
        rw [HSE.out] at G
        go_wp2_with fail
        refine G.mono ?_
        rintro ee u1 ⟨a3, c3, rfl, hsp, hb⟩
        have HX := Lib.hid (And.intro (HB.out.trans (hb.mono HB.out.size)) hsp)
        clear hb HB G hsp j0 j1 k0 k1 k2 k3 k4 k5 k6 k7 k8 k9
        have HB := HX
        clear HX
        go_wp2_with fail
        refine HK21.out _ _ ?_
        clear HK21 K21
        rcases gives_cases HM.out.vq f with ⟨ht, hfo⟩ | ⟨ht, hfo⟩
        · have HTE := Lib.hid ht
          clear ht hfo
          refine wp_seq_hid ?_
          intro K22 HK22
          obtain ⟨k0, k1, k2, k3, k4, k5, k6, k7, k8, k9⟩ := (HPX.out u1 HB.out.1).2.1.1
          obtain ⟨j0, j1⟩ := (HPX.out u1 HB.out.1).2.2.1
          have G := gives15 (f := f) (c := fc) (HPX.out u1 HB.out.1).2.1.2 HSQ.out (HPX.out u1 HB.out.1).2.2.2.1 HFS.out
          rw [HTE.out] at G
          go_wp2_with fail
          refine G.mono ?_
          rintro ee u2 ⟨a4, c4, rfl, hsp, hb⟩
          have HX := Lib.hid (And.intro (HB.out.1.trans (hb.mono HB.out.1.size)) (And.intro (HB.out.2.mono hb) hsp))
          clear hb HB G hsp j0 j1 k0 k1 k2 k3 k4 k5 k6 k7 k8 k9
          have HB := HX
          clear HX
          go_wp2_with fail
          refine HK22.out _ _ ?_
          clear HK22 K22
          go_wp2_with fail
          refine (awake14 (w := _)).mono ?_
          rintro ee c9 ⟨rfl, hb⟩
          have HX := Lib.hid (HB.out.1.trans (hb.mono HB.out.1.size))
          clear hb
          go_wp2_with fail
          go_ret
          exact ⟨rfl, (HPX.out _ HX.out).2.2.2.2⟩
        · have HTE := Lib.hid ht
          clear ht hfo
          refine wp_seq_hid ?_
          intro K22 HK22
          obtain ⟨k0, k1, k2, k3, k4, k5, k6, k7, k8, k9⟩ := (HPX.out u1 HB.out.1).2.1.1
          obtain ⟨j0, j1⟩ := (HPX.out u1 HB.out.1).2.2.1
          have G := gives15 (f := f) (c := fc) (HPX.out u1 HB.out.1).2.1.2 HSQ.out (HPX.out u1 HB.out.1).2.2.2.1 HFS.out
          rw [HTE.out] at G
          have hgl : ((List.range q.wanted.length).map fun v => q.gives f v).length = q.wanted.length := by simp
          simp only [hgl] at G
          go_wp2_with fail
          refine G.mono ?_
          rintro ee u2 ⟨a4, c4, rfl, hsp, hb⟩
          have HX := Lib.hid (And.intro (HB.out.1.trans (hb.mono HB.out.1.size)) (And.intro (HB.out.2.mono hb) hsp))
          clear hb HB G hsp j0 j1 k0 k1 k2 k3 k4 k5 k6 k7 k8 k9 hgl
          have HB := HX
          clear HX
          go_wp2_with fail
          refine HK22.out _ _ ?_
          clear HK22 K22
          go_wp2_with fail
          refine (awake14 (w := _)).mono ?_
          rintro ee c9 ⟨rfl, hb⟩
          have HX := Lib.hid (HB.out.1.trans (hb.mono HB.out.1.size))
          clear hb
          go_wp2_with fail
          go_ret
          exact ⟨rfl, (HPX.out _ HX.out).2.2.2.2⟩
      · have HSE := Lib.hid hs
        have HFO := Lib.hid hfo
        clear hs hfo
        refine wp_seq_hid ?_
        intro K21 HK21
        obtain ⟨k0, k1, k2, k3, k4, k5, k6, k7, k8, k9⟩ := (HPX.out b16 HB.out).1.1
        obtain ⟨j0, j1⟩ := (HPX.out b16 HB.out).2.2.1
        have G := gives15 (f := f) (c := fc) (HPX.out b16 HB.out).1.2 HSP.out (HPX.out b16 HB.out).2.2.2.1 HFS.out
        rw [HSE.out] at G
        have hgl : ((List.range p.wanted.length).map fun v => p.gives f v).length = p.wanted.length := by simp
        simp only [hgl] at G
        go_wp2_with fail
        refine G.mono ?_
        rintro ee u1 ⟨a3, c3, rfl, hsp, hb⟩
        have HX := Lib.hid (And.intro (HB.out.trans (hb.mono HB.out.size)) hsp)
        clear hb HB G hsp j0 j1 k0 k1 k2 k3 k4 k5 k6 k7 k8 k9 hgl
        have HB := HX
        clear HX
        go_wp2_with fail
        refine HK21.out _ _ ?_
        clear HK21 K21
        rcases gives_cases HM.out.vq f with ⟨ht, hfo⟩ | ⟨ht, hfo⟩
        · have HTE := Lib.hid ht
          clear ht hfo
          refine wp_seq_hid ?_
          intro K22 HK22
          obtain ⟨k0, k1, k2, k3, k4, k5, k6, k7, k8, k9⟩ := (HPX.out u1 HB.out.1).2.1.1
          obtain ⟨j0, j1⟩ := (HPX.out u1 HB.out.1).2.2.1
          have G := gives15 (f := f) (c := fc) (HPX.out u1 HB.out.1).2.1.2 HSQ.out (HPX.out u1 HB.out.1).2.2.2.1 HFS.out
          rw [HTE.out] at G
          go_wp2_with fail
          refine G.mono ?_
          rintro ee u2 ⟨a4, c4, rfl, hsp, hb⟩
          have HX := Lib.hid (And.intro (HB.out.1.trans (hb.mono HB.out.1.size)) (And.intro (HB.out.2.mono hb) hsp))
          clear hb HB G hsp j0 j1 k0 k1 k2 k3 k4 k5 k6 k7 k8 k9
          have HB := HX
          clear HX
          go_wp2_with fail
          refine HK22.out _ _ ?_
          clear HK22 K22
          go_wp2_with fail
          refine (awake14 (w := _)).mono ?_
          rintro ee c9 ⟨rfl, hb⟩
          have HX := Lib.hid (HB.out.1.trans (hb.mono HB.out.1.size))
          clear hb
          go_wp2_with fail
          go_ret
          exact ⟨rfl, (HPX.out _ HX.out).2.2.2.2⟩
        · have HTE := Lib.hid ht
          clear ht hfo
          refine wp_seq_hid ?_
          intro K22 HK22
          obtain ⟨k0, k1, k2, k3, k4, k5, k6, k7, k8, k9⟩ := (HPX.out u1 HB.out.1).2.1.1
          obtain ⟨j0, j1⟩ := (HPX.out u1 HB.out.1).2.2.1
          have G := gives15 (f := f) (c := fc) (HPX.out u1 HB.out.1).2.1.2 HSQ.out (HPX.out u1 HB.out.1).2.2.2.1 HFS.out
          rw [HTE.out] at G
          have hgl : ((List.range q.wanted.length).map fun v => q.gives f v).length = q.wanted.length := by simp
          simp only [hgl] at G
          go_wp2_with fail
          refine G.mono ?_
          rintro ee u2 ⟨a4, c4, rfl, hsp, hb⟩
          have HX := Lib.hid (And.intro (HB.out.1.trans (hb.mono HB.out.1.size)) (And.intro (HB.out.2.mono hb) hsp))
          clear hb HB G hsp j0 j1 k0 k1 k2 k3 k4 k5 k6 k7 k8 k9 hgl
          have HB := HX
          clear HX
          go_wp2_with fail
          refine HK22.out _ _ ?_
          clear HK22 K22
          have hlen : ((p.wanted.length : Int) != (q.wanted.length : Int)) = false := by rw [HM.out.len]; simp
          have hw4 := (wanted_of HM.out.vp).2
          have HLEN := Lib.hid HM.out.len
          have HSPN := Lib.hid HB.out.2.1
          have HTPN := Lib.hid HB.out.2.2
          have HBU := Lib.hid HB.out.1
          clear HB
          refine wp_seq_hid ?_
          intro K23 HK23
          go_wp2_with fail
          refine HK23.out _ _ ?_
          clear HK23 K23
          refine wp_seq_hid ?_
          intro K25 HK25
          go_wp2_with fail
          refine HK25.out _ _ ?_
          clear HK25 K25 hlen
          refine wp_seq_hid ?_
          intro K27 HK27
          go_wp2_with fail
          go_loopw [180] (fun i wr => ∃ v : Nat, v ≤ p.wanted.length ∧ i = .int .i64 v ∧ Hid (Below u2.heap.size u2 wr)) (fun i _ => p.wanted.length - (intOf i).toNat)
          case atStart => exact ⟨0, by omega, rfl, Below.refl _ _⟩
          case round =>
            obtain ⟨v, hv, rfl, HR⟩ := hrel
            by_cases hvt : v < p.wanted.length
            · have hvq : v < q.wanted.length := by rw [HLEN.out]; exact hvt
              obtain ⟨sb, so, hsa, p0, p1⟩ := (HSPN.out.mono HR.out) v (by simpa using hvt)
              obtain ⟨tb, t_o, hta, r0, r1⟩ := (HTPN.out.mono HR.out) v (by simpa using hvq)
              rw [gives_nth hvt, gives_eq] at p0 p1
              rw [gives_nth hvq, gives_eq] at r0 r1
              simp only at p0 p1 r0 r1
              rw [hsa, hta]
              have HSA := Lib.hid (And.intro hsa hta)
              have hfp := fme_parts HFO.out
              have hgd := HM.out.good f.times (by omega) (by omega)
              have hmul : gi f.slots v * (p.good f.times).lo ≤ gi f.slots v * (q.good f.times).lo := Int.mul_le_mul_of_nonneg_left hgd.1 (fme_gi HFO.out v)
              rw [hgd.2] at r1
              have HVT := Lib.hid hvt
              clear hsa hta hfp hgd hvq
              revert p0 p1 r0 r1 hmul
              generalize gi f.slots v * (p.good f.times).lo = x1
              generalize gi f.slots v * (q.good f.times).lo = x2
              generalize gi f.slots v * (p.good f.times).hi = x3
              intro p0 p1 r0 r1 hmul
              have g1 : decide (x2 < x1) = false := by simp; omega
              have P0 := fun y : Aft wr.heap.size wr => cell_stays y.h p0
              have P1 := fun y : Aft wr.heap.size wr => cell_stays y.h p1
              have R0 := fun y : Aft wr.heap.size wr => cell_stays y.h r0
              have R1 := fun y : Aft wr.heap.size wr => cell_stays y.h r1
              clear p0 p1 r0 r1 hmul
              have hvq2 : v < q.wanted.length := by rw [HLEN.out]; exact hvt
              go_wp2_with fail
              refine wp_region_aft mixed (by kernel_rfl) ?_
              repeat (go_big_quiet_step (fail))
              refine wpQuiet_nil ?_
              rintro _ ⟨y1, rfl⟩
              have HY : Hid (Below wr.heap.size wr y1.v) := y1.h
              go_wp2_with fail
              go_roundw
              case rel => exact ⟨v + 1, by have := HVT.out; omega, by go_num, HR.out.trans (HY.out.mono HR.out.size)⟩
              case measure => have := HVT.out; simp [intOf]; omega
            · go_wp2_with fail
              refine HK27.out _ _ ?_
              go_wp2_with fail
              refine (awake14 (w := _)).mono ?_
              rintro ee c9 ⟨rfl, hb⟩
              have HX2 := Lib.hid (HBU.out.trans ((HR.out.trans (hb.mono HR.out.size)).mono HBU.out.size))
              clear hb
              go_wp2_with fail
              go_ret
              exact ⟨rfl, (HPX.out _ HX2.out).2.2.2.2⟩
    · clear h5
      rcases hg with rfl | rfl
      · refine wp_seq_hid ?_
        intro K17 HK17
        go_wp2_with fail
        refine HK17.out _ _ ?_
        clear HK17 K17
        refine wp_seq_hid ?_
        intro K19 HK19
        go_wp2_with fail
        refine HK19.out _ _ ?_
        clear HK19 K19
        rcases gives_cases HM.out.vp f with ⟨hs, hfo⟩ | ⟨hs, hfo⟩
        · have HSE := Lib.hid hs
          have HFO := Lib.hid hfo
          clear hs hfo
          refine wp_seq_hid ?_
          intro K21 HK21
          obtain ⟨k0, k1, k2, k3, k4, k5, k6, k7, k8, k9⟩ := (HPX.out b16 HB.out).1.1
          obtain ⟨j0, j1⟩ := (HPX.out b16 HB.out).2.2.1
          have G := gives15 (f := f) (c := fc) (HPX.out b16 HB.out).1.2 HSP.out (HPX.out b16 HB.out).2.2.2.1 HFS.out
          rw [HSE.out] at G
          go_wp2_with fail
          refine G.mono ?_
          rintro ee u1 ⟨a3, c3, rfl, hsp, hb⟩
          have HX := Lib.hid (And.intro (HB.out.trans (hb.mono HB.out.size)) hsp)
          clear hb HB G hsp j0 j1 k0 k1 k2 k3 k4 k5 k6 k7 k8 k9
          have HB := HX
          clear HX
          go_wp2_with fail
          refine HK21.out _ _ ?_
          clear HK21 K21
          rcases gives_cases HM.out.vq f with ⟨ht, hfo⟩ | ⟨ht, hfo⟩
          · have HTE := Lib.hid ht
            clear ht hfo
            refine wp_seq_hid ?_
            intro K22 HK22
            obtain ⟨k0, k1, k2, k3, k4, k5, k6, k7, k8, k9⟩ := (HPX.out u1 HB.out.1).2.1.1
            obtain ⟨j0, j1⟩ := (HPX.out u1 HB.out.1).2.2.1
            have G := gives15 (f := f) (c := fc) (HPX.out u1 HB.out.1).2.1.2 HSQ.out (HPX.out u1 HB.out.1).2.2.2.1 HFS.out
            rw [HTE.out] at G
            go_wp2_with fail
            refine G.mono ?_
            rintro ee u2 ⟨a4, c4, rfl, hsp, hb⟩
            have HX := Lib.hid (And.intro (HB.out.1.trans (hb.mono HB.out.1.size)) (And.intro (HB.out.2.mono hb) hsp))
            clear hb HB G hsp j0 j1 k0 k1 k2 k3 k4 k5 k6 k7 k8 k9
            have HB := HX
            clear HX
            go_wp2_with fail
            refine HK22.out _ _ ?_
            clear HK22 K22
            go_wp2_with fail
            refine (awake14 (w := _)).mono ?_
            rintro ee c9 ⟨rfl, hb⟩
            have HX := Lib.hid (HB.out.1.trans (hb.mono HB.out.1.size))
            clear hb
            go_wp2_with fail
            go_ret
            exact ⟨rfl, (HPX.out _ HX.out).2.2.2.2⟩
          · have HTE := Lib.hid ht
            clear ht hfo
            refine wp_seq_hid ?_
            intro K22 HK22
            obtain ⟨k0, k1, k2, k3, k4, k5, k6, k7, k8, k9⟩ := (HPX.out u1 HB.out.1).2.1.1
            obtain ⟨j0, j1⟩ := (HPX.out u1 HB.out.1).2.2.1
            have G := gives15 (f := f) (c := fc) (HPX.out u1 HB.out.1).2.1.2 HSQ.out (HPX.out u1 HB.out.1).2.2.2.1 HFS.out
            rw [HTE.out] at G
            have hgl : ((List.range q.wanted.length).map fun v => q.gives f v).length = q.wanted.length := by simp
            simp only [hgl] at G
            go_wp2_with fail
            refine G.mono ?_
            rintro ee u2 ⟨a4, c4, rfl, hsp, hb⟩
            have HX := Lib.hid (And.intro (HB.out.1.trans (hb.mono HB.out.1.size)) (And.intro (HB.out.2.mono hb) hsp))
            clear hb HB G hsp j0 j1 k0 k1 k2 k3 k4 k5 k6 k7 k8 k9 hgl
            have HB := HX
            clear HX
            go_wp2_with fail
            refine HK22.out _ _ ?_
            clear HK22 K22
            go_wp2_with fail
            refine (awake14 (w := _)).mono ?_
            rintro ee c9 ⟨rfl, hb⟩
            have HX := Lib.hid (HB.out.1.trans (hb.mono HB.out.1.size))
            clear hb
            go_wp2_with fail
            go_ret
            exact ⟨rfl, (HPX.out _ HX.out).2.2.2.2⟩
        · have HSE := Lib.hid hs
          have HFO := Lib.hid hfo
          clear hs hfo
          refine wp_seq_hid ?_
          intro K21 HK21
          obtain ⟨k0, k1, k2, k3, k4, k5, k6, k7, k8, k9⟩ := (HPX.out b16 HB.out).1.1
          obtain ⟨j0, j1⟩ := (HPX.out b16 HB.out).2.2.1
          have G := gives15 (f := f) (c := fc) (HPX.out b16 HB.out).1.2 HSP.out (HPX.out b16 HB.out).2.2.2.1 HFS.out
          rw [HSE.out] at G
          have hgl : ((List.range p.wanted.length).map fun v => p.gives f v).length = p.wanted.length := by simp
          simp only [hgl] at G
          go_wp2_with fail
          refine G.mono ?_
          rintro ee u1 ⟨a3, c3, rfl, hsp, hb⟩
          have HX := Lib.hid (And.intro (HB.out.trans (hb.mono HB.out.size)) hsp)
          clear hb HB G hsp j0 j1 k0 k1 k2 k3 k4 k5 k6 k7 k8 k9 hgl
          have HB := HX
          clear HX
          go_wp2_with fail
          refine HK21.out _ _ ?_
          clear HK21 K21
          rcases gives_cases HM.out.vq f with ⟨ht, hfo⟩ | ⟨ht, hfo⟩
          · have HTE := Lib.hid ht
            clear ht hfo
            refine wp_seq_hid ?_
            intro K22 HK22
            obtain ⟨k0, k1, k2, k3, k4, k5, k6, k7, k8, k9⟩ := (HPX.out u1 HB.out.1).2.1.1
            obtain ⟨j0, j1⟩ := (HPX.out u1 HB.out.1).2.2.1
            have G := gives15 (f := f) (c := fc) (HPX.out u1 HB.out.1).2.1.2 HSQ.out (HPX.out u1 HB.out.1).2.2.2.1 HFS.out
            rw [HTE.out] at G
            go_wp2_with fail
            refine G.mono ?_
            rintro ee u2 ⟨a4, c4, rfl, hsp, hb⟩
            have HX := Lib.hid (And.intro (HB.out.1.trans (hb.mono HB.out.1.size)) (And.intro (HB.out.2.mono hb) hsp))
            clear hb HB G hsp j0 j1 k0 k1 k2 k3 k4 k5 k6 k7 k8 k9
            have HB := HX
            clear HX
            go_wp2_with fail
            refine HK22.out _ _ ?_
            clear HK22 K22
            go_wp2_with fail
            refine (awake14 (w := _)).mono ?_
            rintro ee c9 ⟨rfl, hb⟩
            have HX := Lib.hid (HB.out.1.trans (hb.mono HB.out.1.size))
            clear hb
            go_wp2_with fail
            go_ret
            exact ⟨rfl, (HPX.out _ HX.out).2.2.2.2⟩
          · have HTE := Lib.hid ht
            clear ht hfo
            refine wp_seq_hid ?_
            intro K22 HK22
            obtain ⟨k0, k1, k2, k3, k4, k5, k6, k7, k8, k9⟩ := (HPX.out u1 HB.out.1).2.1.1
            obtain ⟨j0, j1⟩ := (HPX.out u1 HB.out.1).2.2.1
            have G := gives15 (f := f) (c := fc) (HPX.out u1 HB.out.1).2.1.2 HSQ.out (HPX.out u1 HB.out.1).2.2.2.1 HFS.out
            rw [HTE.out] at G
            have hgl : ((List.range q.wanted.length).map fun v => q.gives f v).length = q.wanted.length := by simp
            simp only [hgl] at G
            go_wp2_with fail
            refine G.mono ?_
            rintro ee u2 ⟨a4, c4, rfl, hsp, hb⟩
            have HX := Lib.hid (And.intro (HB.out.1.trans (hb.mono HB.out.1.size)) (And.intro (HB.out.2.mono hb) hsp))
            clear hb HB G hsp j0 j1 k0 k1 k2 k3 k4 k5 k6 k7 k8 k9 hgl
            have HB := HX
            clear HX
            go_wp2_with fail
            refine HK22.out _ _ ?_
            clear HK22 K22
            have hlen : ((p.wanted.length : Int) != (q.wanted.length : Int)) = false := by rw [HM.out.len]; simp
            have hw4 := (wanted_of HM.out.vp).2
            have HLEN := Lib.hid HM.out.len
            have HSPN := Lib.hid HB.out.2.1
            have HTPN := Lib.hid HB.out.2.2
            have HBU := Lib.hid HB.out.1
            clear HB
            refine wp_seq_hid ?_
            intro K23 HK23
            go_wp2_with fail
            refine HK23.out _ _ ?_
            clear HK23 K23
            refine wp_seq_hid ?_
            intro K25 HK25
            go_wp2_with fail
            refine HK25.out _ _ ?_
            clear HK25 K25 hlen
            refine wp_seq_hid ?_
            intro K27 HK27
            go_wp2_with fail
            go_loopw [180] (fun i wr => ∃ v : Nat, v ≤ p.wanted.length ∧ i = .int .i64 v ∧ Hid (Below u2.heap.size u2 wr)) (fun i _ => p.wanted.length - (intOf i).toNat)
            case atStart => exact ⟨0, by omega, rfl, Below.refl _ _⟩
            case round =>
              obtain ⟨v, hv, rfl, HR⟩ := hrel
              by_cases hvt : v < p.wanted.length
              · have hvq : v < q.wanted.length := by rw [HLEN.out]; exact hvt
                obtain ⟨sb, so, hsa, p0, p1⟩ := (HSPN.out.mono HR.out) v (by simpa using hvt)
                obtain ⟨tb, t_o, hta, r0, r1⟩ := (HTPN.out.mono HR.out) v (by simpa using hvq)
                rw [gives_nth hvt, gives_eq] at p0 p1
                rw [gives_nth hvq, gives_eq] at r0 r1
                simp only at p0 p1 r0 r1
                rw [hsa, hta]
                have HSA := Lib.hid (And.intro hsa hta)
                have hfp := fme_parts HFO.out
                have hgd := HM.out.good f.times (by omega) (by omega)
                have hmul : gi f.slots v * (p.good f.times).lo ≤ gi f.slots v * (q.good f.times).lo := Int.mul_le_mul_of_nonneg_left hgd.1 (fme_gi HFO.out v)
                rw [hgd.2] at r1
                have HVT := Lib.hid hvt
                clear hsa hta hfp hgd hvq
                revert p0 p1 r0 r1 hmul
                generalize gi f.slots v * (p.good f.times).lo = x1
                generalize gi f.slots v * (q.good f.times).lo = x2
                generalize gi f.slots v * (p.good f.times).hi = x3
                intro p0 p1 r0 r1 hmul
                have g1 : decide (x2 < x1) = false := by simp; omega
                have P0 := fun y : Aft wr.heap.size wr => cell_stays y.h p0
                have P1 := fun y : Aft wr.heap.size wr => cell_stays y.h p1
                have R0 := fun y : Aft wr.heap.size wr => cell_stays y.h r0
                have R1 := fun y : Aft wr.heap.size wr => cell_stays y.h r1
                clear p0 p1 r0 r1 hmul
                have hvq2 : v < q.wanted.length := by rw [HLEN.out]; exact hvt
                go_wp2_with fail
                refine wp_region_aft mixed (by kernel_rfl) ?_
                repeat (go_big_quiet_step (fail))
                refine wpQuiet_nil ?_
                rintro _ ⟨y1, rfl⟩
                have HY : Hid (Below wr.heap.size wr y1.v) := y1.h
                go_wp2_with fail
                go_roundw
                case rel => exact ⟨v + 1, by have := HVT.out; omega, by go_num, HR.out.trans (HY.out.mono HR.out.size)⟩
                case measure => have := HVT.out; simp [intOf]; omega
              · go_wp2_with fail
                refine HK27.out _ _ ?_
                go_wp2_with fail
                refine (awake14 (w := _)).mono ?_
                rintro ee c9 ⟨rfl, hb⟩
                have HX2 := Lib.hid (HBU.out.trans ((HR.out.trans (hb.mono HR.out.size)).mono HBU.out.size))
                clear hb
                go_wp2_with fail
                go_ret
                exact ⟨rfl, (HPX.out _ HX2.out).2.2.2.2⟩
      · refine wp_seq_hid ?_
        intro K17 HK17
        go_wp2_with fail
        refine HK17.out _ _ ?_
        clear HK17 K17
        refine wp_seq_hid ?_
        intro K19 HK19
        go_wp2_with fail
        refine HK19.out _ _ ?_
        clear HK19 K19
        rcases gives_cases HM.out.vp f with ⟨hs, hfo⟩ | ⟨hs, hfo⟩
        · have HSE := Lib.hid hs
          have HFO := Lib.hid hfo
          clear hs hfo
          refine wp_seq_hid ?_
          intro K21 HK21
          obtain ⟨k0, k1, k2, k3, k4, k5, k6, k7, k8, k9⟩ := (HPX.out b16 HB.out).1.1
          obtain ⟨j0, j1⟩ := (HPX.out b16 HB.out).2.2.1
          have G := gives15 (f := f) (c := fc) (HPX.out b16 HB.out).1.2 HSP.out (HPX.out b16 HB.out).2.2.2.1 HFS.out
          rw [HSE.out] at G
          go_wp2_with fail
          refine G.mono ?_
          rintro ee u1 ⟨a3, c3, rfl, hsp, hb⟩
          have HX := Lib.hid (And.intro (HB.out.trans (hb.mono HB.out.size)) hsp)
          clear hb HB G hsp j0 j1 k0 k1 k2 k3 k4 k5 k6 k7 k8 k9
          have HB := HX
          clear HX
          go_wp2_with fail
          refine HK21.out _ _ ?_
          clear HK21 K21
          rcases gives_cases HM.out.vq f with ⟨ht, hfo⟩ | ⟨ht, hfo⟩
          · have HTE := Lib.hid ht
            clear ht hfo
            refine wp_seq_hid ?_
            intro K22 HK22
            obtain ⟨k0, k1, k2, k3, k4, k5, k6, k7, k8, k9⟩ := (HPX.out u1 HB.out.1).2.1.1
            obtain ⟨j0, j1⟩ := (HPX.out u1 HB.out.1).2.2.1
            have G := gives15 (f := f) (c := fc) (HPX.out u1 HB.out.1).2.1.2 HSQ.out (HPX.out u1 HB.out.1).2.2.2.1 HFS.out
            rw [HTE.out] at G
            go_wp2_with fail
            refine G.mono ?_
            rintro ee u2 ⟨a4, c4, rfl, hsp, hb⟩
            have HX := Lib.hid (And.intro (HB.out.1.trans (hb.mono HB.out.1.size)) (And.intro (HB.out.2.mono hb) hsp))
            clear hb HB G hsp j0 j1 k0 k1 k2 k3 k4 k5 k6 k7 k8 k9
            have HB := HX
            clear HX
            go_wp2_with fail
            refine HK22.out _ _ ?_
            clear HK22 K22
            go_wp2_with fail
            refine (awake14 (w := _)).mono ?_
            rintro ee c9 ⟨rfl, hb⟩
            have HX := Lib.hid (HB.out.1.trans (hb.mono HB.out.1.size))
            clear hb
            go_wp2_with fail
            go_ret
            exact ⟨rfl, (HPX.out _ HX.out).2.2.2.2⟩
          · have HTE := Lib.hid ht
            clear ht hfo
            refine wp_seq_hid ?_
            intro K22 HK22
            obtain ⟨k0, k1, k2, k3, k4, k5, k6, k7, k8, k9⟩ := (HPX.out u1 HB.out.1).2.1.1
            obtain ⟨j0, j1⟩ := (HPX.out u1 HB.out.1).2.2.1
            have G := gives15 (f := f) (c := fc) (HPX.out u1 HB.out.1).2.1.2 HSQ.out (HPX.out u1 HB.out.1).2.2.2.1 HFS.out
            rw [HTE.out] at G
            have hgl : ((List.range q.wanted.length).map fun v => q.gives f v).length = q.wanted.length := by simp
            simp only [hgl] at G
            go_wp2_with fail
            refine G.mono ?_
            rintro ee u2 ⟨a4, c4, rfl, hsp, hb⟩
            have HX := Lib.hid (And.intro (HB.out.1.trans (hb.mono HB.out.1.size)) (And.intro (HB.out.2.mono hb) hsp))
            clear hb HB G hsp j0 j1 k0 k1 k2 k3 k4 k5 k6 k7 k8 k9 hgl
            have HB := HX
            clear HX
            go_wp2_with fail
            refine HK22.out _ _ ?_
            clear HK22 K22
            go_wp2_with fail
            refine (awake14 (w := _)).mono ?_
            rintro ee c9 ⟨rfl, hb⟩
            have HX := Lib.hid (HB.out.1.trans (hb.mono HB.out.1.size))
            clear hb
            go_wp2_with fail
            go_ret
            exact ⟨rfl, (HPX.out _ HX.out).2.2.2.2⟩
        · have HSE := Lib.hid hs
          have HFO := Lib.hid hfo
          clear hs hfo
          refine wp_seq_hid ?_
          intro K21 HK21
          obtain ⟨k0, k1, k2, k3, k4, k5, k6, k7, k8, k9⟩ := (HPX.out b16 HB.out).1.1
          obtain ⟨j0, j1⟩ := (HPX.out b16 HB.out).2.2.1
          have G := gives15 (f := f) (c := fc) (HPX.out b16 HB.out).1.2 HSP.out (HPX.out b16 HB.out).2.2.2.1 HFS.out
          rw [HSE.out] at G
          have hgl : ((List.range p.wanted.length).map fun v => p.gives f v).length = p.wanted.length := by simp
          simp only [hgl] at G
          go_wp2_with fail
          refine G.mono ?_
          rintro ee u1 ⟨a3, c3, rfl, hsp, hb⟩
          have HX := Lib.hid (And.intro (HB.out.trans (hb.mono HB.out.size)) hsp)
          clear hb HB G hsp j0 j1 k0 k1 k2 k3 k4 k5 k6 k7 k8 k9 hgl
          have HB := HX
          clear HX
          go_wp2_with fail
          refine HK21.out _ _ ?_
          clear HK21 K21
          rcases gives_cases HM.out.vq f with ⟨ht, hfo⟩ | ⟨ht, hfo⟩
          · have HTE := Lib.hid ht
            clear ht hfo
            refine wp_seq_hid ?_
            intro K22 HK22
            obtain ⟨k0, k1, k2, k3, k4, k5, k6, k7, k8, k9⟩ := (HPX.out u1 HB.out.1).2.1.1
            obtain ⟨j0, j1⟩ := (HPX.out u1 HB.out.1).2.2.1
            have G := gives15 (f := f) (c := fc) (HPX.out u1 HB.out.1).2.1.2 HSQ.out (HPX.out u1 HB.out.1).2.2.2.1 HFS.out
            rw [HTE.out] at G
            go_wp2_with fail
            refine G.mono ?_
            rintro ee u2 ⟨a4, c4, rfl, hsp, hb⟩
            have HX := Lib.hid (And.intro (HB.out.1.trans (hb.mono HB.out.1.size)) (And.intro (HB.out.2.mono hb) hsp))
            clear hb HB G hsp j0 j1 k0 k1 k2 k3 k4 k5 k6 k7 k8 k9
            have HB := HX
            clear HX
            go_wp2_with fail
            refine HK22.out _ _ ?_
            clear HK22 K22
            go_wp2_with fail
            refine (awake14 (w := _)).mono ?_
            rintro ee c9 ⟨rfl, hb⟩
            have HX := Lib.hid (HB.out.1.trans (hb.mono HB.out.1.size))
            clear hb
            go_wp2_with fail
            go_ret
            exact ⟨rfl, (HPX.out _ HX.out).2.2.2.2⟩
          · have HTE := Lib.hid ht
            clear ht hfo
            refine wp_seq_hid ?_
            intro K22 HK22
            obtain ⟨k0, k1, k2, k3, k4, k5, k6, k7, k8, k9⟩ := (HPX.out u1 HB.out.1).2.1.1
            obtain ⟨j0, j1⟩ := (HPX.out u1 HB.out.1).2.2.1
            have G := gives15 (f := f) (c := fc) (HPX.out u1 HB.out.1).2.1.2 HSQ.out (HPX.out u1 HB.out.1).2.2.2.1 HFS.out
            rw [HTE.out] at G
            have hgl : ((List.range q.wanted.length).map fun v => q.gives f v).length = q.wanted.length := by simp
            simp only [hgl] at G
            go_wp2_with fail
            refine G.mono ?_
            rintro ee u2 ⟨a4, c4, rfl, hsp, hb⟩
            have HX := Lib.hid (And.intro (HB.out.1.trans (hb.mono HB.out.1.size)) (And.intro (HB.out.2.mono hb) hsp))
            clear hb HB G hsp j0 j1 k0 k1 k2 k3 k4 k5 k6 k7 k8 k9 hgl
            have HB := HX
            clear HX
            go_wp2_with fail
            refine HK22.out _ _ ?_
            clear HK22 K22
            have hlen : ((p.wanted.length : Int) != (q.wanted.length : Int)) = false := by rw [HM.out.len]; simp
            have hw4 := (wanted_of HM.out.vp).2
            have HLEN := Lib.hid HM.out.len
            have HSPN := Lib.hid HB.out.2.1
            have HTPN := Lib.hid HB.out.2.2
            have HBU := Lib.hid HB.out.1
            clear HB
            refine wp_seq_hid ?_
            intro K23 HK23
            go_wp2_with fail
            refine HK23.out _ _ ?_
            clear HK23 K23
            refine wp_seq_hid ?_
            intro K25 HK25
            go_wp2_with fail
            refine HK25.out _ _ ?_
            clear HK25 K25 hlen
            refine wp_seq_hid ?_
            intro K27 HK27
            go_wp2_with fail
            go_loopw [180] (fun i wr => ∃ v : Nat, v ≤ p.wanted.length ∧ i = .int .i64 v ∧ Hid (Below u2.heap.size u2 wr)) (fun i _ => p.wanted.length - (intOf i).toNat)
            case atStart => exact ⟨0, by omega, rfl, Below.refl _ _⟩
            case round =>
              obtain ⟨v, hv, rfl, HR⟩ := hrel
              by_cases hvt : v < p.wanted.length
              · have hvq : v < q.wanted.length := by rw [HLEN.out]; exact hvt
                obtain ⟨sb, so, hsa, p0, p1⟩ := (HSPN.out.mono HR.out) v (by simpa using hvt)
                obtain ⟨tb, t_o, hta, r0, r1⟩ := (HTPN.out.mono HR.out) v (by simpa using hvq)
                rw [gives_nth hvt, gives_eq] at p0 p1
                rw [gives_nth hvq, gives_eq] at r0 r1
                simp only at p0 p1 r0 r1
                rw [hsa, hta]
                have HSA := Lib.hid (And.intro hsa hta)
                have hfp := fme_parts HFO.out
                have hgd := HM.out.good f.times (by omega) (by omega)
                have hmul : gi f.slots v * (p.good f.times).lo ≤ gi f.slots v * (q.good f.times).lo := Int.mul_le_mul_of_nonneg_left hgd.1 (fme_gi HFO.out v)
                rw [hgd.2] at r1
                have HVT := Lib.hid hvt
                clear hsa hta hfp hgd hvq
                revert p0 p1 r0 r1 hmul
                generalize gi f.slots v * (p.good f.times).lo = x1
                generalize gi f.slots v * (q.good f.times).lo = x2
                generalize gi f.slots v * (p.good f.times).hi = x3
                intro p0 p1 r0 r1 hmul
                have g1 : decide (x2 < x1) = false := by simp; omega
                have P0 := fun y : Aft wr.heap.size wr => cell_stays y.h p0
                have P1 := fun y : Aft wr.heap.size wr => cell_stays y.h p1
                have R0 := fun y : Aft wr.heap.size wr => cell_stays y.h r0
                have R1 := fun y : Aft wr.heap.size wr => cell_stays y.h r1
                clear p0 p1 r0 r1 hmul
                have hvq2 : v < q.wanted.length := by rw [HLEN.out]; exact hvt
                go_wp2_with fail
                refine wp_region_aft mixed (by kernel_rfl) ?_
                repeat (go_big_quiet_step (fail))
                refine wpQuiet_nil ?_
                rintro _ ⟨y1, rfl⟩
                have HY : Hid (Below wr.heap.size wr y1.v) := y1.h
                go_wp2_with fail
                go_roundw
                case rel => exact ⟨v + 1, by have := HVT.out; omega, by go_num, HR.out.trans (HY.out.mono HR.out.size)⟩
                case measure => have := HVT.out; simp [intOf]; omega
              · go_wp2_with fail
                refine HK27.out _ _ ?_
                go_wp2_with fail
                refine (awake14 (w := _)).mono ?_
                rintro ee c9 ⟨rfl, hb⟩
                have HX2 := Lib.hid (HBU.out.trans ((HR.out.trans (hb.mono HR.out.size)).mono HBU.out.size))
                clear hb
                go_wp2_with fail
                go_ret
                exact ⟨rfl, (HPX.out _ HX2.out).2.2.2.2⟩
  case false =>
    have h5 := hl2 rfl
    clear hl1 hl2
    rcases hg with rfl | rfl
    · obtain ⟨rfl, hba⟩ := h5 rfl
      have g1 : decide (b < a) = false := by simp; omega
      clear h5 hba he
      refine wp_seq_hid ?_
      intro K17 HK17
      go_wp2_with fail
      refine HK17.out _ _ ?_
      clear HK17 K17
      refine wp_seq_hid ?_
      intro K19 HK19
      go_wp2_with fail
      refine HK19.out _ _ ?_
      clear HK19 K19
      clear g1
      rcases gives_cases HM.out.vp f with ⟨hs, hfo⟩ | ⟨hs, hfo⟩
      · have HSE := Lib.hid hs
        have HFO := Lib.hid hfo
        clear hs hfo
        refine wp_seq_hid ?_
        intro K21 HK21
        obtain ⟨k0, k1, k2, k3, k4, k5, k6, k7, k8, k9⟩ := (HPX.out b16 HB.out).1.1
        obtain ⟨j0, j1⟩ := (HPX.out b16 HB.out).2.2.1
        have G := gives15 (f := f) (c := fc) (HPX.out b16 HB.out).1.2 HSP.out (HPX.out b16 HB.out).2.2.2.1 HFS.out
        rw [HSE.out] at G
        go_wp2_with fail
        refine G.mono ?_
        rintro ee u1 ⟨a3, c3, rfl, hsp, hb⟩
        have HX := Lib.hid (And.intro (HB.out.trans (hb.mono HB.out.size)) hsp)
        clear hb HB G hsp j0 j1 k0 k1 k2 k3 k4 k5 k6 k7 k8 k9
        have HB := HX
        clear HX
        go_wp2_with fail
        refine HK21.out _ _ ?_
        clear HK21 K21
        rcases gives_cases HM.out.vq f with ⟨ht, hfo⟩ | ⟨ht, hfo⟩
        · have HTE := Lib.hid ht
          clear ht hfo
          refine wp_seq_hid ?_
          intro K22 HK22
          obtain ⟨k0, k1, k2, k3, k4, k5, k6, k7, k8, k9⟩ := (HPX.out u1 HB.out.1).2.1.1
          obtain ⟨j0, j1⟩ := (HPX.out u1 HB.out.1).2.2.1
          have G := gives15 (f := f) (c := fc) (HPX.out u1 HB.out.1).2.1.2 HSQ.out (HPX.out u1 HB.out.1).2.2.2.1 HFS.out
          rw [HTE.out] at G
          go_wp2_with fail
          refine G.mono ?_
          rintro ee u2 ⟨a4, c4, rfl, hsp, hb⟩
          have HX := Lib.hid (And.intro (HB.out.1.trans (hb.mono HB.out.1.size)) (And.intro (HB.out.2.mono hb) hsp))
          clear hb HB G hsp j0 j1 k0 k1 k2 k3 k4 k5 k6 k7 k8 k9
          have HB := HX
          clear HX
          go_wp2_with fail
          refine HK22.out _ _ ?_
          clear HK22 K22
          go_wp2_with fail
          refine (awake14 (w := _)).mono ?_
          rintro ee c9 ⟨rfl, hb⟩
          have HX := Lib.hid (HB.out.1.trans (hb.mono HB.out.1.size))
          clear hb
          go_wp2_with fail
          go_ret
          exact ⟨rfl, (HPX.out _ HX.out).2.2.2.2⟩
        · have HTE := Lib.hid ht
          clear ht hfo
          refine wp_seq_hid ?_
          intro K22 HK22
          obtain ⟨k0, k1, k2, k3, k4, k5, k6, k7, k8, k9⟩ := (HPX.out u1 HB.out.1).2.1.1
          obtain ⟨j0, j1⟩ := (HPX.out u1 HB.out.1).2.2.1
          have G := gives15 (f := f) (c := fc) (HPX.out u1 HB.out.1).2.1.2 HSQ.out (HPX.out u1 HB.out.1).2.2.2.1 HFS.out
          rw [HTE.out] at G
          have hgl : ((List.range q.wanted.length).map fun v => q.gives f v).length = q.wanted.length := by simp
          simp only [hgl] at G
          go_wp2_with fail
          refine G.mono ?_
          rintro ee u2 ⟨a4, c4, rfl, hsp, hb⟩
          have HX := Lib.hid (And.intro (HB.out.1.trans (hb.mono HB.out.1.size)) (And.intro (HB.out.2.mono hb) hsp))
          clear hb HB G hsp j0 j1 k0 k1 k2 k3 k4 k5 k6 k7 k8 k9 hgl
          have HB := HX
          clear HX
          go_wp2_with fail
          refine HK22.out _ _ ?_
          clear HK22 K22
          go_wp2_with fail
          refine (awake14 (w := _)).mono ?_
          rintro ee c9 ⟨rfl, hb⟩
          have HX := Lib.hid (HB.out.1.trans (hb.mono HB.out.1.size))
          clear hb
          go_wp2_with fail
          go_ret
          exact ⟨rfl, (HPX.out _ HX.out).2.2.2.2⟩
      · have HSE := Lib.hid hs
        have HFO := Lib.hid hfo
        clear hs hfo
        refine wp_seq_hid ?_
        intro K21 HK21
        obtain ⟨k0, k1, k2, k3, k4, k5, k6, k7, k8, k9⟩ := (HPX.out b16 HB.out).1.1
        obtain ⟨j0, j1⟩ := (HPX.out b16 HB.out).2.2.1
        have G := gives15 (f := f) (c := fc) (HPX.out b16 HB.out).1.2 HSP.out (HPX.out b16 HB.out).2.2.2.1 HFS.out
        rw [HSE.out] at G
        have hgl : ((List.range p.wanted.length).map fun v => p.gives f v).length = p.wanted.length := by simp
        simp only [hgl] at G
        go_wp2_with fail
        refine G.mono ?_
        rintro ee u1 ⟨a3, c3, rfl, hsp, hb⟩
        have HX := Lib.hid (And.intro (HB.out.trans (hb.mono HB.out.size)) hsp)
        clear hb HB G hsp j0 j1 k0 k1 k2 k3 k4 k5 k6 k7 k8 k9 hgl
        have HB := HX
        clear HX
        go_wp2_with fail
        refine HK21.out _ _ ?_
        clear HK21 K21
        rcases gives_cases HM.out.vq f with ⟨ht, hfo⟩ | ⟨ht, hfo⟩
        · have HTE := Lib.hid ht
          clear ht hfo
          refine wp_seq_hid ?_
          intro K22 HK22
          obtain ⟨k0, k1, k2, k3, k4, k5, k6, k7, k8, k9⟩ := (HPX.out u1 HB.out.1).2.1.1
          obtain ⟨j0, j1⟩ := (HPX.out u1 HB.out.1).2.2.1
          have G := gives15 (f := f) (c := fc) (HPX.out u1 HB.out.1).2.1.2 HSQ.out (HPX.out u1 HB.out.1).2.2.2.1 HFS.out
          rw [HTE.out] at G
          go_wp2_with fail
          refine G.mono ?_
          rintro ee u2 ⟨a4, c4, rfl, hsp, hb⟩
          have HX := Lib.hid (And.intro (HB.out.1.trans (hb.mono HB.out.1.size)) (And.intro (HB.out.2.mono hb) hsp))
          clear hb HB G hsp j0 j1 k0 k1 k2 k3 k4 k5 k6 k7 k8 k9
          have HB := HX
          clear HX
          go_wp2_with fail
          refine HK22.out _ _ ?_
          clear HK22 K22
          go_wp2_with fail
          refine (awake14 (w := _)).mono ?_
          rintro ee c9 ⟨rfl, hb⟩
          have HX := Lib.hid (HB.out.1.trans (hb.mono HB.out.1.size))
          clear hb
          go_wp2_with fail
          go_ret
          exact ⟨rfl, (HPX.out _ HX.out).2.2.2.2⟩
        · have HTE := Lib.hid ht
          clear ht hfo
          refine wp_seq_hid ?_
          intro K22 HK22
          obtain ⟨k0, k1, k2, k3, k4, k5, k6, k7, k8, k9⟩ := (HPX.out u1 HB.out.1).2.1.1
          obtain ⟨j0, j1⟩ := (HPX.out u1 HB.out.1).2.2.1
          have G := gives15 (f := f) (c := fc) (HPX.out u1 HB.out.1).2.1.2 HSQ.out (HPX.out u1 HB.out.1).2.2.2.1 HFS.out
          rw [HTE.out] at G
          have hgl : ((List.range q.wanted.length).map fun v => q.gives f v).length = q.wanted.length := by simp
          simp only [hgl] at G
          go_wp2_with fail
          refine G.mono ?_
          rintro ee u2 ⟨a4, c4, rfl, hsp, hb⟩
          have HX := Lib.hid (And.intro (HB.out.1.trans (hb.mono HB.out.1.size)) (And.intro (HB.out.2.mono hb) hsp))
          clear hb HB G hsp j0 j1 k0 k1 k2 k3 k4 k5 k6 k7 k8 k9 hgl
          have HB := HX
          clear HX
          go_wp2_with fail
          refine HK22.out _ _ ?_
          clear HK22 K22
          have hlen : ((p.wanted.length : Int) != (q.wanted.length : Int)) = false := by rw [HM.out.len]; simp
          have hw4 := (wanted_of HM.out.vp).2
          have HLEN := Lib.hid HM.out.len
          have HSPN := Lib.hid HB.out.2.1
          have HTPN := Lib.hid HB.out.2.2
          have HBU := Lib.hid HB.out.1
          clear HB
          refine wp_seq_hid ?_
          intro K23 HK23
          go_wp2_with fail
          refine HK23.out _ _ ?_
          clear HK23 K23
          refine wp_seq_hid ?_
          intro K25 HK25
          go_wp2_with fail
          refine HK25.out _ _ ?_
          clear HK25 K25 hlen
          refine wp_seq_hid ?_
          intro K27 HK27
          go_wp2_with fail
          go_loopw [180] (fun i wr => ∃ v : Nat, v ≤ p.wanted.length ∧ i = .int .i64 v ∧ Hid (Below u2.heap.size u2 wr)) (fun i _ => p.wanted.length - (intOf i).toNat)
          case atStart => exact ⟨0, by omega, rfl, Below.refl _ _⟩
          case round =>
            obtain ⟨v, hv, rfl, HR⟩ := hrel
            by_cases hvt : v < p.wanted.length
            · have hvq : v < q.wanted.length := by rw [HLEN.out]; exact hvt
              obtain ⟨sb, so, hsa, p0, p1⟩ := (HSPN.out.mono HR.out) v (by simpa using hvt)
              obtain ⟨tb, t_o, hta, r0, r1⟩ := (HTPN.out.mono HR.out) v (by simpa using hvq)
              rw [gives_nth hvt, gives_eq] at p0 p1
              rw [gives_nth hvq, gives_eq] at r0 r1
              simp only at p0 p1 r0 r1
              rw [hsa, hta]
              have HSA := Lib.hid (And.intro hsa hta)
              have hfp := fme_parts HFO.out
              have hgd := HM.out.good f.times (by omega) (by omega)
              have hmul : gi f.slots v * (p.good f.times).lo ≤ gi f.slots v * (q.good f.times).lo := Int.mul_le_mul_of_nonneg_left hgd.1 (fme_gi HFO.out v)
              rw [hgd.2] at r1
              have HVT := Lib.hid hvt
              clear hsa hta hfp hgd hvq
              revert p0 p1 r0 r1 hmul
              generalize gi f.slots v * (p.good f.times).lo = x1
              generalize gi f.slots v * (q.good f.times).lo = x2
              generalize gi f.slots v * (p.good f.times).hi = x3
              intro p0 p1 r0 r1 hmul
              have g1 : decide (x2 < x1) = false := by simp; omega
              have P0 := fun y : Aft wr.heap.size wr => cell_stays y.h p0
              have P1 := fun y : Aft wr.heap.size wr => cell_stays y.h p1
              have R0 := fun y : Aft wr.heap.size wr => cell_stays y.h r0
              have R1 := fun y : Aft wr.heap.size wr => cell_stays y.h r1
              clear p0 p1 r0 r1 hmul
              have hvq2 : v < q.wanted.length := by rw [HLEN.out]; exact hvt
              go_wp2_with fail
              refine wp_region_aft mixed (by kernel_rfl) ?_
              repeat (go_big_quiet_step (fail))
              refine wpQuiet_nil ?_
              rintro _ ⟨y1, rfl⟩
              have HY : Hid (Below wr.heap.size wr y1.v) := y1.h
              go_wp2_with fail
              go_roundw
              case rel => exact ⟨v + 1, by have := HVT.out; omega, by go_num, HR.out.trans (HY.out.mono HR.out.size)⟩
              case measure => have := HVT.out; simp [intOf]; omega
            · go_wp2_with fail
              refine HK27.out _ _ ?_
              go_wp2_with fail
              refine (awake14 (w := _)).mono ?_
              rintro ee c9 ⟨rfl, hb⟩
              have HX2 := Lib.hid (HBU.out.trans ((HR.out.trans (hb.mono HR.out.size)).mono HBU.out.size))
              clear hb
              go_wp2_with fail
              go_ret
              exact ⟨rfl, (HPX.out _ HX2.out).2.2.2.2⟩
    · clear h5
      rcases he with rfl | rfl
      · refine wp_seq_hid ?_
        intro K17 HK17
        go_wp2_with fail
        refine HK17.out _ _ ?_
        clear HK17 K17
        refine wp_seq_hid ?_
        intro K19 HK19
        go_wp2_with fail
        refine HK19.out _ _ ?_
        clear HK19 K19
        rcases gives_cases HM.out.vp f with ⟨hs, hfo⟩ | ⟨hs, hfo⟩
        · have HSE := Lib.hid hs
          have HFO := Lib.hid hfo
          clear hs hfo
          refine wp_seq_hid ?_
          intro K21 HK21
          obtain ⟨k0, k1, k2, k3, k4, k5, k6, k7, k8, k9⟩ := (HPX.out b16 HB.out).1.1
          obtain ⟨j0, j1⟩ := (HPX.out b16 HB.out).2.2.1
          have G := gives15 (f := f) (c := fc) (HPX.out b16 HB.out).1.2 HSP.out (HPX.out b16 HB.out).2.2.2.1 HFS.out
          rw [HSE.out] at G
          go_wp2_with fail
          refine G.mono ?_
          rintro ee u1 ⟨a3, c3, rfl, hsp, hb⟩
          have HX := Lib.hid (And.intro (HB.out.trans (hb.mono HB.out.size)) hsp)
          clear hb HB G hsp j0 j1 k0 k1 k2 k3 k4 k5 k6 k7 k8 k9
          have HB := HX
          clear HX
          go_wp2_with fail
          refine HK21.out _ _ ?_
          clear HK21 K21
          rcases gives_cases HM.out.vq f with ⟨ht, hfo⟩ | ⟨ht, hfo⟩
          · have HTE := Lib.hid ht
            clear ht hfo
            refine wp_seq_hid ?_
            intro K22 HK22
            obtain ⟨k0, k1, k2, k3, k4, k5, k6, k7, k8, k9⟩ := (HPX.out u1 HB.out.1).2.1.1
            obtain ⟨j0, j1⟩ := (HPX.out u1 HB.out.1).2.2.1
            have G := gives15 (f := f) (c := fc) (HPX.out u1 HB.out.1).2.1.2 HSQ.out (HPX.out u1 HB.out.1).2.2.2.1 HFS.out
            rw [HTE.out] at G
            go_wp2_with fail
            refine G.mono ?_
            rintro ee u2 ⟨a4, c4, rfl, hsp, hb⟩
            have HX := Lib.hid (And.intro (HB.out.1.trans (hb.mono HB.out.1.size)) (And.intro (HB.out.2.mono hb) hsp))
            clear hb HB G hsp j0 j1 k0 k1 k2 k3 k4 k5 k6 k7 k8 k9
            have HB := HX
            clear HX
            go_wp2_with fail
            refine HK22.out _ _ ?_
            clear HK22 K22
            go_wp2_with fail
            refine (awake14 (w := _)).mono ?_
            rintro ee c9 ⟨rfl, hb⟩
            have HX := Lib.hid (HB.out.1.trans (hb.mono HB.out.1.size))
            clear hb
            go_wp2_with fail
            go_ret
            exact ⟨rfl, (HPX.out _ HX.out).2.2.2.2⟩
          · have HTE := Lib.hid ht
            clear ht hfo
            refine wp_seq_hid ?_
            intro K22 HK22
            obtain ⟨k0, k1, k2, k3, k4, k5, k6, k7, k8, k9⟩ := (HPX.out u1 HB.out.1).2.1.1
            obtain ⟨j0, j1⟩ := (HPX.out u1 HB.out.1).2.2.1
            have G := gives15 (f := f) (c := fc) (HPX.out u1 HB.out.1).2.1.2 HSQ.out (HPX.out u1 HB.out.1).2.2.2.1 HFS.out
            rw [HTE.out] at G
            have hgl : ((List.range q.wanted.length).map fun v => q.gives f v).length = q.wanted.length := by simp
            simp only [hgl] at G
            go_wp2_with fail
            refine G.mono ?_
            rintro ee u2 ⟨a4, c4, rfl, hsp, hb⟩
            have HX := Lib.hid (And.intro (HB.out.1.trans (hb.mono HB.out.1.size)) (And.intro (HB.out.2.mono hb) hsp))
            clear hb HB G hsp j0 j1 k0 k1 k2 k3 k4 k5 k6 k7 k8 k9 hgl
            have HB := HX
            clear HX
            go_wp2_with fail
            refine HK22.out _ _ ?_
            clear HK22 K22
            go_wp2_with fail
            refine (awake14 (w := _)).mono ?_
            rintro ee c9 ⟨rfl, hb⟩
            have HX := Lib.hid (HB.out.1.trans (hb.mono HB.out.1.size))
            clear hb
            go_wp2_with fail
            go_ret
            exact ⟨rfl, (HPX.out _ HX.out).2.2.2.2⟩
        · have HSE := Lib.hid hs
          have HFO := Lib.hid hfo
          clear hs hfo
          refine wp_seq_hid ?_
          intro K21 HK21
          obtain ⟨k0, k1, k2, k3, k4, k5, k6, k7, k8, k9⟩ := (HPX.out b16 HB.out).1.1
          obtain ⟨j0, j1⟩ := (HPX.out b16 HB.out).2.2.1
          have G := gives15 (f := f) (c := fc) (HPX.out b16 HB.out).1.2 HSP.out (HPX.out b16 HB.out).2.2.2.1 HFS.out
          rw [HSE.out] at G
          have hgl : ((List.range p.wanted.length).map fun v => p.gives f v).length = p.wanted.length := by simp
          simp only [hgl] at G
          go_wp2_with fail
          refine G.mono ?_
          rintro ee u1 ⟨a3, c3, rfl, hsp, hb⟩
          have HX := Lib.hid (And.intro (HB.out.trans (hb.mono HB.out.size)) hsp)
          clear hb HB G hsp j0 j1 k0 k1 k2 k3 k4 k5 k6 k7 k8 k9 hgl
          have HB := HX
          clear HX
          go_wp2_with fail
          refine HK21.out _ _ ?_
          clear HK21 K21
          rcases gives_cases HM.out.vq f with ⟨ht, hfo⟩ | ⟨ht, hfo⟩
          · have HTE := Lib.hid ht
            clear ht hfo
            refine wp_seq_hid ?_
            intro K22 HK22
            obtain ⟨k0, k1, k2, k3, k4, k5, k6, k7, k8, k9⟩ := (HPX.out u1 HB.out.1).2.1.1
            obtain ⟨j0, j1⟩ := (HPX.out u1 HB.out.1).2.2.1
            have G := gives15 (f := f) (c := fc) (HPX.out u1 HB.out.1).2.1.2 HSQ.out (HPX.out u1 HB.out.1).2.2.2.1 HFS.out
            rw [HTE.out] at G
            go_wp2_with fail
            refine G.mono ?_
            rintro ee u2 ⟨a4, c4, rfl, hsp, hb⟩
            have HX := Lib.hid (And.intro (HB.out.1.trans (hb.mono HB.out.1.size)) (And.intro (HB.out.2.mono hb) hsp))
            clear hb HB G hsp j0 j1 k0 k1 k2 k3 k4 k5 k6 k7 k8 k9
            have HB := HX
            clear HX
            go_wp2_with fail
            refine HK22.out _ _ ?_
            clear HK22 K22
            go_wp2_with fail
            refine (awake14 (w := _)).mono ?_
            rintro ee c9 ⟨rfl, hb⟩
            have HX := Lib.hid (HB.out.1.trans (hb.mono HB.out.1.size))
            clear hb
            go_wp2_with fail
            go_ret
            exact ⟨rfl, (HPX.out _ HX.out).2.2.2.2⟩
          · have HTE := Lib.hid ht
            clear ht hfo
            refine wp_seq_hid ?_
            intro K22 HK22
            obtain ⟨k0, k1, k2, k3, k4, k5, k6, k7, k8, k9⟩ := (HPX.out u1 HB.out.1).2.1.1
            obtain ⟨j0, j1⟩ := (HPX.out u1 HB.out.1).2.2.1
            have G := gives15 (f := f) (c := fc) (HPX.out u1 HB.out.1).2.1.2 HSQ.out (HPX.out u1 HB.out.1).2.2.2.1 HFS.out
            rw [HTE.out] at G
            have hgl : ((List.range q.wanted.length).map fun v => q.gives f v).length = q.wanted.length := by simp
            simp only [hgl] at G
            go_wp2_with fail
            refine G.mono ?_
            rintro ee u2 ⟨a4, c4, rfl, hsp, hb⟩
            have HX := Lib.hid (And.intro (HB.out.1.trans (hb.mono HB.out.1.size)) (And.intro (HB.out.2.mono hb) hsp))
            clear hb HB G hsp j0 j1 k0 k1 k2 k3 k4 k5 k6 k7 k8 k9 hgl
            have HB := HX
            clear HX
            go_wp2_with fail
            refine HK22.out _ _ ?_
            clear HK22 K22
            have hlen : ((p.wanted.length : Int) != (q.wanted.length : Int)) = false := by rw [HM.out.len]; simp
            have hw4 := (wanted_of HM.out.vp).2
            have HLEN := Lib.hid HM.out.len
            have HSPN := Lib.hid HB.out.2.1
            have HTPN := Lib.hid HB.out.2.2
            have HBU := Lib.hid HB.out.1
            clear HB
            refine wp_seq_hid ?_
            intro K23 HK23
            go_wp2_with fail
            refine HK23.out _ _ ?_
            clear HK23 K23
            refine wp_seq_hid ?_
            intro K25 HK25
            go_wp2_with fail
            refine HK25.out _ _ ?_
            clear HK25 K25 hlen
            refine wp_seq_hid ?_
            intro K27 HK27
            go_wp2_with fail
            go_loopw [180] (fun i wr => ∃ v : Nat, v ≤ p.wanted.length ∧ i = .int .i64 v ∧ Hid (Below u2.heap.size u2 wr)) (fun i _ => p.wanted.length - (intOf i).toNat)
            case atStart => exact ⟨0, by omega, rfl, Below.refl _ _⟩
            case round =>
              obtain ⟨v, hv, rfl, HR⟩ := hrel
              by_cases hvt : v < p.wanted.length
              · have hvq : v < q.wanted.length := by rw [HLEN.out]; exact hvt
                obtain ⟨sb, so, hsa, p0, p1⟩ := (HSPN.out.mono HR.out) v (by simpa using hvt)
                obtain ⟨tb, t_o, hta, r0, r1⟩ := (HTPN.out.mono HR.out) v (by simpa using hvq)
                rw [gives_nth hvt, gives_eq] at p0 p1
                rw [gives_nth hvq, gives_eq] at r0 r1
                simp only at p0 p1 r0 r1
                rw [hsa, hta]
                have HSA := Lib.hid (And.intro hsa hta)
                have hfp := fme_parts HFO.out
                have hgd := HM.out.good f.times (by omega) (by omega)
                have hmul : gi f.slots v * (p.good f.times).lo ≤ gi f.slots v * (q.good f.times).lo := Int.mul_le_mul_of_nonneg_left hgd.1 (fme_gi HFO.out v)
                rw [hgd.2] at r1
                have HVT := Lib.hid hvt
                clear hsa hta hfp hgd hvq
                revert p0 p1 r0 r1 hmul
                generalize gi f.slots v * (p.good f.times).lo = x1
                generalize gi f.slots v * (q.good f.times).lo = x2
                generalize gi f.slots v * (p.good f.times).hi = x3
                intro p0 p1 r0 r1 hmul
                have g1 : decide (x2 < x1) = false := by simp; omega
                have P0 := fun y : Aft wr.heap.size wr => cell_stays y.h p0
                have P1 := fun y : Aft wr.heap.size wr => cell_stays y.h p1
                have R0 := fun y : Aft wr.heap.size wr => cell_stays y.h r0
                have R1 := fun y : Aft wr.heap.size wr => cell_stays y.h r1
                clear p0 p1 r0 r1 hmul
                have hvq2 : v < q.wanted.length := by rw [HLEN.out]; exact hvt
                go_wp2_with fail
                refine wp_region_aft mixed (by kernel_rfl) ?_
                repeat (go_big_quiet_step (fail))
                refine wpQuiet_nil ?_
                rintro _ ⟨y1, rfl⟩
                have HY : Hid (Below wr.heap.size wr y1.v) := y1.h
                go_wp2_with fail
                go_roundw
                case rel => exact ⟨v + 1, by have := HVT.out; omega, by go_num, HR.out.trans (HY.out.mono HR.out.size)⟩
                case measure => have := HVT.out; simp [intOf]; omega
              · go_wp2_with fail
                refine HK27.out _ _ ?_
                go_wp2_with fail
                refine (awake14 (w := _)).mono ?_
                rintro ee c9 ⟨rfl, hb⟩
                have HX2 := Lib.hid (HBU.out.trans ((HR.out.trans (hb.mono HR.out.size)).mono HBU.out.size))
                clear hb
                go_wp2_with fail
                go_ret
                exact ⟨rfl, (HPX.out _ HX2.out).2.2.2.2⟩
      · refine wp_seq_hid ?_
        intro K17 HK17
        go_wp2_with fail
        refine HK17.out _ _ ?_
        clear HK17 K17
        refine wp_seq_hid ?_
        intro K19 HK19
        go_wp2_with fail
        refine HK19.out _ _ ?_
        clear HK19 K19
        rcases gives_cases HM.out.vp f with ⟨hs, hfo⟩ | ⟨hs, hfo⟩
        · have HSE := Lib.hid hs
          have HFO := Lib.hid hfo
          clear hs hfo
          refine wp_seq_hid ?_
          intro K21 HK21
          obtain ⟨k0, k1, k2, k3, k4, k5, k6, k7, k8, k9⟩ := (HPX.out b16 HB.out).1.1
          obtain ⟨j0, j1⟩ := (HPX.out b16 HB.out).2.2.1
          have G := gives15 (f := f) (c := fc) (HPX.out b16 HB.out).1.2 HSP.out (HPX.out b16 HB.out).2.2.2.1 HFS.out
          rw [HSE.out] at G
          go_wp2_with fail
          refine G.mono ?_
          rintro ee u1 ⟨a3, c3, rfl, hsp, hb⟩
          have HX := Lib.hid (And.intro (HB.out.trans (hb.mono HB.out.size)) hsp)
          clear hb HB G hsp j0 j1 k0 k1 k2 k3 k4 k5 k6 k7 k8 k9
          have HB := HX
          clear HX
          go_wp2_with fail
          refine HK21.out _ _ ?_
          clear HK21 K21
          rcases gives_cases HM.out.vq f with ⟨ht, hfo⟩ | ⟨ht, hfo⟩
          · have HTE := Lib.hid ht
            clear ht hfo
            refine wp_seq_hid ?_
            intro K22 HK22
            obtain ⟨k0, k1, k2, k3, k4, k5, k6, k7, k8, k9⟩ := (HPX.out u1 HB.out.1).2.1.1
            obtain ⟨j0, j1⟩ := (HPX.out u1 HB.out.1).2.2.1
            have G := gives15 (f := f) (c := fc) (HPX.out u1 HB.out.1).2.1.2 HSQ.out (HPX.out u1 HB.out.1).2.2.2.1 HFS.out
            rw [HTE.out] at G
            go_wp2_with fail
            refine G.mono ?_
            rintro ee u2 ⟨a4, c4, rfl, hsp, hb⟩
            have HX := Lib.hid (And.intro (HB.out.1.trans (hb.mono HB.out.1.size)) (And.intro (HB.out.2.mono hb) hsp))
            clear hb HB G hsp j0 j1 k0 k1 k2 k3 k4 k5 k6 k7 k8 k9
            have HB := HX
            clear HX
            go_wp2_with fail
            refine HK22.out _ _ ?_
            clear HK22 K22
            go_wp2_with fail
            refine (awake14 (w := _)).mono ?_
            rintro ee c9 ⟨rfl, hb⟩
            have HX := Lib.hid (HB.out.1.trans (hb.mono HB.out.1.size))
            clear hb
            go_wp2_with fail
            go_ret
            exact ⟨rfl, (HPX.out _ HX.out).2.2.2.2⟩
          · have HTE := Lib.hid ht
            clear ht hfo
            refine wp_seq_hid ?_
            intro K22 HK22
            obtain ⟨k0, k1, k2, k3, k4, k5, k6, k7, k8, k9⟩ := (HPX.out u1 HB.out.1).2.1.1
            obtain ⟨j0, j1⟩ := (HPX.out u1 HB.out.1).2.2.1
            have G := gives15 (f := f) (c := fc) (HPX.out u1 HB.out.1).2.1.2 HSQ.out (HPX.out u1 HB.out.1).2.2.2.1 HFS.out
            rw [HTE.out] at G
            have hgl : ((List.range q.wanted.length).map fun v => q.gives f v).length = q.wanted.length := by simp
            simp only [hgl] at G
            go_wp2_with fail
            refine G.mono ?_
            rintro ee u2 ⟨a4, c4, rfl, hsp, hb⟩
            have HX := Lib.hid (And.intro (HB.out.1.trans (hb.mono HB.out.1.size)) (And.intro (HB.out.2.mono hb) hsp))
            clear hb HB G hsp j0 j1 k0 k1 k2 k3 k4 k5 k6 k7 k8 k9 hgl
            have HB := HX
            clear HX
            go_wp2_with fail
            refine HK22.out _ _ ?_
            clear HK22 K22
            go_wp2_with fail
            refine (awake14 (w := _)).mono ?_
            rintro ee c9 ⟨rfl, hb⟩
            have HX := Lib.hid (HB.out.1.trans (hb.mono HB.out.1.size))
            clear hb
            go_wp2_with fail
            go_ret
            exact ⟨rfl, (HPX.out _ HX.out).2.2.2.2⟩
        · have HSE := Lib.hid hs
          have HFO := Lib.hid hfo
          clear hs hfo
          refine wp_seq_hid ?_
          intro K21 HK21
          obtain ⟨k0, k1, k2, k3, k4, k5, k6, k7, k8, k9⟩ := (HPX.out b16 HB.out).1.1
          obtain ⟨j0, j1⟩ := (HPX.out b16 HB.out).2.2.1
          have G := gives15 (f := f) (c := fc) (HPX.out b16 HB.out).1.2 HSP.out (HPX.out b16 HB.out).2.2.2.1 HFS.out
          rw [HSE.out] at G
          have hgl : ((List.range p.wanted.length).map fun v => p.gives f v).length = p.wanted.length := by simp
          simp only [hgl] at G
          go_wp2_with fail
          refine G.mono ?_
          rintro ee u1 ⟨a3, c3, rfl, hsp, hb⟩
          have HX := Lib.hid (And.intro (HB.out.trans (hb.mono HB.out.size)) hsp)
          clear hb HB G hsp j0 j1 k0 k1 k2 k3 k4 k5 k6 k7 k8 k9 hgl
          have HB := HX
          clear HX
          go_wp2_with fail
          refine HK21.out _ _ ?_
          clear HK21 K21
          rcases gives_cases HM.out.vq f with ⟨ht, hfo⟩ | ⟨ht, hfo⟩
          · have HTE := Lib.hid ht
            clear ht hfo
            refine wp_seq_hid ?_
            intro K22 HK22
            obtain ⟨k0, k1, k2, k3, k4, k5, k6, k7, k8, k9⟩ := (HPX.out u1 HB.out.1).2.1.1
            obtain ⟨j0, j1⟩ := (HPX.out u1 HB.out.1).2.2.1
            have G := gives15 (f := f) (c := fc) (HPX.out u1 HB.out.1).2.1.2 HSQ.out (HPX.out u1 HB.out.1).2.2.2.1 HFS.out
            rw [HTE.out] at G
            go_wp2_with fail
            refine G.mono ?_
            rintro ee u2 ⟨a4, c4, rfl, hsp, hb⟩
            have HX := Lib.hid (And.intro (HB.out.1.trans (hb.mono HB.out.1.size)) (And.intro (HB.out.2.mono hb) hsp))
            clear hb HB G hsp j0 j1 k0 k1 k2 k3 k4 k5 k6 k7 k8 k9
            have HB := HX
            clear HX
            go_wp2_with fail
            refine HK22.out _ _ ?_
            clear HK22 K22
            go_wp2_with fail
            refine (awake14 (w := _)).mono ?_
            rintro ee c9 ⟨rfl, hb⟩
            have HX := Lib.hid (HB.out.1.trans (hb.mono HB.out.1.size))
            clear hb
            go_wp2_with fail
            go_ret
            exact ⟨rfl, (HPX.out _ HX.out).2.2.2.2⟩
          · have HTE := Lib.hid ht
            clear ht hfo
            refine wp_seq_hid ?_
            intro K22 HK22
            obtain ⟨k0, k1, k2, k3, k4, k5, k6, k7, k8, k9⟩ := (HPX.out u1 HB.out.1).2.1.1
            obtain ⟨j0, j1⟩ := (HPX.out u1 HB.out.1).2.2.1
            have G := gives15 (f := f) (c := fc) (HPX.out u1 HB.out.1).2.1.2 HSQ.out (HPX.out u1 HB.out.1).2.2.2.1 HFS.out
            rw [HTE.out] at G
            have hgl : ((List.range q.wanted.length).map fun v => q.gives f v).length = q.wanted.length := by simp
            simp only [hgl] at G
            go_wp2_with fail
            refine G.mono ?_
            rintro ee u2 ⟨a4, c4, rfl, hsp, hb⟩
            have HX := Lib.hid (And.intro (HB.out.1.trans (hb.mono HB.out.1.size)) (And.intro (HB.out.2.mono hb) hsp))
            clear hb HB G hsp j0 j1 k0 k1 k2 k3 k4 k5 k6 k7 k8 k9 hgl
            have HB := HX
            clear HX
            go_wp2_with fail
            refine HK22.out _ _ ?_
            clear HK22 K22
            have hlen : ((p.wanted.length : Int) != (q.wanted.length : Int)) = false := by rw [HM.out.len]; simp
            have hw4 := (wanted_of HM.out.vp).2
            have HLEN := Lib.hid HM.out.len
            have HSPN := Lib.hid HB.out.2.1
            have HTPN := Lib.hid HB.out.2.2
            have HBU := Lib.hid HB.out.1
            clear HB
            refine wp_seq_hid ?_
            intro K23 HK23
            go_wp2_with fail
            refine HK23.out _ _ ?_
            clear HK23 K23
            refine wp_seq_hid ?_
            intro K25 HK25
            go_wp2_with fail
            refine HK25.out _ _ ?_
            clear HK25 K25 hlen
            refine wp_seq_hid ?_
            intro K27 HK27
            go_wp2_with fail
            go_loopw [180] (fun i wr => ∃ v : Nat, v ≤ p.wanted.length ∧ i = .int .i64 v ∧ Hid (Below u2.heap.size u2 wr)) (fun i _ => p.wanted.length - (intOf i).toNat)
            case atStart => exact ⟨0, by omega, rfl, Below.refl _ _⟩
            case round =>
              obtain ⟨v, hv, rfl, HR⟩ := hrel
              by_cases hvt : v < p.wanted.length
              · have hvq : v < q.wanted.length := by rw [HLEN.out]; exact hvt
                obtain ⟨sb, so, hsa, p0, p1⟩ := (HSPN.out.mono HR.out) v (by simpa using hvt)
                obtain ⟨tb, t_o, hta, r0, r1⟩ := (HTPN.out.mono HR.out) v (by simpa using hvq)
                rw [gives_nth hvt, gives_eq] at p0 p1
                rw [gives_nth hvq, gives_eq] at r0 r1
                simp only at p0 p1 r0 r1
                rw [hsa, hta]
                have HSA := Lib.hid (And.intro hsa hta)
                have hfp := fme_parts HFO.out
                have hgd := HM.out.good f.times (by omega) (by omega)
                have hmul : gi f.slots v * (p.good f.times).lo ≤ gi f.slots v * (q.good f.times).lo := Int.mul_le_mul_of_nonneg_left hgd.1 (fme_gi HFO.out v)
                rw [hgd.2] at r1
                have HVT := Lib.hid hvt
                clear hsa hta hfp hgd hvq
                revert p0 p1 r0 r1 hmul
                generalize gi f.slots v * (p.good f.times).lo = x1
                generalize gi f.slots v * (q.good f.times).lo = x2
                generalize gi f.slots v * (p.good f.times).hi = x3
                intro p0 p1 r0 r1 hmul
                have g1 : decide (x2 < x1) = false := by simp; omega
                have P0 := fun y : Aft wr.heap.size wr => cell_stays y.h p0
                have P1 := fun y : Aft wr.heap.size wr => cell_stays y.h p1
                have R0 := fun y : Aft wr.heap.size wr => cell_stays y.h r0
                have R1 := fun y : Aft wr.heap.size wr => cell_stays y.h r1
                clear p0 p1 r0 r1 hmul
                have hvq2 : v < q.wanted.length := by rw [HLEN.out]; exact hvt
                go_wp2_with fail
                refine wp_region_aft mixed (by kernel_rfl) ?_
                repeat (go_big_quiet_step (fail))
                refine wpQuiet_nil ?_
                rintro _ ⟨y1, rfl⟩
                have HY : Hid (Below wr.heap.size wr y1.v) := y1.h
                go_wp2_with fail
                go_roundw
                case rel => exact ⟨v + 1, by have := HVT.out; omega, by go_num, HR.out.trans (HY.out.mono HR.out.size)⟩
                case measure => have := HVT.out; simp [intOf]; omega
              · go_wp2_with fail
                refine HK27.out _ _ ?_
                go_wp2_with fail
                refine (awake14 (w := _)).mono ?_
                rintro ee c9 ⟨rfl, hb⟩
                have HX2 := Lib.hid (HBU.out.trans ((HR.out.trans (hb.mono HR.out.size)).mono HBU.out.size))
                clear hb
                go_wp2_with fail
                go_ret
                exact ⟨rfl, (HPX.out _ HX2.out).2.2.2.2⟩
end Go.Proofs.Ytjkhclijmcmdjaa
namespace Go.Proofs.Ytjkhclijmcmdjaa
open Go.RowKit
set_option linter.unusedVariables false
set_option linter.unusedSimpArgs false
/-- While a press is turned: its block, the other one's, the row. -/
structure MorW (w : World) (p q : Prs) (A : PrsA) (f : Fme) (fa : Option Addr) (fc g cg b3 b4 b7 : Nat) (l : List Int) (v : World) : Prop where
  below : Below w.heap.size w v
  h3 : v.heap[b3]? = some (.cells (p.arr ⟨A.aw, A.cw, none, 0⟩) 27 (0, 0))
  h4 : v.heap[b4]? = some (.cells (f.arr fa fc) 29 (0, 0))
  h7 : v.heap[b7]? = some (.cells (q.arr ⟨some ⟨g, 0, none⟩, cg, none, 0⟩) 27 (0, 0))
  row : IRow g l v
structure MorB (w : World) (g b3 b4 b7 : Nat) : Prop where
  pg : w.heap.size ≤ g
  p3 : w.heap.size ≤ b3
  p7 : w.heap.size ≤ b7
  n1 : b7 ≠ b3
  n2 : b7 ≠ b4
  n3 : g ≠ b3
  n4 : g ≠ b4
  n5 : g ≠ b7
  n6 : b3 ≠ b4
theorem MorW.mono {w : World} {p q : Prs} {A : PrsA} {f : Fme} {fa : Option Addr} {fc g cg b3 b4 b7 : Nat} {l : List Int} {v v' : World} (h : MorW w p q A f fa fc g cg b3 b4 b7 l v) (hb : Below v.heap.size v v') : MorW w p q A f fa fc g cg b3 b4 b7 l v' :=
  ⟨h.below.trans (hb.mono h.below.size), (hb.block _ (heap_lt h.h3)).trans h.h3, (hb.block _ (heap_lt h.h4)).trans h.h4, (hb.block _ (heap_lt h.h7)).trans h.h7, h.row.mono hb⟩
theorem MorW.set7 {w : World} {p q q' : Prs} {A : PrsA} {f : Fme} {fa : Option Addr} {fc g cg b3 b4 b7 j : Nat} {l : List Int} {v : World} {x : Value} (h : MorW w p q A f fa fc g cg b3 b4 b7 l v) (B : MorB w g b3 b4 b7) (e : (q.arr ⟨some ⟨g, 0, none⟩, cg, none, 0⟩).setIfInBounds j x = q'.arr ⟨some ⟨g, 0, none⟩, cg, none, 0⟩) :
    MorW w p q' A f fa fc g cg b3 b4 b7 l (v.setCell ⟨b7, j, none⟩ x) :=
  ⟨h.below.setCell (p := ⟨b7, _, none⟩) B.p7 _, (Below.heap_setCell _ _ _ _ (Ne.symm B.n1)).trans h.h3, (Below.heap_setCell _ _ _ _ (Ne.symm B.n2)).trans h.h4, by rw [← e]; exact heap_setCell_at (k := j) h.h7 x, h.row.other (Ne.symm B.n5)⟩
theorem more_px {w : World} {p q : Prs} {A : PrsA} {f : Fme} {fa : Option Addr} {fc g cg b3 b4 b7 : Nat} {v : World} (h : MorW w p q A f fa fc g cg b3 b4 b7 q.wanted v) (hw : IsInts w A.aw p.wanted) (hf : IsInts w fa f.slots) (hp : p.deals = []) (hq : q.deals = []) :
    (PrsC v b3 p ⟨A.aw, A.cw, none, 0⟩ ∧ IsPrs v p ⟨A.aw, A.cw, none, 0⟩) ∧ (PrsC v b7 q ⟨some ⟨g, 0, none⟩, cg, none, 0⟩ ∧ IsPrs v q ⟨some ⟨g, 0, none⟩, cg, none, 0⟩) ∧ (v.cell? ⟨b4, 0, none⟩ = some (.slice fa f.slots.length fc) ∧ v.cell? ⟨b4, 1, none⟩ = some (.int .i64 f.times)) ∧ IsInts v fa f.slots ∧ Below w.heap.size w v :=
  ⟨⟨prs_cells h.h3, hw.mono h.below, fun i hi => by rw [hp] at hi; simp at hi⟩, ⟨prs_cells h.h7, h.row.ints, fun i hi => by rw [hq] at hi; simp at hi⟩, ⟨by rw [cell_of_heap h.h4]; rfl, by rw [cell_of_heap h.h4]; rfl⟩, hf.mono h.below, h.below⟩
theorem bare_small {p : Prs} (h : p.Small) : p.bare.Small := ⟨h.wanted, by simp [Prs.bare], fun d hd => by simp [Prs.bare] at hd⟩
set_option maxRecDepth 100000 in
set_option maxHeartbeats 8000000 in
theorem stockMore_any {p : Prs} {A : PrsA} {w : World} (hP : IsPrs w p A) {f : Fme} {fa : Option Addr} {fc : Nat} (hf : IsInts w fa f.slots) {n : Int} (hn : 0 ≤ n ∧ n ≤ 255) :
    Calls Try.prog 11 #[p.v A, f.v fa fc, .int .u8 n] w fun e w' => e = .returned (.bool true) ∧ Below w.heap.size w w' := by
  have hX := alloc2 w (p.arr A) (f.arr fa fc) 27 29
  have HW := Lib.hid (And.intro hX (And.intro (hP.mono hX.2.2) (hf.mono hX.2.2)))
  have HP0 := Lib.hid (And.intro hP.wanted hf)
  clear hX hP hf
  go_enter Try.func11, Try.ntmps11
  refine wp_seq_hid ?_
  intro K0 HK0
  go_wp2_with fail
  refine HK0.out _ _ ?_
  clear HK0 K0
  refine wp_seq_hid ?_
  intro K1 HK1
  revert HW
  generalize (w.alloc (.cells (p.arr A) 27)).alloc (.cells (f.arr fa fc) 29) = w1
  intro HW
  have KP : Hid (∀ v, Below w1.heap.size w1 v → PrsC v w.heap.size p A ∧ IsPrs v p A ∧ (v.cell? ⟨w.heap.size + 1, 0, none⟩ = some (.slice fa f.slots.length fc) ∧ v.cell? ⟨w.heap.size + 1, 1, none⟩ = some (.int .i64 f.times)) ∧ IsInts v fa f.slots ∧ Below w.heap.size w v) := fun v h => by
    have q := (h.block _ (heap_lt HW.out.1.2.1)).trans HW.out.1.2.1
    exact ⟨prs_cells ((h.block _ (heap_lt HW.out.1.1)).trans HW.out.1.1), HW.out.2.1.mono h, ⟨by rw [cell_of_heap q]; rfl, by rw [cell_of_heap q]; rfl⟩, HW.out.2.2.mono h, HW.out.1.2.2.trans (h.mono HW.out.1.2.2.size)⟩
  have KQ : Hid (∀ v, Below w1.heap.size w1 v → v.heap[w.heap.size]? = some (.cells (p.arr A) 27 (0, 0)) ∧ v.heap[w.heap.size + 1]? = some (.cells (f.arr fa fc) 29 (0, 0))) := fun v h => ⟨(h.block _ (heap_lt HW.out.1.1)).trans HW.out.1.1, (h.block _ (heap_lt HW.out.1.2.1)).trans HW.out.1.2.1⟩
  have HAL : Hid (Below w1.heap.size w1 (w1.alloc (.cells (f.arr fa fc) 29))) := (Below.refl _ w1).alloc (Nat.le_refl _) _
  have HFM := Lib.hid (fmes_one (f := f) (World.alloc_heap_new w1 (.cells (f.arr fa fc) 29)) ((KP.out w1 (Below.refl _ w1)).2.2.2.1.mono HAL.out))
  obtain ⟨j0, j1⟩ := (KP.out w1 (Below.refl _ w1)).2.2.1
  obtain ⟨k0, k1, k2, k3, k4, k5, k6, k7, k8, k9⟩ := (KP.out w1 (Below.refl _ w1)).1
  go_wp2_with fail
  refine (far13 (l := [f]) (c := 1) (KP.out _ HAL.out).2.1 HFM.out).mono ?_
  rintro e b1 ⟨rfl, hb⟩
  have HB := Lib.hid (HAL.out.trans (hb.mono HAL.out.size))
  clear hb k0 k1 k2 k3 k4 k5 k6 k7 k8 k9 j0 j1 HFM HAL
  cases hfar : farB p [f]
  case true =>
    go_wp2_with fail
    refine (awake14 (w := _)).mono ?_
    rintro e c1 ⟨rfl, hb⟩
    have HX := Lib.hid (HB.out.trans (hb.mono HB.out.size))
    clear hb
    go_wp2_with fail
    go_ret
    exact ⟨rfl, (KP.out _ HX.out).2.2.2.2⟩
  have HS := Lib.hid (far_small hfar)
  clear hfar
  obtain ⟨k0, k1, k2, k3, k4, k5, k6, k7, k8, k9⟩ := (KP.out b1 HB.out).1
  go_wp2_with fail
  refine (heavy22 (r := 4) (n := 15) (KP.out b1 HB.out).2.1 HS.out.1).mono ?_
  rintro e b2 ⟨rfl, hb⟩
  have HX := Lib.hid (HB.out.trans (hb.mono HB.out.size))
  clear hb HB k0 k1 k2 k3 k4 k5 k6 k7 k8 k9
  have HB := HX
  clear HX
  cases hh : heavyB p 4 15
  case true =>
    go_wp2_with fail
    refine (awake14 (w := _)).mono ?_
    rintro e c1 ⟨rfl, hb⟩
    have HX := Lib.hid (HB.out.trans (hb.mono HB.out.size))
    clear hb
    go_wp2_with fail
    go_ret
    exact ⟨rfl, (KP.out _ HX.out).2.2.2.2⟩
  clear hh
  have G := rpress33 (KP.out b2 HB.out).2.1 HS.out.1
  obtain ⟨k0, k1, k2, k3, k4, k5, k6, k7, k8, k9⟩ := (KP.out b2 HB.out).1
  go_wp2_with fail
  refine (G).mono ?_
  rintro e b3 ⟨rfl, hb⟩
  have HX := Lib.hid (HB.out.trans (hb.mono HB.out.size))
  clear hb HB G k0 k1 k2 k3 k4 k5 k6 k7 k8 k9
  have HB := HX
  clear HX
  cases hv : p.valid
  case false =>
    go_wp2_with fail
    refine (awake14 (w := _)).mono ?_
    rintro e c1 ⟨rfl, hb⟩
    have HX := Lib.hid (HB.out.trans (hb.mono HB.out.size))
    clear hb
    go_wp2_with fail
    go_ret
    exact ⟨rfl, (KP.out _ HX.out).2.2.2.2⟩
  have HV := Lib.hid hv
  have hw4 := wanted_of hv
  have HW4 := Lib.hid hw4
  clear hv
  go_wp2_with fail
  refine HK1.out _ _ ?_
  clear HK1 K1
  refine wp_seq_hid ?_
  intro K3 HK3
  obtain ⟨k0, k1, k2, k3, k4, k5, k6, k7, k8, k9⟩ := (KP.out b3 HB.out).1
  have hcv : IntKind.i64.wrap n = n := IntWalk.i64_in _ (by omega)
  have HAX := Lib.hid (World.alloc_heap_new b3 (.cells (p.arr A) 27))
  have HBX : Hid (Below b3.heap.size b3 (b3.alloc (.cells (p.arr A) 27))) := (Below.refl _ b3).alloc (Nat.le_refl _) _
  have HSZ : Hid ((b3.alloc (.cells (p.arr A) 27)).heap.size = b3.heap.size + 1) := World.size_alloc ..
  go_wp2_with fail
  refine HK3.out _ _ ?_
  clear HK3 K3 hcv k0 k1 k2 k3 k4 k5 k6 k7 k8 k9
  revert HAX HBX HSZ
  generalize b3.alloc (.cells (p.arr A) 27) = v1
  generalize hb7 : b3.heap.size = b7
  intro HAX HBX HSZ
  have HB7 : Hid (b3.heap.size = b7) := hb7
  clear hb7
  have HV1 : Hid (Below w1.heap.size w1 v1) := by
    have h1 := HB.out
    have h2 := HBX.out
    rw [← HB7.out] at h2
    exact h1.trans (h2.mono h1.size)
  have HGE : Hid (w.heap.size + 2 ≤ b7) := by
    have h1 := (HB.out).size
    have h2 := heap_lt HW.out.1.2.1
    rw [Hid, ← HB7.out]
    omega
  have hb2 : Below v1.heap.size v1 (v1.alloc (.cells #[] 3)) := (Below.refl _ v1).alloc (Nat.le_refl _) _
  obtain ⟨g, cg, v2, hrun, hg, hrow, hbw⟩ := icopy (W := v1) (w := v1.alloc (.cells #[] 3)) (cv := A.cw) (by omega) (by omega) hb2 (ownsRow_zero (Nat.le_refl _)) ((KP.out _ HV1.out).2.1.wanted.mono hb2)
  have HRUN := Lib.hid hrun
  have HROW := Lib.hid hrow
  have HGV : Hid (v1.heap.size ≤ g) := hg
  have HBW := Lib.hid hbw
  clear hb2 hrun hrow hg hbw
  have HQ7 := Lib.hid ((HBW.out.block _ (heap_lt HAX.out)).trans HAX.out)
  have HQ34 := Lib.hid (KQ.out v2 (HV1.out.trans (HBW.out.mono HV1.out.size)))
  have y9 : v2.cell? ⟨b7, 9, none⟩ = some (.slice A.ad p.deals.length A.cd) := by rw [cell_of_heap HQ7.out]; rfl
  have y6 : v2.cell? ⟨b7, 6, none⟩ = some (.slice A.aw p.wanted.length A.cw) := by rw [cell_of_heap HQ7.out]; rfl
  have f7 : ∀ k, v2.frozen? ⟨b7, k, none⟩ = false := fun k => frozen_of_heap HQ7.out
  have z9 : v2.cell? ⟨w.heap.size, 9, none⟩ = some (.slice A.ad p.deals.length A.cd) := by rw [cell_of_heap HQ34.out.1]; rfl
  have f3 : ∀ k, v2.frozen? ⟨w.heap.size, k, none⟩ = false := fun k => frozen_of_heap HQ34.out.1
  have pc := (KP.out v1 HV1.out).1
  have c6 := pc.c6
  have c6b : (v1.alloc (.cells #[] 3)).cell? ⟨w.heap.size, 6, none⟩ = some (.slice A.aw p.wanted.length A.cw) := cell_stays ((Below.refl _ v1).alloc (Nat.le_refl _) _) c6
  clear pc
  have hv1lt : Hid (b7 < v1.heap.size) := heap_lt HAX.out
  have HMB : Hid (MorB w g w.heap.size (w.heap.size + 1) b7) := by
    have h1 := HGE.out
    have h2 := HGV.out
    have h3 := hv1lt.out
    exact ⟨by omega, by omega, by omega, by omega, by omega, by omega, by omega, by omega, by omega⟩
  have x1 := heap_setCell_at (k := 9) HQ7.out (.slice none 0 0)
  have x2 := heap_setCell_at (k := 6) x1 (.slice (some ⟨g, 0, none⟩) p.wanted.length cg)
  have x3 : ((v2.setCell ⟨b7, 9, none⟩ (.slice none 0 0)).setCell ⟨b7, 6, none⟩ (.slice (some ⟨g, 0, none⟩) p.wanted.length cg)).heap[w.heap.size]? = some (.cells (p.arr A) 27 (0, 0)) := (Below.heap_setCell _ _ _ _ (Ne.symm HMB.out.n1)).trans ((Below.heap_setCell _ _ _ _ (Ne.symm HMB.out.n1)).trans HQ34.out.1)
  have x4 := heap_setCell_at (k := 9) x3 (.slice none 0 0)
  have HM : Hid (MorW w p.bare p.bare A f fa fc g cg w.heap.size (w.heap.size + 1) b7 p.wanted (((v2.setCell ⟨b7, 9, none⟩ (.slice none 0 0)).setCell ⟨b7, 6, none⟩ (.slice (some ⟨g, 0, none⟩) p.wanted.length cg)).setCell ⟨w.heap.size, 9, none⟩ (.slice none 0 0))) := by
    have hbb := (KP.out v2 (HV1.out.trans (HBW.out.mono HV1.out.size))).2.2.2.2
    refine ⟨((hbb.setCell (p := ⟨b7, _, none⟩) HMB.out.p7 _).setCell (p := ⟨b7, _, none⟩) HMB.out.p7 _).setCell (p := ⟨w.heap.size, _, none⟩) (Nat.le_refl _) _, x4, ?_, ?_, ((HROW.out.other (Ne.symm HMB.out.n5)).other (Ne.symm HMB.out.n5)).other (Ne.symm HMB.out.n3)⟩
    · exact (Below.heap_setCell _ _ _ _ (Ne.symm HMB.out.n6)).trans ((Below.heap_setCell _ _ _ _ (Ne.symm HMB.out.n2)).trans ((Below.heap_setCell _ _ _ _ (Ne.symm HMB.out.n2)).trans HQ34.out.2))
    · exact (Below.heap_setCell _ _ _ _ HMB.out.n1).trans x2
  clear x1 x2 x3 x4
  have z9' : ((v2.setCell ⟨b7, 9, none⟩ (.slice none 0 0)).setCell ⟨b7, 6, none⟩ (.slice (some ⟨g, 0, none⟩) p.wanted.length cg)).cell? ⟨w.heap.size, 9, none⟩ = some (.slice A.ad p.deals.length A.cd) := by
    rw [cell_eq ((Below.heap_setCell _ _ _ _ (Ne.symm HMB.out.n1)).trans (Below.heap_setCell _ _ _ _ (Ne.symm HMB.out.n1)))]; exact z9
  have f3' : ((v2.setCell ⟨b7, 9, none⟩ (.slice none 0 0)).setCell ⟨b7, 6, none⟩ (.slice (some ⟨g, 0, none⟩) p.wanted.length cg)).frozen? ⟨w.heap.size, 9, none⟩ = false := frozen_of_heap ((Below.heap_setCell _ _ _ _ (Ne.symm HMB.out.n1)).trans ((Below.heap_setCell _ _ _ _ (Ne.symm HMB.out.n1)).trans HQ34.out.1))
  clear z9 f3
  refine wp_seq_hid ?_
  intro K4 HK4
  go_upto_region 4 with fail
  go_wp2_with (at_builtin; refine wpList_append_run rfl (.tmp 39) (.tmp 41) 24 rfl (.slice (some ⟨v1.heap.size, 0, none⟩) 0 0) (.slice A.aw p.wanted.length A.cw) (.slice (some ⟨g, 0, none⟩) p.wanted.length cg) v2 rfl rfl HRUN.out ?_)
  refine HK4.out _ _ ?_
  clear HK4 K4 y9 y6 f7 c6 c6b
  refine wp_seq_hid ?_
  intro K5 HK5
  go_wp2_with fail
  refine HK5.out _ _ ?_
  clear HK5 K5 z9' f3'
  revert HM
  generalize ((v2.setCell ⟨b7, 9, none⟩ (.slice none 0 0)).setCell ⟨b7, 6, none⟩ (.slice (some ⟨g, 0, none⟩) p.wanted.length cg)).setCell ⟨w.heap.size, 9, none⟩ (.slice none 0 0) = v3
  intro HM
  clear HB
  refine wp_seq_hid ?_
  intro K6 HK6
  go_wp2_with fail
  refine HK6.out _ _ ?_
  clear HK6 K6
  have HSP := Lib.hid (bare_small HS.out.1)
  have HFS : Hid (f.slots.length ≤ 1000) := by have := HS.out.2.2 f (by simp); rw [Hid]; omega
  have hrm := room_of HV.out
  have hsp := spoil_of HV.out
  have hsl := hsp.lo
  have hsh := hsp.hi
  have hsle := hsp.le
  clear hsp
  have a0 : v3.cell? ⟨w.heap.size, 0, none⟩ = some (.int .i64 p.room) := (prs_cells HM.out.h3).c0
  have a2 : v3.cell? ⟨w.heap.size, 2, none⟩ = some (.int .i64 p.slo) := (prs_cells HM.out.h3).c2
  have a3 : v3.cell? ⟨w.heap.size, 3, none⟩ = some (.int .i64 p.shi) := (prs_cells HM.out.h3).c3
  have a6 : v3.cell? ⟨w.heap.size, 6, none⟩ = some (.slice A.aw p.wanted.length A.cw) := (prs_cells HM.out.h3).c6
  have d0 : v3.cell? ⟨b7, 0, none⟩ = some (.int .i64 p.room) := (prs_cells HM.out.h7).c0
  have d3 : v3.cell? ⟨b7, 3, none⟩ = some (.int .i64 p.shi) := (prs_cells HM.out.h7).c3
  have f7 : ∀ k, v3.frozen? ⟨b7, k, none⟩ = false := fun k => frozen_of_heap HM.out.h7
  have hq3 : n.tdiv 3 = n / 3 := Int.tdiv_eq_ediv_of_nonneg hn.1
  have hm3 : n.tmod 3 = n % 3 := Int.tmod_eq_emod_of_nonneg hn.1
  have w3 : IntKind.i64.wrap (n / 3) = n / 3 := IntWalk.i64_in _ (by omega)
  have hcase : n % 3 = 0 ∨ n % 3 = 1 ∨ n % 3 = 2 := by omega
  rcases hcase with h3 | h3 | h3 <;> rw [h3] at hm3
  · have w1r : IntKind.i64.wrap (p.room + 1) = p.room + 1 := IntWalk.i64_in _ (by omega)
    have HN := Lib.hid (HM.out.set7 (q' := p.roomy) (j := 0) (x := .int .i64 (min 6 (p.room + 1))) HMB.out rfl)
    clear h3 hq3 w3
    refine wp_seq_hid ?_
    intro K7 HK7
    go_wp2_with fail
    refine HK7.out _ _ ?_
    clear HK7 K7 a0 a2 a3 a6 d0 d3 f7 hm3 w1r
    revert HN
    generalize v3.setCell ⟨b7, 0, none⟩ (.int .i64 (min 6 (p.room + 1))) = v4
    intro HN
    have HPZ := Lib.hid (fun v (h : Below v4.heap.size v4 v) => more_px (HN.out.mono h) HP0.out.1 HP0.out.2 rfl rfl)
    have HSQ : Hid p.roomy.Small := ⟨HS.out.1.wanted, by simp [Prs.roomy, Prs.bare], fun d hd => by simp [Prs.roomy, Prs.bare] at hd⟩
    exact more_rest HPZ HSP HSQ HFS (Lib.hid (room_more HV.out)) rfl
  · have w1r : IntKind.i64.wrap (p.shi - n / 3) = p.shi - n / 3 := IntWalk.i64_in _ (by omega)
    have HN := Lib.hid (HM.out.set7 (q' := p.neat (n / 3)) (j := 3) (x := .int .i64 (max p.slo (p.shi - n / 3))) HMB.out rfl)
    have HK0 : Hid (0 ≤ n / 3) := by rw [Hid]; omega
    clear h3
    refine wp_seq_hid ?_
    intro K7 HK7
    go_wp2_with fail
    refine HK7.out _ _ ?_
    clear HK7 K7 a0 a2 a3 a6 d0 d3 f7 hm3 w1r hq3 w3
    revert HN
    generalize v3.setCell ⟨b7, 3, none⟩ (.int .i64 (max p.slo (p.shi - n / 3))) = v4
    intro HN
    have HPZ := Lib.hid (fun v (h : Below v4.heap.size v4 v) => more_px (HN.out.mono h) HP0.out.1 HP0.out.2 rfl rfl)
    have HSQ : Hid (p.neat (n / 3)).Small := ⟨HS.out.1.wanted, by simp [Prs.neat, Prs.bare], fun d hd => by simp [Prs.neat, Prs.bare] at hd⟩
    exact more_rest HPZ HSP HSQ HFS (Lib.hid (neat_more HV.out HK0.out)) rfl
  · obtain ⟨v, hv⟩ : ∃ v : Nat, n / 3 % (p.wanted.length : Int) = (v : Int) := ⟨(n / 3 % (p.wanted.length : Int)).toNat, by have := Int.emod_nonneg (n / 3) (show (p.wanted.length : Int) ≠ 0 by omega); omega⟩
    have hvn : v < p.wanted.length := by have := Int.emod_lt_of_pos (n / 3) (show (0 : Int) < (p.wanted.length : Int) by omega); omega
    have m4 : (n / 3).tmod (p.wanted.length : Int) = (v : Int) := by rw [Int.tmod_eq_emod_of_nonneg (by omega)]; exact hv
    have m5 : ¬ (p.wanted.length : Int) = 0 := by omega
    have HVN := Lib.hid hvn
    have hwb := wants_bd HV.out hvn
    have z1 : n.tdiv 9 = n / 9 := Int.tdiv_eq_ediv_of_nonneg hn.1
    have z1w : IntKind.i64.wrap (n / 9) = n / 9 := IntWalk.i64_in _ (by omega)
    have z2 : (n / 9).tmod 9 = n / 9 % 9 := Int.tmod_eq_emod_of_nonneg (by omega)
    have z2w : IntKind.i64.wrap (n / 9 % 9) = n / 9 % 9 := IntWalk.i64_in _ (by omega)
    have z3 : IntKind.i64.wrap (gi p.wanted v + n / 9 % 9) = gi p.wanted v + n / 9 % 9 := IntWalk.i64_in _ (by omega)
    have HZ := Lib.hid (And.intro z1 (And.intro z1w (And.intro z2 (And.intro z2w z3))))
    have HK0 : Hid (0 ≤ n / 9 % 9) := by rw [Hid]; omega
    obtain ⟨ab, ao, haw, _⟩ := HP0.out.1 v hvn
    have HAW := Lib.hid haw
    clear h3 hv z1 z1w z2 z2w z3 haw hwb
    refine wp_seq_hid ?_
    intro K7 HK7
    go_upto_region 9 with fail
    clear a0 a2 a3 a6 d0 d3 f7 hm3 hq3 w3 m4 m5
    refine wpIn_wide.1 (mor9 (b3 := w.heap.size) (b7 := b7) (g := g) (cg := cg) (ab := ab) (ao := ao) (n := p.wanted.length) (cw := A.cw) (v := v) (k := n) (x := gi p.wanted v) (z1 := n / 9) (z2 := n / 9 % 9)
      (P0 := fun x => MorW w p.bare p.bare A f fa fc g cg w.heap.size (w.heap.size + 1) b7 p.wanted x)
      (P1 := fun x => MorW w p.bare (p.keen v (n / 9 % 9)) A f fa fc g cg w.heap.size (w.heap.size + 1) b7 (p.wanted.set v (min 60 (gi p.wanted v + n / 9 % 9))) x)
      HVN.out HZ.out.1 HZ.out.2.1 HZ.out.2.2.1 HZ.out.2.2.2.1 HZ.out.2.2.2.2 ?h0 ?l1 ?l4 ?l7 ?s14 ?hQ)
    case h0 => exact HM.out.mono (Below.refl _ _).drew
    case l1 =>
      rintro x (h | h)
      · exact (prs_cells h.h7).c6
      · have h2 := (prs_cells h.h7).c6
        have e : (p.keen v (n / 9 % 9)).wanted.length = p.wanted.length := List.length_set
        rw [e] at h2
        exact h2
    case l4 =>
      rintro x (h | h)
      · have h2 : x.cell? ⟨w.heap.size, 6, none⟩ = some (.slice A.aw p.wanted.length A.cw) := (prs_cells h.h3).c6
        rw [HAW.out] at h2
        exact h2
      · have h2 : x.cell? ⟨w.heap.size, 6, none⟩ = some (.slice A.aw p.wanted.length A.cw) := (prs_cells h.h3).c6
        rw [HAW.out] at h2
        exact h2
    case l7 =>
      intro x h
      obtain ⟨b_, o_, e_, hc⟩ := (HP0.out.1.mono h.below) v HVN.out
      rw [HAW.out] at e_
      cases e_
      exact hc
    case s14 =>
      intro x h
      obtain ⟨c1, c2, c3⟩ := h.row.put HVN.out (min 60 (gi p.wanted v + n / 9 % 9))
      have e : (p.keen v (n / 9 % 9)).arr ⟨some ⟨g, 0, none⟩, cg, none, 0⟩ = p.bare.arr ⟨some ⟨g, 0, none⟩, cg, none, 0⟩ := by simp [Prs.keen, Prs.bare, Prs.arr]
      exact ⟨c1, c2, h.below.setCell (p := ⟨g, _, none⟩) HMB.out.pg _, (Below.heap_setCell _ _ _ _ (Ne.symm HMB.out.n3)).trans h.h3, (Below.heap_setCell _ _ _ _ (Ne.symm HMB.out.n4)).trans h.h4, by rw [e]; exact (Below.heap_setCell _ _ _ _ (Ne.symm HMB.out.n5)).trans h.h7, c3⟩
    intro v4 h4
    have HN := Lib.hid h4
    clear h4
    go_wp2_with fail
    refine HK7.out _ _ ?_
    have HPZ := Lib.hid (fun v' (h : Below v4.heap.size v4 v') => more_px (HN.out.mono h) HP0.out.1 HP0.out.2 rfl rfl)
    have HSQ : Hid (p.keen v (n / 9 % 9)).Small := ⟨by have := HS.out.1.wanted; rw [show (p.keen v (n / 9 % 9)).wanted.length = p.wanted.length from List.length_set]; exact this, by simp [Prs.keen, Prs.bare], fun d hd => by simp [Prs.keen, Prs.bare] at hd⟩
    exact more_rest HPZ HSP HSQ HFS (Lib.hid (keen_more HV.out HK0.out HVN.out)) rfl
end Go.Proofs.Ytjkhclijmcmdjaa
namespace Go.Proofs.Ytjkhclijmcmdjaa
open Go.RowKit Go.WideShapes Go.ChangeShapes
section
variable {H : Type} {enc : TypeId × Value → H} {P : Program}
end
end Go.Proofs.Ytjkhclijmcmdjaa
namespace Go.Proofs.Ytjkhclijmcmdjaa
open Go.ChangeShapes Go.WideShapes Go.ChangeAt Go.Deep Go.RowKit Go.Joins
set_option linter.unusedVariables false
theorem Try.laidOut : laidOutB Try.prog = true := by kernel_rfl
section
variable {H : Type} {enc : TypeId × Value → H} {w : World} {base : Nat} {spare : Nat → Bool} {held : Bool}
end
end Go.Proofs.Ytjkhclijmcmdjaa
