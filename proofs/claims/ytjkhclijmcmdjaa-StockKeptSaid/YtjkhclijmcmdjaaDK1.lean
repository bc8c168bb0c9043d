/- What is enough at first does not hang on how much more than enough there is. StockKept's drawn regions; a row of spans of one's own. Gives once more: what it returns is new. What the laws need to know of the cheapest plan: plain law. What is enough at first: plain law. What is kept by deals: plain law. StockKept from region 9 on. StockKept's walk. The row's last step where the call leaves a world of which only what lay there before is known. Presses and formes that are handed in, opened. -/
import Derived.Test.YtjkhclijmcmdjaaC15
import Derived.Below
import Derived.ChangeSame
import Derived.ProofKit
import Derived.Test.YtjkhclijmcmdjaaProg
import Derived.Deep.Slices
import Derived.Deep.Fields
import Derived.Lib.SmallJoins
import Derived.Carry
import Derived.OpenShut
namespace Go.Proofs.Ytjkhclijmcmdjaa
open Go.RowKit
set_option linter.unusedVariables false
set_option linter.unusedSimpArgs false
theorem deal_rng {p : Prs} {d : Dl} (hV : p.valid = true) (hd : dealOk p d = true) :
    (d.kind = 0 → (1 ≤ d.many ∧ d.many ≤ 1048576) ∧ 0 ≤ d.pence ∧ d.pence ≤ 1099511627776) ∧ (d.kind = 1 → 0 ≤ d.forme.times ∧ d.forme.times ≤ 1048576) ∧ (d.kind ≠ 0 → d.kind ≠ 1 → 0 ≤ d.pence ∧ d.pence ≤ 1099511627776) := by
  refine ⟨fun h => ?_, fun h => ?_, fun h0 h1 => ?_⟩
  · unfold dealOk at hd; rw [if_pos h] at hd; simpa [inR] using hd
  · have hF : fmeOk p d.forme = true := by unfold dealOk at hd; rw [if_neg (by omega), if_pos h] at hd; exact hd
    exact (fmeR_of hF (v := 0) (by have := wanted_of hV; omega)).times
  · unfold dealOk at hd; rw [if_neg h0, if_neg h1] at hd; split at hd
    · have h2 : ((0 ≤ d.view ∧ d.view ≤ (p.wanted.length : Int) - 1) ∧ (1 ≤ d.many ∧ d.many ≤ 1048576)) ∧ 0 ≤ d.pence ∧ d.pence ≤ 1099511627776 := by simpa [inR, and_assoc] using hd
      exact h2.2
    · cases hd
theorem deals_len {p : Prs} (hV : p.valid = true) : p.deals.length ≤ 20 := by
  unfold Prs.valid Prs.sizeOk at hV
  simp only [Bool.and_eq_true, decide_eq_true_eq] at hV
  omega
end Go.Proofs.Ytjkhclijmcmdjaa
namespace Go.Proofs.Ytjkhclijmcmdjaa
open Go.RowKit
set_option linter.unusedVariables false
set_option linter.unusedSimpArgs false
/-- A row of spans of one's own. -/
structure CRow (g : Nat) (l : List Spn) (w : World) : Prop where
  row : ∃ cur : Array Value, w.heap[g]? = some (.cells cur 23 (0, 0)) ∧ ∀ i, i < l.length → cur[i * 2]? = some (.int .i64 (gs l i).lo) ∧ cur[i * 2 + 1]? = some (.int .i64 (gs l i).hi)
theorem CRow.mono {g : Nat} {l : List Spn} {w w' : World} (h : CRow g l w) (hb : Below w.heap.size w w') : CRow g l w' := by
  obtain ⟨cur, h1, h2⟩ := h.row
  exact ⟨cur, (hb.block _ (heap_lt h1)).trans h1, h2⟩
theorem CRow.cells {g : Nat} {l : List Spn} {w : World} (h : CRow g l w) {i : Nat} (hi : i < l.length) : w.cell? ⟨g, i * 2, none⟩ = some (.int .i64 (gs l i).lo) ∧ w.cell? ⟨g, i * 2 + 1, none⟩ = some (.int .i64 (gs l i).hi) := by
  obtain ⟨cur, h1, h2⟩ := h.row
  exact ⟨by rw [cell_of_heap h1]; exact (h2 i hi).1, by rw [cell_of_heap h1]; exact (h2 i hi).2⟩
theorem CRow.spns {g : Nat} {l : List Spn} {w : World} (h : CRow g l w) : IsSpns w (some ⟨g, 0, none⟩) l := fun i hi => ⟨g, 0, rfl, by rw [Nat.zero_add]; exact (h.cells hi).1, by rw [Nat.zero_add]; exact (h.cells hi).2⟩
theorem CRow.lt {g : Nat} {l : List Spn} {w : World} (h : CRow g l w) : g < w.heap.size := by
  obtain ⟨cur, h1, h2⟩ := h.row
  exact heap_lt h1
theorem CRow.put {g : Nat} {l : List Spn} {w : World} (h : CRow g l w) {i : Nat} (hi : i < l.length) (x y : Int) :
    (∃ u, w.cell? ⟨g, i * 2, none⟩ = some u) ∧ w.frozen? ⟨g, i * 2, none⟩ = false ∧ (∃ u, w.cell? ⟨g, i * 2 + 1, none⟩ = some u) ∧ w.frozen? ⟨g, i * 2 + 1, none⟩ = false ∧ CRow g (l.set i ⟨x, y⟩) ((w.setCell ⟨g, i * 2, none⟩ (.int .i64 x)).setCell ⟨g, i * 2 + 1, none⟩ (.int .i64 y)) := by
  obtain ⟨c1, c2⟩ := h.cells hi
  obtain ⟨cur, h1, h2⟩ := h.row
  refine ⟨⟨_, c1⟩, frozen_of_heap h1, ⟨_, c2⟩, frozen_of_heap h1, _, heap_setCell_at (k := i * 2 + 1) (heap_setCell_at (k := i * 2) h1 _) _, fun j hj => ?_⟩
  rw [List.length_set] at hj
  have hsz : i * 2 + 1 < cur.size := (Array.getElem?_eq_some_iff.1 (h2 i hi).2).1
  have s1 : i * 2 < cur.size := by omega
  by_cases e : i = j
  · subst e
    rw [gs_set hi]
    constructor
    · rw [Array.getElem?_setIfInBounds, if_neg (by omega), Array.getElem?_setIfInBounds, if_pos rfl, if_pos s1]
    · rw [Array.getElem?_setIfInBounds, if_pos rfl, if_pos (by simpa using hsz)]
  · rw [gs_set_ne e]
    constructor
    · rw [Array.getElem?_setIfInBounds, if_neg (by omega), Array.getElem?_setIfInBounds, if_neg (by omega)]; exact (h2 j hj).1
    · rw [Array.getElem?_setIfInBounds, if_neg (by omega), Array.getElem?_setIfInBounds, if_neg (by omega)]; exact (h2 j hj).2
theorem CRow.made {g n : Nat} {w : World} (h : w.heap[g]? = some (.cells (madeCells #[.int .i64 0, .int .i64 0] (n * 2)) 23 (0, 0))) : CRow g (List.replicate n ⟨0, 0⟩) w := ⟨_, h, fun i hi => by
  have hi2 : i < n := by simpa using hi
  have e : gs (List.replicate n ⟨0, 0⟩) i = ⟨0, 0⟩ := by rw [gs_get hi]; simp
  rw [e]
  exact ⟨made_at (by omega), made_at (by omega)⟩⟩
noncomputable def kep9C : Code := (Try.f9.body.bind (regionAt 9)).getD .skip
set_option maxRecDepth 100000 in
set_option maxHeartbeats 8000000 in
theorem kep9 {bx N n cw : Nat} {aw : Option Addr} {q m : Int} {P0 P1 : World → Prop} {Q : Exit → Act → World → Prop} {W1 : World}  (h0 : P0 W1.drew)
    (kl1 : Hid (∀ w : World, (P0 w ∨ P1 w) → w.cell? ⟨bx, 7, none⟩ = some (.int .i64 (q))))
    (kl3 : Hid (∀ w : World, (P0 w ∨ P1 w) → w.cell? ⟨bx, 8, none⟩ = some (.int .i64 (m))))
    (kl5 : Hid (∀ w : World, (P0 w ∨ P1 w) → w.cell? ⟨bx, 6, none⟩ = some (.slice aw n cw)))
    (kr7 : Hid (∀ w : World, P0 w → ∃ w', (Instr.makeSlice 33 (.int .i64 (n : Int)) (.int .i64 (n : Int))).run Try.prog w = .ok (.slice (some ⟨N, 0, none⟩) n n) w' ∧ P1 w'))
    {s0 s1 s3 s4 s5 s6 s7 s8 s9 s10 s11 s12 s13 s14 s15 s16 s17 s18 s19 s20 s21 s22 s23 s24 s25 s26 s27 s28 s29 s30 s31 s32 s33 s34 s35 s36 s37 s38 s39 s40 s41 s42 s43 s44 s45 s46 s47 s48 s49 s50 s51 s52 s53 s54 s55 s56 s57 s58 s59 s60 s61 s62 s63 s64 s65 s66 s67 s68 s69 s70 s71 s72 s73 s74 s75 s76 s77 s78 s79 s80 s81 s82 s83 s84 s85 s86 s87 s88 s89 s90 s91 s92 s93 s94 s95 s96 s97 s98 s99 s100 s101 s102 s103 s104 s105 s106 s107 s108 s109 s110 s111 s112 s113 s114 s115 s116 s117 s118 s119 s120 s121 s122 s123 s124 s125 s126 s127 s128 s129 s130 s131 s132 s133 s134 s135 s136 s137 s138 s139 s140 s141 s142 s143 s144 s145 s146 s147 s148 s149 s150 s151 s152 s153 s154 s155 s156 s157 s158 s159 s160 s161 s162 s163 s164 s165 s166 s167 s168 s169 s170 s171 s172 s173 s174 s175 s176 s177 s178 s179 s180 s181 s182 s183 s184 s185 s186 s187 s188 s189 s190 s191 s192 s193 s194 s195 s196 s197 s198 s199 s200 s201 s202 s203 s204 s205 s206 s207 s208 s209 s210 s211 s212 s213 s214 s215 s216 s217 s218 s219 s220 s221 s222 s223 s224 s225 s226 s227 s228 s229 s230 s231 s232 s233 s234 s235 s236 s237 s238 s239 s240 s241 s242 s243 s244 s245 s246 s247 s248 s249 s250 s251 s252 s253 s254 s255 s256 s257 s258 s259 s260 s261 s262 s263 s264 s265 s266 s267 s268 s269 s270 s271 s272 s273 s274 s275 s276 s277 s278 s279 s280 s281 s282 s283 s284 s285 s286 s287 s288 s289 s290 s291 s292 s293 s294 : Value} {dd : List Deferred}
    (hQ : ∀ w' : World, P1 w' → Q .normal { tmps := List.toArray (s0 :: s1 :: .pointer (some ⟨bx, 0, none⟩) :: s3 :: s4 :: s5 :: s6 :: s7 :: s8 :: .int .i64 (q) :: .int .i64 (m) :: .slice (some ⟨N, 0, none⟩) n n :: s12 :: s13 :: s14 :: s15 :: s16 :: s17 :: s18 :: s19 :: s20 :: s21 :: s22 :: s23 :: s24 :: s25 :: s26 :: s27 :: s28 :: s29 :: s30 :: s31 :: s32 :: s33 :: s34 :: s35 :: s36 :: s37 :: s38 :: s39 :: s40 :: s41 :: s42 :: s43 :: s44 :: s45 :: s46 :: s47 :: s48 :: s49 :: s50 :: s51 :: s52 :: s53 :: s54 :: s55 :: s56 :: s57 :: s58 :: s59 :: s60 :: s61 :: s62 :: s63 :: s64 :: s65 :: s66 :: s67 :: s68 :: s69 :: s70 :: s71 :: s72 :: s73 :: s74 :: s75 :: s76 :: s77 :: s78 :: s79 :: s80 :: s81 :: s82 :: s83 :: s84 :: s85 :: s86 :: s87 :: s88 :: s89 :: s90 :: s91 :: s92 :: s93 :: s94 :: s95 :: s96 :: s97 :: s98 :: s99 :: s100 :: s101 :: s102 :: s103 :: s104 :: s105 :: s106 :: s107 :: s108 :: s109 :: s110 :: s111 :: s112 :: s113 :: s114 :: s115 :: s116 :: s117 :: s118 :: s119 :: s120 :: s121 :: s122 :: s123 :: s124 :: s125 :: s126 :: s127 :: s128 :: s129 :: s130 :: s131 :: s132 :: s133 :: s134 :: s135 :: s136 :: s137 :: s138 :: s139 :: .pointer (some ⟨bx, 7, none⟩) :: .int .i64 (q) :: .pointer (some ⟨bx, 8, none⟩) :: .int .i64 (m) :: .pointer (some ⟨bx, 6, none⟩) :: .slice aw n cw :: .int .i64 (n : Int) :: .slice (some ⟨N, 0, none⟩) n n :: s148 :: s149 :: s150 :: s151 :: s152 :: s153 :: s154 :: s155 :: s156 :: s157 :: s158 :: s159 :: s160 :: s161 :: s162 :: s163 :: s164 :: s165 :: s166 :: s167 :: s168 :: s169 :: s170 :: s171 :: s172 :: s173 :: s174 :: s175 :: s176 :: s177 :: s178 :: s179 :: s180 :: s181 :: s182 :: s183 :: s184 :: s185 :: s186 :: s187 :: s188 :: s189 :: s190 :: s191 :: s192 :: s193 :: s194 :: s195 :: s196 :: s197 :: s198 :: s199 :: s200 :: s201 :: s202 :: s203 :: s204 :: s205 :: s206 :: s207 :: s208 :: s209 :: s210 :: s211 :: s212 :: s213 :: s214 :: s215 :: s216 :: s217 :: s218 :: s219 :: s220 :: s221 :: s222 :: s223 :: s224 :: s225 :: s226 :: s227 :: s228 :: s229 :: s230 :: s231 :: s232 :: s233 :: s234 :: s235 :: s236 :: s237 :: s238 :: s239 :: s240 :: s241 :: s242 :: s243 :: s244 :: s245 :: s246 :: s247 :: s248 :: s249 :: s250 :: s251 :: s252 :: s253 :: s254 :: s255 :: s256 :: s257 :: s258 :: s259 :: s260 :: s261 :: s262 :: s263 :: s264 :: s265 :: s266 :: s267 :: s268 :: s269 :: s270 :: s271 :: s272 :: s273 :: s274 :: s275 :: s276 :: s277 :: s278 :: s279 :: s280 :: s281 :: s282 :: s283 :: s284 :: s285 :: s286 :: s287 :: s288 :: s289 :: s290 :: s291 :: s292 :: s293 :: s294 :: []),defers := dd } w') :
    Code.wpIn (wideAt none) 0 Try.prog kep9C Q { tmps := List.toArray (s0 :: s1 :: .pointer (some ⟨bx, 0, none⟩) :: s3 :: s4 :: s5 :: s6 :: s7 :: s8 :: s9 :: s10 :: s11 :: s12 :: s13 :: s14 :: s15 :: s16 :: s17 :: s18 :: s19 :: s20 :: s21 :: s22 :: s23 :: s24 :: s25 :: s26 :: s27 :: s28 :: s29 :: s30 :: s31 :: s32 :: s33 :: s34 :: s35 :: s36 :: s37 :: s38 :: s39 :: s40 :: s41 :: s42 :: s43 :: s44 :: s45 :: s46 :: s47 :: s48 :: s49 :: s50 :: s51 :: s52 :: s53 :: s54 :: s55 :: s56 :: s57 :: s58 :: s59 :: s60 :: s61 :: s62 :: s63 :: s64 :: s65 :: s66 :: s67 :: s68 :: s69 :: s70 :: s71 :: s72 :: s73 :: s74 :: s75 :: s76 :: s77 :: s78 :: s79 :: s80 :: s81 :: s82 :: s83 :: s84 :: s85 :: s86 :: s87 :: s88 :: s89 :: s90 :: s91 :: s92 :: s93 :: s94 :: s95 :: s96 :: s97 :: s98 :: s99 :: s100 :: s101 :: s102 :: s103 :: s104 :: s105 :: s106 :: s107 :: s108 :: s109 :: s110 :: s111 :: s112 :: s113 :: s114 :: s115 :: s116 :: s117 :: s118 :: s119 :: s120 :: s121 :: s122 :: s123 :: s124 :: s125 :: s126 :: s127 :: s128 :: s129 :: s130 :: s131 :: s132 :: s133 :: s134 :: s135 :: s136 :: s137 :: s138 :: s139 :: s140 :: s141 :: s142 :: s143 :: s144 :: s145 :: s146 :: s147 :: s148 :: s149 :: s150 :: s151 :: s152 :: s153 :: s154 :: s155 :: s156 :: s157 :: s158 :: s159 :: s160 :: s161 :: s162 :: s163 :: s164 :: s165 :: s166 :: s167 :: s168 :: s169 :: s170 :: s171 :: s172 :: s173 :: s174 :: s175 :: s176 :: s177 :: s178 :: s179 :: s180 :: s181 :: s182 :: s183 :: s184 :: s185 :: s186 :: s187 :: s188 :: s189 :: s190 :: s191 :: s192 :: s193 :: s194 :: s195 :: s196 :: s197 :: s198 :: s199 :: s200 :: s201 :: s202 :: s203 :: s204 :: s205 :: s206 :: s207 :: s208 :: s209 :: s210 :: s211 :: s212 :: s213 :: s214 :: s215 :: s216 :: s217 :: s218 :: s219 :: s220 :: s221 :: s222 :: s223 :: s224 :: s225 :: s226 :: s227 :: s228 :: s229 :: s230 :: s231 :: s232 :: s233 :: s234 :: s235 :: s236 :: s237 :: s238 :: s239 :: s240 :: s241 :: s242 :: s243 :: s244 :: s245 :: s246 :: s247 :: s248 :: s249 :: s250 :: s251 :: s252 :: s253 :: s254 :: s255 :: s256 :: s257 :: s258 :: s259 :: s260 :: s261 :: s262 :: s263 :: s264 :: s265 :: s266 :: s267 :: s268 :: s269 :: s270 :: s271 :: s272 :: s273 :: s274 :: s275 :: s276 :: s277 :: s278 :: s279 :: s280 :: s281 :: s282 :: s283 :: s284 :: s285 :: s286 :: s287 :: s288 :: s289 :: s290 :: s291 :: s292 :: s293 :: s294 :: []),defers := dd } W1 := by
  have HQ := Lib.hid hQ
  clear hQ
  conv => arg 4; whnf
  refine wpIn_region_invG mixed (by kernel_rfl) (fun d_ a_ w' => a_ = { tmps := List.toArray (s0 :: s1 :: .pointer (some ⟨bx, 0, none⟩) :: s3 :: s4 :: s5 :: s6 :: s7 :: s8 :: pk (d_ 8) (.int .i64 (q)) s9 :: pk (d_ 9) (.int .i64 (m)) s10 :: pk (d_ 10) (.slice (some ⟨N, 0, none⟩) n n) s11 :: s12 :: s13 :: s14 :: s15 :: s16 :: s17 :: s18 :: s19 :: s20 :: s21 :: s22 :: s23 :: s24 :: s25 :: s26 :: s27 :: s28 :: s29 :: s30 :: s31 :: s32 :: s33 :: s34 :: s35 :: s36 :: s37 :: s38 :: s39 :: s40 :: s41 :: s42 :: s43 :: s44 :: s45 :: s46 :: s47 :: s48 :: s49 :: s50 :: s51 :: s52 :: s53 :: s54 :: s55 :: s56 :: s57 :: s58 :: s59 :: s60 :: s61 :: s62 :: s63 :: s64 :: s65 :: s66 :: s67 :: s68 :: s69 :: s70 :: s71 :: s72 :: s73 :: s74 :: s75 :: s76 :: s77 :: s78 :: s79 :: s80 :: s81 :: s82 :: s83 :: s84 :: s85 :: s86 :: s87 :: s88 :: s89 :: s90 :: s91 :: s92 :: s93 :: s94 :: s95 :: s96 :: s97 :: s98 :: s99 :: s100 :: s101 :: s102 :: s103 :: s104 :: s105 :: s106 :: s107 :: s108 :: s109 :: s110 :: s111 :: s112 :: s113 :: s114 :: s115 :: s116 :: s117 :: s118 :: s119 :: s120 :: s121 :: s122 :: s123 :: s124 :: s125 :: s126 :: s127 :: s128 :: s129 :: s130 :: s131 :: s132 :: s133 :: s134 :: s135 :: s136 :: s137 :: s138 :: s139 :: pk (d_ 0) (.pointer (some ⟨bx, 7, none⟩)) s140 :: pk (d_ 1) (.int .i64 (q)) s141 :: pk (d_ 2) (.pointer (some ⟨bx, 8, none⟩)) s142 :: pk (d_ 3) (.int .i64 (m)) s143 :: pk (d_ 4) (.pointer (some ⟨bx, 6, none⟩)) s144 :: pk (d_ 5) (.slice aw n cw) s145 :: pk (d_ 6) (.int .i64 (n : Int)) s146 :: pk (d_ 7) (.slice (some ⟨N, 0, none⟩) n n) s147 :: s148 :: s149 :: s150 :: s151 :: s152 :: s153 :: s154 :: s155 :: s156 :: s157 :: s158 :: s159 :: s160 :: s161 :: s162 :: s163 :: s164 :: s165 :: s166 :: s167 :: s168 :: s169 :: s170 :: s171 :: s172 :: s173 :: s174 :: s175 :: s176 :: s177 :: s178 :: s179 :: s180 :: s181 :: s182 :: s183 :: s184 :: s185 :: s186 :: s187 :: s188 :: s189 :: s190 :: s191 :: s192 :: s193 :: s194 :: s195 :: s196 :: s197 :: s198 :: s199 :: s200 :: s201 :: s202 :: s203 :: s204 :: s205 :: s206 :: s207 :: s208 :: s209 :: s210 :: s211 :: s212 :: s213 :: s214 :: s215 :: s216 :: s217 :: s218 :: s219 :: s220 :: s221 :: s222 :: s223 :: s224 :: s225 :: s226 :: s227 :: s228 :: s229 :: s230 :: s231 :: s232 :: s233 :: s234 :: s235 :: s236 :: s237 :: s238 :: s239 :: s240 :: s241 :: s242 :: s243 :: s244 :: s245 :: s246 :: s247 :: s248 :: s249 :: s250 :: s251 :: s252 :: s253 :: s254 :: s255 :: s256 :: s257 :: s258 :: s259 :: s260 :: s261 :: s262 :: s263 :: s264 :: s265 :: s266 :: s267 :: s268 :: s269 :: s270 :: s271 :: s272 :: s273 :: s274 :: s275 :: s276 :: s277 :: s278 :: s279 :: s280 :: s281 :: s282 :: s283 :: s284 :: s285 :: s286 :: s287 :: s288 :: s289 :: s290 :: s291 :: s292 :: s293 :: s294 :: []),defers := dd } ∧ ch1 P0 P1 (d_ 7) w') ?_ ?_ ?_
  · exact ⟨rfl, h0⟩
  · refine ⟨?_,?_,?_,?_,?_,?_,?_,?_,?_,?_,?_, trivial⟩
    all_goals
      rintro d_ a_ w1 K hd_ hdep ⟨rfl, F⟩ HK
      simp [Region.binds] at hdep
    · have HF := Lib.hid F
      clear F hdep
      go_simp
      refine HK.out _ _ ⟨?_, HF.out⟩
      all_goals rfl
    · have q0 : d_ 0 = true := by simp [hdep]
      have kk := kl1.out w1 (ch1_or F)
      rw [pk_of q0]
      have HF := Lib.hid F
      clear F hdep
      go_simp
      refine HK.out _ _ ⟨?_, HF.out⟩
      rw [pk_of (show upd d_ 1 0 = true from q0)]
      all_goals rfl
    · have HF := Lib.hid F
      clear F hdep
      go_simp
      refine HK.out _ _ ⟨?_, HF.out⟩
      all_goals rfl
    · have q2 : d_ 2 = true := by simp [hdep]
      have kk := kl3.out w1 (ch1_or F)
      rw [pk_of q2]
      have HF := Lib.hid F
      clear F hdep
      go_simp
      refine HK.out _ _ ⟨?_, HF.out⟩
      rw [pk_of (show upd d_ 3 2 = true from q2)]
      all_goals rfl
    · have HF := Lib.hid F
      clear F hdep
      go_simp
      refine HK.out _ _ ⟨?_, HF.out⟩
      all_goals rfl
    · have q4 : d_ 4 = true := by simp [hdep]
      have kk := kl5.out w1 (ch1_or F)
      rw [pk_of q4]
      have HF := Lib.hid F
      clear F hdep
      go_simp
      refine HK.out _ _ ⟨?_, HF.out⟩
      rw [pk_of (show upd d_ 5 4 = true from q4)]
      all_goals rfl
    · have q5 : d_ 5 = true := by simp [hdep]
      rw [pk_of q5]
      have HF := Lib.hid F
      clear F hdep
      go_simp
      refine HK.out _ _ ⟨?_, HF.out⟩
      rw [pk_of (show upd d_ 6 5 = true from q5)]
      all_goals rfl
    · have q6 : d_ 6 = true := by simp [hdep]
      rw [pk_of q6]
      obtain ⟨hP, hN⟩ := ch1_s1 F hd_
      obtain ⟨w5, kk, hR⟩ := kr7.out w1 hP
      have HF := Lib.hid (hN _ hR)
      clear F hP hR hN hdep
      go_simp
      have HG := HF.out
      refine HK.out _ _ ⟨?_, HG⟩
      rw [pk_of (show upd d_ 7 6 = true from q6)]
      all_goals rfl
    · have q1 : d_ 1 = true := by simp [hdep]
      rw [pk_of q1]
      have HF := Lib.hid F
      clear F hdep
      go_simp
      refine HK.out _ _ ⟨?_, HF.out⟩
      rw [pk_of (show upd d_ 8 1 = true from q1)]
      all_goals rfl
    · have q3 : d_ 3 = true := by simp [hdep]
      rw [pk_of q3]
      have HF := Lib.hid F
      clear F hdep
      go_simp
      refine HK.out _ _ ⟨?_, HF.out⟩
      rw [pk_of (show upd d_ 9 3 = true from q3)]
      all_goals rfl
    · have q7 : d_ 7 = true := by simp [hdep]
      rw [pk_of q7]
      have HF := Lib.hid F
      clear F hdep
      go_simp
      refine HK.out _ _ ⟨?_, HF.out⟩
      rw [pk_of (show upd d_ 10 7 = true from q7)]
      all_goals rfl
  · rintro d_ a_ w1 hall ⟨rfl, F⟩
    have hall' : ∀ k, k < 11 → d_ k = true := hall
    rw [hall' 7 (by decide)] at F
    have HF := Lib.hid F
    clear F
    rw [pk_of (hall' 0 (by decide)), pk_of (hall' 1 (by decide)), pk_of (hall' 2 (by decide)), pk_of (hall' 3 (by decide)), pk_of (hall' 4 (by decide)), pk_of (hall' 5 (by decide)), pk_of (hall' 6 (by decide)), pk_of (hall' 7 (by decide)), pk_of (hall' 8 (by decide)), pk_of (hall' 9 (by decide)), pk_of (hall' 10 (by decide))]
    exact HQ.out w1 HF.out
noncomputable def kep15C : Code := (Try.f9.body.bind (regionAt 15)).getD .skip
set_option maxRecDepth 100000 in
set_option maxHeartbeats 8000000 in
theorem kep15 {g bd i n : Nat} {x y k : Int} {P0 P1 P2 : World → Prop} {Q : Exit → Act → World → Prop} {W1 : World} (hin : i < n) (h0 : P0 W1.drew)
    (kl2 : Hid (∀ w : World, (P0 w ∨ P1 w ∨ P2 w) → w.cell? ⟨bd, 3, none⟩ = some (.int .i64 ((i : Int)))))
    (kl5 : Hid (∀ w : World, (P0 w ∨ P1 w ∨ P2 w) → w.cell? ⟨bd, 3, none⟩ = some (.int .i64 ((i : Int)))))
    (kl8 : Hid (∀ w : World, (P0 w) → w.cell? ⟨g, i * 2, none⟩ = some (.int .i64 (x))))
    (kl10 : Hid (∀ w : World, (P0 w ∨ P1 w ∨ P2 w) → w.cell? ⟨bd, 4, none⟩ = some (.int .i64 (k))))
    (kl14 : Hid (∀ w : World, (P0 w ∨ P1 w ∨ P2 w) → w.cell? ⟨bd, 3, none⟩ = some (.int .i64 ((i : Int)))))
    (kl17 : Hid (∀ w : World, (P0 w) → w.cell? ⟨g, i * 2 + 1, none⟩ = some (.int .i64 (y))))
    (kl19 : Hid (∀ w : World, (P0 w ∨ P1 w ∨ P2 w) → w.cell? ⟨bd, 4, none⟩ = some (.int .i64 (k))))
    (kc21 : Hid (∀ w : World, P0 w → Calls Try.prog 35 #[.int .i64 (IntKind.i64.wrap (x - k)), .int .i64 (IntKind.i64.wrap (y - k))] w fun e w' => e = .returned (.agg #[.int .i64 (IntKind.i64.wrap (x - k)), .int .i64 (IntKind.i64.wrap (y - k))]) ∧ P1 w'))
    (ks23 : Hid (∀ w : World, P1 w → (∃ u, w.cell? ⟨g, i * 2, none⟩ = some u) ∧ w.frozen? ⟨g, i * 2, none⟩ = false ∧ (∃ u, w.cell? ⟨g, i * 2 + 1, none⟩ = some u) ∧ w.frozen? ⟨g, i * 2 + 1, none⟩ = false ∧ P2 ((w.setCell ⟨g, i * 2, none⟩ (.int .i64 (IntKind.i64.wrap (x - k)))).setCell ⟨g, i * 2 + 1, none⟩ (.int .i64 (IntKind.i64.wrap (y - k))))))
    {s0 s1 s2 s3 s4 s5 s6 s7 s8 s9 s10 s12 s14 s15 s16 s17 s18 s19 s20 s21 s22 s23 s24 s25 s26 s27 s28 s29 s30 s31 s32 s33 s34 s35 s36 s37 s38 s39 s40 s41 s42 s43 s44 s45 s46 s47 s48 s49 s50 s51 s52 s53 s54 s55 s56 s57 s58 s59 s60 s61 s62 s63 s64 s65 s66 s67 s68 s69 s70 s71 s72 s73 s74 s75 s76 s77 s78 s79 s80 s81 s82 s83 s84 s85 s86 s87 s88 s89 s90 s91 s92 s93 s94 s95 s96 s97 s98 s99 s100 s101 s102 s103 s104 s105 s106 s107 s108 s109 s110 s111 s112 s113 s114 s115 s116 s117 s118 s119 s120 s121 s122 s123 s124 s125 s126 s127 s128 s129 s130 s131 s132 s133 s134 s135 s136 s137 s138 s139 s140 s141 s142 s143 s144 s145 s146 s147 s148 s149 s150 s151 s152 s153 s154 s155 s156 s157 s158 s159 s160 s161 s162 s163 s164 s165 s166 s167 s168 s169 s170 s171 s172 s173 s174 s175 s176 s177 s178 s179 s180 s181 s182 s183 s184 s185 s186 s187 s188 s189 s190 s191 s192 s193 s194 s195 s196 s197 s198 s199 s200 s201 s202 s203 s204 s205 s206 s207 s208 s209 s210 s211 s212 s213 s214 s215 s216 s217 s218 s219 s220 s221 s222 s223 s224 s225 s226 s227 s228 s229 s230 s231 s232 s233 s234 s235 s236 s237 s238 s239 s240 s241 s242 s243 s244 s245 s246 s247 s248 s249 s250 s251 s252 s253 s254 s255 s256 s257 s258 s259 s260 s261 s262 s263 s264 s265 s266 s267 s268 s269 s270 s271 s272 s273 s274 s275 s276 s277 s278 s279 s280 s281 s282 s283 s284 s285 s286 s287 s288 s289 s290 s291 s292 s293 s294 : Value} {dd : List Deferred}
    (hQ : ∀ w' : World, P2 w' → Q .normal { tmps := List.toArray (s0 :: s1 :: s2 :: s3 :: s4 :: s5 :: s6 :: s7 :: s8 :: s9 :: s10 :: .slice (some ⟨g, 0, none⟩) n n :: s12 :: .pointer (some ⟨bd, 0, none⟩) :: s14 :: s15 :: s16 :: s17 :: s18 :: s19 :: s20 :: s21 :: s22 :: s23 :: s24 :: s25 :: s26 :: s27 :: s28 :: s29 :: s30 :: s31 :: s32 :: s33 :: s34 :: s35 :: s36 :: s37 :: s38 :: s39 :: s40 :: s41 :: s42 :: s43 :: s44 :: s45 :: s46 :: s47 :: s48 :: s49 :: s50 :: s51 :: s52 :: s53 :: s54 :: s55 :: s56 :: s57 :: s58 :: s59 :: s60 :: s61 :: s62 :: s63 :: s64 :: s65 :: s66 :: s67 :: s68 :: s69 :: s70 :: s71 :: s72 :: s73 :: s74 :: s75 :: s76 :: s77 :: s78 :: s79 :: s80 :: s81 :: s82 :: s83 :: s84 :: s85 :: s86 :: s87 :: s88 :: s89 :: s90 :: s91 :: s92 :: s93 :: s94 :: s95 :: s96 :: s97 :: s98 :: s99 :: s100 :: s101 :: s102 :: s103 :: s104 :: s105 :: s106 :: s107 :: s108 :: s109 :: s110 :: s111 :: s112 :: s113 :: s114 :: s115 :: s116 :: s117 :: s118 :: s119 :: s120 :: s121 :: s122 :: s123 :: s124 :: s125 :: s126 :: s127 :: s128 :: s129 :: s130 :: s131 :: s132 :: s133 :: s134 :: s135 :: s136 :: s137 :: s138 :: s139 :: s140 :: s141 :: s142 :: s143 :: s144 :: s145 :: s146 :: s147 :: s148 :: s149 :: s150 :: s151 :: s152 :: s153 :: s154 :: s155 :: s156 :: s157 :: s158 :: s159 :: s160 :: s161 :: s162 :: .slice (some ⟨g, 0, none⟩) n n :: .pointer (some ⟨bd, 3, none⟩) :: .int .i64 ((i : Int)) :: .slice (some ⟨g, 0, none⟩) n n :: .pointer (some ⟨bd, 3, none⟩) :: .int .i64 ((i : Int)) :: .pointer (some ⟨g, i * 2, none⟩) :: .pointer (some ⟨g, i * 2, none⟩) :: .int .i64 (x) :: .pointer (some ⟨bd, 4, none⟩) :: .int .i64 (k) :: .int .i64 (IntKind.i64.wrap (x - k)) :: .slice (some ⟨g, 0, none⟩) n n :: .pointer (some ⟨bd, 3, none⟩) :: .int .i64 ((i : Int)) :: .pointer (some ⟨g, i * 2, none⟩) :: .pointer (some ⟨g, i * 2 + 1, none⟩) :: .int .i64 (y) :: .pointer (some ⟨bd, 4, none⟩) :: .int .i64 (k) :: .int .i64 (IntKind.i64.wrap (y - k)) :: .agg #[.int .i64 (IntKind.i64.wrap (x - k)), .int .i64 (IntKind.i64.wrap (y - k))] :: .pointer (some ⟨g, i * 2, none⟩) :: s186 :: s187 :: s188 :: s189 :: s190 :: s191 :: s192 :: s193 :: s194 :: s195 :: s196 :: s197 :: s198 :: s199 :: s200 :: s201 :: s202 :: s203 :: s204 :: s205 :: s206 :: s207 :: s208 :: s209 :: s210 :: s211 :: s212 :: s213 :: s214 :: s215 :: s216 :: s217 :: s218 :: s219 :: s220 :: s221 :: s222 :: s223 :: s224 :: s225 :: s226 :: s227 :: s228 :: s229 :: s230 :: s231 :: s232 :: s233 :: s234 :: s235 :: s236 :: s237 :: s238 :: s239 :: s240 :: s241 :: s242 :: s243 :: s244 :: s245 :: s246 :: s247 :: s248 :: s249 :: s250 :: s251 :: s252 :: s253 :: s254 :: s255 :: s256 :: s257 :: s258 :: s259 :: s260 :: s261 :: s262 :: s263 :: s264 :: s265 :: s266 :: s267 :: s268 :: s269 :: s270 :: s271 :: s272 :: s273 :: s274 :: s275 :: s276 :: s277 :: s278 :: s279 :: s280 :: s281 :: s282 :: s283 :: s284 :: s285 :: s286 :: s287 :: s288 :: s289 :: s290 :: s291 :: s292 :: s293 :: s294 :: []),defers := dd } w') :
    Code.wpIn (wideAt none) 0 Try.prog kep15C Q { tmps := List.toArray (s0 :: s1 :: s2 :: s3 :: s4 :: s5 :: s6 :: s7 :: s8 :: s9 :: s10 :: .slice (some ⟨g, 0, none⟩) n n :: s12 :: .pointer (some ⟨bd, 0, none⟩) :: s14 :: s15 :: s16 :: s17 :: s18 :: s19 :: s20 :: s21 :: s22 :: s23 :: s24 :: s25 :: s26 :: s27 :: s28 :: s29 :: s30 :: s31 :: s32 :: s33 :: s34 :: s35 :: s36 :: s37 :: s38 :: s39 :: s40 :: s41 :: s42 :: s43 :: s44 :: s45 :: s46 :: s47 :: s48 :: s49 :: s50 :: s51 :: s52 :: s53 :: s54 :: s55 :: s56 :: s57 :: s58 :: s59 :: s60 :: s61 :: s62 :: s63 :: s64 :: s65 :: s66 :: s67 :: s68 :: s69 :: s70 :: s71 :: s72 :: s73 :: s74 :: s75 :: s76 :: s77 :: s78 :: s79 :: s80 :: s81 :: s82 :: s83 :: s84 :: s85 :: s86 :: s87 :: s88 :: s89 :: s90 :: s91 :: s92 :: s93 :: s94 :: s95 :: s96 :: s97 :: s98 :: s99 :: s100 :: s101 :: s102 :: s103 :: s104 :: s105 :: s106 :: s107 :: s108 :: s109 :: s110 :: s111 :: s112 :: s113 :: s114 :: s115 :: s116 :: s117 :: s118 :: s119 :: s120 :: s121 :: s122 :: s123 :: s124 :: s125 :: s126 :: s127 :: s128 :: s129 :: s130 :: s131 :: s132 :: s133 :: s134 :: s135 :: s136 :: s137 :: s138 :: s139 :: s140 :: s141 :: s142 :: s143 :: s144 :: s145 :: s146 :: s147 :: s148 :: s149 :: s150 :: s151 :: s152 :: s153 :: s154 :: s155 :: s156 :: s157 :: s158 :: s159 :: s160 :: s161 :: s162 :: s163 :: s164 :: s165 :: s166 :: s167 :: s168 :: s169 :: s170 :: s171 :: s172 :: s173 :: s174 :: s175 :: s176 :: s177 :: s178 :: s179 :: s180 :: s181 :: s182 :: s183 :: s184 :: s185 :: s186 :: s187 :: s188 :: s189 :: s190 :: s191 :: s192 :: s193 :: s194 :: s195 :: s196 :: s197 :: s198 :: s199 :: s200 :: s201 :: s202 :: s203 :: s204 :: s205 :: s206 :: s207 :: s208 :: s209 :: s210 :: s211 :: s212 :: s213 :: s214 :: s215 :: s216 :: s217 :: s218 :: s219 :: s220 :: s221 :: s222 :: s223 :: s224 :: s225 :: s226 :: s227 :: s228 :: s229 :: s230 :: s231 :: s232 :: s233 :: s234 :: s235 :: s236 :: s237 :: s238 :: s239 :: s240 :: s241 :: s242 :: s243 :: s244 :: s245 :: s246 :: s247 :: s248 :: s249 :: s250 :: s251 :: s252 :: s253 :: s254 :: s255 :: s256 :: s257 :: s258 :: s259 :: s260 :: s261 :: s262 :: s263 :: s264 :: s265 :: s266 :: s267 :: s268 :: s269 :: s270 :: s271 :: s272 :: s273 :: s274 :: s275 :: s276 :: s277 :: s278 :: s279 :: s280 :: s281 :: s282 :: s283 :: s284 :: s285 :: s286 :: s287 :: s288 :: s289 :: s290 :: s291 :: s292 :: s293 :: s294 :: []),defers := dd } W1 := by
  have HQ := Lib.hid hQ
  clear hQ
  conv => arg 4; whnf
  refine wpIn_region_invG mixed (by kernel_rfl) (fun d_ a_ w' => a_ = { tmps := List.toArray (s0 :: s1 :: s2 :: s3 :: s4 :: s5 :: s6 :: s7 :: s8 :: s9 :: s10 :: .slice (some ⟨g, 0, none⟩) n n :: s12 :: .pointer (some ⟨bd, 0, none⟩) :: s14 :: s15 :: s16 :: s17 :: s18 :: s19 :: s20 :: s21 :: s22 :: s23 :: s24 :: s25 :: s26 :: s27 :: s28 :: s29 :: s30 :: s31 :: s32 :: s33 :: s34 :: s35 :: s36 :: s37 :: s38 :: s39 :: s40 :: s41 :: s42 :: s43 :: s44 :: s45 :: s46 :: s47 :: s48 :: s49 :: s50 :: s51 :: s52 :: s53 :: s54 :: s55 :: s56 :: s57 :: s58 :: s59 :: s60 :: s61 :: s62 :: s63 :: s64 :: s65 :: s66 :: s67 :: s68 :: s69 :: s70 :: s71 :: s72 :: s73 :: s74 :: s75 :: s76 :: s77 :: s78 :: s79 :: s80 :: s81 :: s82 :: s83 :: s84 :: s85 :: s86 :: s87 :: s88 :: s89 :: s90 :: s91 :: s92 :: s93 :: s94 :: s95 :: s96 :: s97 :: s98 :: s99 :: s100 :: s101 :: s102 :: s103 :: s104 :: s105 :: s106 :: s107 :: s108 :: s109 :: s110 :: s111 :: s112 :: s113 :: s114 :: s115 :: s116 :: s117 :: s118 :: s119 :: s120 :: s121 :: s122 :: s123 :: s124 :: s125 :: s126 :: s127 :: s128 :: s129 :: s130 :: s131 :: s132 :: s133 :: s134 :: s135 :: s136 :: s137 :: s138 :: s139 :: s140 :: s141 :: s142 :: s143 :: s144 :: s145 :: s146 :: s147 :: s148 :: s149 :: s150 :: s151 :: s152 :: s153 :: s154 :: s155 :: s156 :: s157 :: s158 :: s159 :: s160 :: s161 :: s162 :: pk (d_ 0) (.slice (some ⟨g, 0, none⟩) n n) s163 :: pk (d_ 1) (.pointer (some ⟨bd, 3, none⟩)) s164 :: pk (d_ 2) (.int .i64 ((i : Int))) s165 :: pk (d_ 3) (.slice (some ⟨g, 0, none⟩) n n) s166 :: pk (d_ 4) (.pointer (some ⟨bd, 3, none⟩)) s167 :: pk (d_ 5) (.int .i64 ((i : Int))) s168 :: pk (d_ 6) (.pointer (some ⟨g, i * 2, none⟩)) s169 :: pk (d_ 7) (.pointer (some ⟨g, i * 2, none⟩)) s170 :: pk (d_ 8) (.int .i64 (x)) s171 :: pk (d_ 9) (.pointer (some ⟨bd, 4, none⟩)) s172 :: pk (d_ 10) (.int .i64 (k)) s173 :: pk (d_ 11) (.int .i64 (IntKind.i64.wrap (x - k))) s174 :: pk (d_ 12) (.slice (some ⟨g, 0, none⟩) n n) s175 :: pk (d_ 13) (.pointer (some ⟨bd, 3, none⟩)) s176 :: pk (d_ 14) (.int .i64 ((i : Int))) s177 :: pk (d_ 15) (.pointer (some ⟨g, i * 2, none⟩)) s178 :: pk (d_ 16) (.pointer (some ⟨g, i * 2 + 1, none⟩)) s179 :: pk (d_ 17) (.int .i64 (y)) s180 :: pk (d_ 18) (.pointer (some ⟨bd, 4, none⟩)) s181 :: pk (d_ 19) (.int .i64 (k)) s182 :: pk (d_ 20) (.int .i64 (IntKind.i64.wrap (y - k))) s183 :: pk (d_ 21) (.agg #[.int .i64 (IntKind.i64.wrap (x - k)), .int .i64 (IntKind.i64.wrap (y - k))]) s184 :: pk (d_ 22) (.pointer (some ⟨g, i * 2, none⟩)) s185 :: s186 :: s187 :: s188 :: s189 :: s190 :: s191 :: s192 :: s193 :: s194 :: s195 :: s196 :: s197 :: s198 :: s199 :: s200 :: s201 :: s202 :: s203 :: s204 :: s205 :: s206 :: s207 :: s208 :: s209 :: s210 :: s211 :: s212 :: s213 :: s214 :: s215 :: s216 :: s217 :: s218 :: s219 :: s220 :: s221 :: s222 :: s223 :: s224 :: s225 :: s226 :: s227 :: s228 :: s229 :: s230 :: s231 :: s232 :: s233 :: s234 :: s235 :: s236 :: s237 :: s238 :: s239 :: s240 :: s241 :: s242 :: s243 :: s244 :: s245 :: s246 :: s247 :: s248 :: s249 :: s250 :: s251 :: s252 :: s253 :: s254 :: s255 :: s256 :: s257 :: s258 :: s259 :: s260 :: s261 :: s262 :: s263 :: s264 :: s265 :: s266 :: s267 :: s268 :: s269 :: s270 :: s271 :: s272 :: s273 :: s274 :: s275 :: s276 :: s277 :: s278 :: s279 :: s280 :: s281 :: s282 :: s283 :: s284 :: s285 :: s286 :: s287 :: s288 :: s289 :: s290 :: s291 :: s292 :: s293 :: s294 :: []),defers := dd } ∧ ch2 P0 P1 P2 (d_ 21) (d_ 23) w' ∧ OrdP [[], [], [1], [], [], [4], [3, 5], [6], [7], [], [9], [8, 10], [], [], [13], [12, 14], [15], [16], [], [18], [17, 19], [11, 20], [0, 1, 2, 3, 4, 5, 6, 7, 8, 9, 10, 11, 12, 13, 14, 15, 16, 17, 18, 19, 20, 21], [0, 1, 2, 3, 4, 5, 6, 7, 8, 9, 10, 11, 12, 13, 14, 15, 16, 17, 18, 19, 20, 21, 22]] d_) ?_ ?_ ?_
  · exact ⟨rfl, h0, fun k h => by cases h⟩
  · refine ⟨?_,?_,?_,?_,?_,?_,?_,?_,?_,?_,?_,?_,?_,?_,?_,?_,?_,?_,?_,?_,?_,?_,?_,?_, trivial⟩
    all_goals
      rintro d_ a_ w1 K hd_ hdep ⟨rfl, F, O⟩ HK
      simp [Region.binds] at hdep
    · have HO : Hid (OrdP [[], [], [1], [], [], [4], [3, 5], [6], [7], [], [9], [8, 10], [], [], [13], [12, 14], [15], [16], [], [18], [17, 19], [11, 20], [0, 1, 2, 3, 4, 5, 6, 7, 8, 9, 10, 11, 12, 13, 14, 15, 16, 17, 18, 19, 20, 21], [0, 1, 2, 3, 4, 5, 6, 7, 8, 9, 10, 11, 12, 13, 14, 15, 16, 17, 18, 19, 20, 21, 22]] (upd d_ 0)) := O.step (show ∀ e ∈ ([] : List Nat), d_ e = true by simp [hdep])
      clear O
      have HF := Lib.hid F
      clear F hdep
      go_simp
      refine HK.out _ _ ⟨?_, HF.out, HO.out⟩
      all_goals rfl
    · have HO : Hid (OrdP [[], [], [1], [], [], [4], [3, 5], [6], [7], [], [9], [8, 10], [], [], [13], [12, 14], [15], [16], [], [18], [17, 19], [11, 20], [0, 1, 2, 3, 4, 5, 6, 7, 8, 9, 10, 11, 12, 13, 14, 15, 16, 17, 18, 19, 20, 21], [0, 1, 2, 3, 4, 5, 6, 7, 8, 9, 10, 11, 12, 13, 14, 15, 16, 17, 18, 19, 20, 21, 22]] (upd d_ 1)) := O.step (show ∀ e ∈ ([] : List Nat), d_ e = true by simp [hdep])
      clear O
      have HF := Lib.hid F
      clear F hdep
      go_simp
      refine HK.out _ _ ⟨?_, HF.out, HO.out⟩
      all_goals rfl
    · have HO : Hid (OrdP [[], [], [1], [], [], [4], [3, 5], [6], [7], [], [9], [8, 10], [], [], [13], [12, 14], [15], [16], [], [18], [17, 19], [11, 20], [0, 1, 2, 3, 4, 5, 6, 7, 8, 9, 10, 11, 12, 13, 14, 15, 16, 17, 18, 19, 20, 21], [0, 1, 2, 3, 4, 5, 6, 7, 8, 9, 10, 11, 12, 13, 14, 15, 16, 17, 18, 19, 20, 21, 22]] (upd d_ 2)) := O.step (show ∀ e ∈ ([1] : List Nat), d_ e = true by simp [hdep])
      have q1 : d_ 1 = true := by simp [hdep]
      have kk := kl2.out w1 (ch2_or F)
      clear O
      rw [pk_of q1]
      have HF := Lib.hid F
      clear F hdep
      go_simp
      refine HK.out _ _ ⟨?_, HF.out, HO.out⟩
      rw [pk_of (show upd d_ 2 1 = true from q1)]
      all_goals rfl
    · have HO : Hid (OrdP [[], [], [1], [], [], [4], [3, 5], [6], [7], [], [9], [8, 10], [], [], [13], [12, 14], [15], [16], [], [18], [17, 19], [11, 20], [0, 1, 2, 3, 4, 5, 6, 7, 8, 9, 10, 11, 12, 13, 14, 15, 16, 17, 18, 19, 20, 21], [0, 1, 2, 3, 4, 5, 6, 7, 8, 9, 10, 11, 12, 13, 14, 15, 16, 17, 18, 19, 20, 21, 22]] (upd d_ 3)) := O.step (show ∀ e ∈ ([] : List Nat), d_ e = true by simp [hdep])
      clear O
      have HF := Lib.hid F
      clear F hdep
      go_simp
      refine HK.out _ _ ⟨?_, HF.out, HO.out⟩
      all_goals rfl
    · have HO : Hid (OrdP [[], [], [1], [], [], [4], [3, 5], [6], [7], [], [9], [8, 10], [], [], [13], [12, 14], [15], [16], [], [18], [17, 19], [11, 20], [0, 1, 2, 3, 4, 5, 6, 7, 8, 9, 10, 11, 12, 13, 14, 15, 16, 17, 18, 19, 20, 21], [0, 1, 2, 3, 4, 5, 6, 7, 8, 9, 10, 11, 12, 13, 14, 15, 16, 17, 18, 19, 20, 21, 22]] (upd d_ 4)) := O.step (show ∀ e ∈ ([] : List Nat), d_ e = true by simp [hdep])
      clear O
      have HF := Lib.hid F
      clear F hdep
      go_simp
      refine HK.out _ _ ⟨?_, HF.out, HO.out⟩
      all_goals rfl
    · have HO : Hid (OrdP [[], [], [1], [], [], [4], [3, 5], [6], [7], [], [9], [8, 10], [], [], [13], [12, 14], [15], [16], [], [18], [17, 19], [11, 20], [0, 1, 2, 3, 4, 5, 6, 7, 8, 9, 10, 11, 12, 13, 14, 15, 16, 17, 18, 19, 20, 21], [0, 1, 2, 3, 4, 5, 6, 7, 8, 9, 10, 11, 12, 13, 14, 15, 16, 17, 18, 19, 20, 21, 22]] (upd d_ 5)) := O.step (show ∀ e ∈ ([4] : List Nat), d_ e = true by simp [hdep])
      have q4 : d_ 4 = true := by simp [hdep]
      have kk := kl5.out w1 (ch2_or F)
      clear O
      rw [pk_of q4]
      have HF := Lib.hid F
      clear F hdep
      go_simp
      refine HK.out _ _ ⟨?_, HF.out, HO.out⟩
      rw [pk_of (show upd d_ 5 4 = true from q4)]
      all_goals rfl
    · have HO : Hid (OrdP [[], [], [1], [], [], [4], [3, 5], [6], [7], [], [9], [8, 10], [], [], [13], [12, 14], [15], [16], [], [18], [17, 19], [11, 20], [0, 1, 2, 3, 4, 5, 6, 7, 8, 9, 10, 11, 12, 13, 14, 15, 16, 17, 18, 19, 20, 21], [0, 1, 2, 3, 4, 5, 6, 7, 8, 9, 10, 11, 12, 13, 14, 15, 16, 17, 18, 19, 20, 21, 22]] (upd d_ 6)) := O.step (show ∀ e ∈ ([3, 5] : List Nat), d_ e = true by simp [hdep])
      have q3 : d_ 3 = true := by simp [hdep]
      have q5 : d_ 5 = true := by simp [hdep]
      clear O
      have hin2 : i < n := hin
      rw [pk_of q3, pk_of q5]
      have HF := Lib.hid F
      clear F hdep
      go_simp
      refine HK.out _ _ ⟨?_, HF.out, HO.out⟩
      rw [pk_of (show upd d_ 6 3 = true from q3), pk_of (show upd d_ 6 5 = true from q5)]
      all_goals rfl
    · have HO : Hid (OrdP [[], [], [1], [], [], [4], [3, 5], [6], [7], [], [9], [8, 10], [], [], [13], [12, 14], [15], [16], [], [18], [17, 19], [11, 20], [0, 1, 2, 3, 4, 5, 6, 7, 8, 9, 10, 11, 12, 13, 14, 15, 16, 17, 18, 19, 20, 21], [0, 1, 2, 3, 4, 5, 6, 7, 8, 9, 10, 11, 12, 13, 14, 15, 16, 17, 18, 19, 20, 21, 22]] (upd d_ 7)) := O.step (show ∀ e ∈ ([6] : List Nat), d_ e = true by simp [hdep])
      have q6 : d_ 6 = true := by simp [hdep]
      clear O
      rw [pk_of q6]
      have HF := Lib.hid F
      clear F hdep
      go_simp
      refine HK.out _ _ ⟨?_, HF.out, HO.out⟩
      rw [pk_of (show upd d_ 7 6 = true from q6)]
      all_goals rfl
    · have HO : Hid (OrdP [[], [], [1], [], [], [4], [3, 5], [6], [7], [], [9], [8, 10], [], [], [13], [12, 14], [15], [16], [], [18], [17, 19], [11, 20], [0, 1, 2, 3, 4, 5, 6, 7, 8, 9, 10, 11, 12, 13, 14, 15, 16, 17, 18, 19, 20, 21], [0, 1, 2, 3, 4, 5, 6, 7, 8, 9, 10, 11, 12, 13, 14, 15, 16, 17, 18, 19, 20, 21, 22]] (upd d_ 8)) := O.step (show ∀ e ∈ ([7] : List Nat), d_ e = true by simp [hdep])
      have q7 : d_ 7 = true := by simp [hdep]
      have F2 := F
      have n_ : d_ 21 = false := by
        cases e_ : d_ 21 with
        | false => rfl
        | true => have h2 := (O 11 (O 21 e_ 11 (by decide)) 8 (by decide)); rw [show d_ 8 = false from hd_] at h2; cases h2
      rw [n_] at F2
      have kk := kl8.out w1 (by
        have h3 := ch2_or F2
        cases e23_ : d_ 23 <;> simp_all [ch2])
      clear F2
      clear n_
      clear O
      rw [pk_of q7]
      have HF := Lib.hid F
      clear F hdep
      go_simp
      refine HK.out _ _ ⟨?_, HF.out, HO.out⟩
      rw [pk_of (show upd d_ 8 7 = true from q7)]
      all_goals rfl
    · have HO : Hid (OrdP [[], [], [1], [], [], [4], [3, 5], [6], [7], [], [9], [8, 10], [], [], [13], [12, 14], [15], [16], [], [18], [17, 19], [11, 20], [0, 1, 2, 3, 4, 5, 6, 7, 8, 9, 10, 11, 12, 13, 14, 15, 16, 17, 18, 19, 20, 21], [0, 1, 2, 3, 4, 5, 6, 7, 8, 9, 10, 11, 12, 13, 14, 15, 16, 17, 18, 19, 20, 21, 22]] (upd d_ 9)) := O.step (show ∀ e ∈ ([] : List Nat), d_ e = true by simp [hdep])
      clear O
      have HF := Lib.hid F
      clear F hdep
      go_simp
      refine HK.out _ _ ⟨?_, HF.out, HO.out⟩
      all_goals rfl
    · have HO : Hid (OrdP [[], [], [1], [], [], [4], [3, 5], [6], [7], [], [9], [8, 10], [], [], [13], [12, 14], [15], [16], [], [18], [17, 19], [11, 20], [0, 1, 2, 3, 4, 5, 6, 7, 8, 9, 10, 11, 12, 13, 14, 15, 16, 17, 18, 19, 20, 21], [0, 1, 2, 3, 4, 5, 6, 7, 8, 9, 10, 11, 12, 13, 14, 15, 16, 17, 18, 19, 20, 21, 22]] (upd d_ 10)) := O.step (show ∀ e ∈ ([9] : List Nat), d_ e = true by simp [hdep])
      have q9 : d_ 9 = true := by simp [hdep]
      have kk := kl10.out w1 (ch2_or F)
      clear O
      rw [pk_of q9]
      have HF := Lib.hid F
      clear F hdep
      go_simp
      refine HK.out _ _ ⟨?_, HF.out, HO.out⟩
      rw [pk_of (show upd d_ 10 9 = true from q9)]
      all_goals rfl
    · have HO : Hid (OrdP [[], [], [1], [], [], [4], [3, 5], [6], [7], [], [9], [8, 10], [], [], [13], [12, 14], [15], [16], [], [18], [17, 19], [11, 20], [0, 1, 2, 3, 4, 5, 6, 7, 8, 9, 10, 11, 12, 13, 14, 15, 16, 17, 18, 19, 20, 21], [0, 1, 2, 3, 4, 5, 6, 7, 8, 9, 10, 11, 12, 13, 14, 15, 16, 17, 18, 19, 20, 21, 22]] (upd d_ 11)) := O.step (show ∀ e ∈ ([8, 10] : List Nat), d_ e = true by simp [hdep])
      have q8 : d_ 8 = true := by simp [hdep]
      have q10 : d_ 10 = true := by simp [hdep]
      clear O
      rw [pk_of q8, pk_of q10]
      have HF := Lib.hid F
      clear F hdep
      go_simp
      refine HK.out _ _ ⟨?_, HF.out, HO.out⟩
      rw [pk_of (show upd d_ 11 8 = true from q8), pk_of (show upd d_ 11 10 = true from q10)]
      all_goals rfl
    · have HO : Hid (OrdP [[], [], [1], [], [], [4], [3, 5], [6], [7], [], [9], [8, 10], [], [], [13], [12, 14], [15], [16], [], [18], [17, 19], [11, 20], [0, 1, 2, 3, 4, 5, 6, 7, 8, 9, 10, 11, 12, 13, 14, 15, 16, 17, 18, 19, 20, 21], [0, 1, 2, 3, 4, 5, 6, 7, 8, 9, 10, 11, 12, 13, 14, 15, 16, 17, 18, 19, 20, 21, 22]] (upd d_ 12)) := O.step (show ∀ e ∈ ([] : List Nat), d_ e = true by simp [hdep])
      clear O
      have HF := Lib.hid F
      clear F hdep
      go_simp
      refine HK.out _ _ ⟨?_, HF.out, HO.out⟩
      all_goals rfl
    · have HO : Hid (OrdP [[], [], [1], [], [], [4], [3, 5], [6], [7], [], [9], [8, 10], [], [], [13], [12, 14], [15], [16], [], [18], [17, 19], [11, 20], [0, 1, 2, 3, 4, 5, 6, 7, 8, 9, 10, 11, 12, 13, 14, 15, 16, 17, 18, 19, 20, 21], [0, 1, 2, 3, 4, 5, 6, 7, 8, 9, 10, 11, 12, 13, 14, 15, 16, 17, 18, 19, 20, 21, 22]] (upd d_ 13)) := O.step (show ∀ e ∈ ([] : List Nat), d_ e = true by simp [hdep])
      clear O
      have HF := Lib.hid F
      clear F hdep
      go_simp
      refine HK.out _ _ ⟨?_, HF.out, HO.out⟩
      all_goals rfl
    · have HO : Hid (OrdP [[], [], [1], [], [], [4], [3, 5], [6], [7], [], [9], [8, 10], [], [], [13], [12, 14], [15], [16], [], [18], [17, 19], [11, 20], [0, 1, 2, 3, 4, 5, 6, 7, 8, 9, 10, 11, 12, 13, 14, 15, 16, 17, 18, 19, 20, 21], [0, 1, 2, 3, 4, 5, 6, 7, 8, 9, 10, 11, 12, 13, 14, 15, 16, 17, 18, 19, 20, 21, 22]] (upd d_ 14)) := O.step (show ∀ e ∈ ([13] : List Nat), d_ e = true by simp [hdep])
      have q13 : d_ 13 = true := by simp [hdep]
      have kk := kl14.out w1 (ch2_or F)
      clear O
      rw [pk_of q13]
      have HF := Lib.hid F
      clear F hdep
      go_simp
      refine HK.out _ _ ⟨?_, HF.out, HO.out⟩
      rw [pk_of (show upd d_ 14 13 = true from q13)]
      all_goals rfl
    · have HO : Hid (OrdP [[], [], [1], [], [], [4], [3, 5], [6], [7], [], [9], [8, 10], [], [], [13], [12, 14], [15], [16], [], [18], [17, 19], [11, 20], [0, 1, 2, 3, 4, 5, 6, 7, 8, 9, 10, 11, 12, 13, 14, 15, 16, 17, 18, 19, 20, 21], [0, 1, 2, 3, 4, 5, 6, 7, 8, 9, 10, 11, 12, 13, 14, 15, 16, 17, 18, 19, 20, 21, 22]] (upd d_ 15)) := O.step (show ∀ e ∈ ([12, 14] : List Nat), d_ e = true by simp [hdep])
      have q12 : d_ 12 = true := by simp [hdep]
      have q14 : d_ 14 = true := by simp [hdep]
      clear O
      have hin2 : i < n := hin
      rw [pk_of q12, pk_of q14]
      have HF := Lib.hid F
      clear F hdep
      go_simp
      refine HK.out _ _ ⟨?_, HF.out, HO.out⟩
      rw [pk_of (show upd d_ 15 12 = true from q12), pk_of (show upd d_ 15 14 = true from q14)]
      all_goals rfl
    · have HO : Hid (OrdP [[], [], [1], [], [], [4], [3, 5], [6], [7], [], [9], [8, 10], [], [], [13], [12, 14], [15], [16], [], [18], [17, 19], [11, 20], [0, 1, 2, 3, 4, 5, 6, 7, 8, 9, 10, 11, 12, 13, 14, 15, 16, 17, 18, 19, 20, 21], [0, 1, 2, 3, 4, 5, 6, 7, 8, 9, 10, 11, 12, 13, 14, 15, 16, 17, 18, 19, 20, 21, 22]] (upd d_ 16)) := O.step (show ∀ e ∈ ([15] : List Nat), d_ e = true by simp [hdep])
      have q15 : d_ 15 = true := by simp [hdep]
      clear O
      rw [pk_of q15]
      have HF := Lib.hid F
      clear F hdep
      go_simp
      refine HK.out _ _ ⟨?_, HF.out, HO.out⟩
      rw [pk_of (show upd d_ 16 15 = true from q15)]
      all_goals rfl
    · have HO : Hid (OrdP [[], [], [1], [], [], [4], [3, 5], [6], [7], [], [9], [8, 10], [], [], [13], [12, 14], [15], [16], [], [18], [17, 19], [11, 20], [0, 1, 2, 3, 4, 5, 6, 7, 8, 9, 10, 11, 12, 13, 14, 15, 16, 17, 18, 19, 20, 21], [0, 1, 2, 3, 4, 5, 6, 7, 8, 9, 10, 11, 12, 13, 14, 15, 16, 17, 18, 19, 20, 21, 22]] (upd d_ 17)) := O.step (show ∀ e ∈ ([16] : List Nat), d_ e = true by simp [hdep])
      have q16 : d_ 16 = true := by simp [hdep]
      have F2 := F
      have n_ : d_ 21 = false := by
        cases e_ : d_ 21 with
        | false => rfl
        | true => have h2 := (O 20 (O 21 e_ 20 (by decide)) 17 (by decide)); rw [show d_ 17 = false from hd_] at h2; cases h2
      rw [n_] at F2
      have kk := kl17.out w1 (by
        have h3 := ch2_or F2
        cases e23_ : d_ 23 <;> simp_all [ch2])
      clear F2
      clear n_
      clear O
      rw [pk_of q16]
      have HF := Lib.hid F
      clear F hdep
      go_simp
      refine HK.out _ _ ⟨?_, HF.out, HO.out⟩
      rw [pk_of (show upd d_ 17 16 = true from q16)]
      all_goals rfl
    · have HO : Hid (OrdP [[], [], [1], [], [], [4], [3, 5], [6], [7], [], [9], [8, 10], [], [], [13], [12, 14], [15], [16], [], [18], [17, 19], [11, 20], [0, 1, 2, 3, 4, 5, 6, 7, 8, 9, 10, 11, 12, 13, 14, 15, 16, 17, 18, 19, 20, 21], [0, 1, 2, 3, 4, 5, 6, 7, 8, 9, 10, 11, 12, 13, 14, 15, 16, 17, 18, 19, 20, 21, 22]] (upd d_ 18)) := O.step (show ∀ e ∈ ([] : List Nat), d_ e = true by simp [hdep])
      clear O
      have HF := Lib.hid F
      clear F hdep
      go_simp
      refine HK.out _ _ ⟨?_, HF.out, HO.out⟩
      all_goals rfl
    · have HO : Hid (OrdP [[], [], [1], [], [], [4], [3, 5], [6], [7], [], [9], [8, 10], [], [], [13], [12, 14], [15], [16], [], [18], [17, 19], [11, 20], [0, 1, 2, 3, 4, 5, 6, 7, 8, 9, 10, 11, 12, 13, 14, 15, 16, 17, 18, 19, 20, 21], [0, 1, 2, 3, 4, 5, 6, 7, 8, 9, 10, 11, 12, 13, 14, 15, 16, 17, 18, 19, 20, 21, 22]] (upd d_ 19)) := O.step (show ∀ e ∈ ([18] : List Nat), d_ e = true by simp [hdep])
      have q18 : d_ 18 = true := by simp [hdep]
      have kk := kl19.out w1 (ch2_or F)
      clear O
      rw [pk_of q18]
      have HF := Lib.hid F
      clear F hdep
      go_simp
      refine HK.out _ _ ⟨?_, HF.out, HO.out⟩
      rw [pk_of (show upd d_ 19 18 = true from q18)]
      all_goals rfl
    · have HO : Hid (OrdP [[], [], [1], [], [], [4], [3, 5], [6], [7], [], [9], [8, 10], [], [], [13], [12, 14], [15], [16], [], [18], [17, 19], [11, 20], [0, 1, 2, 3, 4, 5, 6, 7, 8, 9, 10, 11, 12, 13, 14, 15, 16, 17, 18, 19, 20, 21], [0, 1, 2, 3, 4, 5, 6, 7, 8, 9, 10, 11, 12, 13, 14, 15, 16, 17, 18, 19, 20, 21, 22]] (upd d_ 20)) := O.step (show ∀ e ∈ ([17, 19] : List Nat), d_ e = true by simp [hdep])
      have q17 : d_ 17 = true := by simp [hdep]
      have q19 : d_ 19 = true := by simp [hdep]
      clear O
      rw [pk_of q17, pk_of q19]
      have HF := Lib.hid F
      clear F hdep
      go_simp
      refine HK.out _ _ ⟨?_, HF.out, HO.out⟩
      rw [pk_of (show upd d_ 20 17 = true from q17), pk_of (show upd d_ 20 19 = true from q19)]
      all_goals rfl
    · have HO : Hid (OrdP [[], [], [1], [], [], [4], [3, 5], [6], [7], [], [9], [8, 10], [], [], [13], [12, 14], [15], [16], [], [18], [17, 19], [11, 20], [0, 1, 2, 3, 4, 5, 6, 7, 8, 9, 10, 11, 12, 13, 14, 15, 16, 17, 18, 19, 20, 21], [0, 1, 2, 3, 4, 5, 6, 7, 8, 9, 10, 11, 12, 13, 14, 15, 16, 17, 18, 19, 20, 21, 22]] (upd d_ 21)) := O.step (show ∀ e ∈ ([11, 20] : List Nat), d_ e = true by simp [hdep])
      have q11 : d_ 11 = true := by simp [hdep]
      have q20 : d_ 20 = true := by simp [hdep]
      clear O
      rw [pk_of q11, pk_of q20]
      obtain ⟨hP, hN⟩ := ch2_s1 F hd_
      have hc := kc21.out w1 hP
      have HN := Lib.hid hN
      clear F hP hN hdep
      go_simp
      refine ⟨trivial, rfl, wideAt_calls (hc.mono ?_)⟩
      rintro e w5 ⟨rfl, hR⟩
      have HG := HN.out w5 hR
      refine HK.out _ _ ⟨?_, HG, HO.out⟩
      rw [pk_of (show upd d_ 21 11 = true from q11), pk_of (show upd d_ 21 20 = true from q20)]
      all_goals rfl
    · have HO : Hid (OrdP [[], [], [1], [], [], [4], [3, 5], [6], [7], [], [9], [8, 10], [], [], [13], [12, 14], [15], [16], [], [18], [17, 19], [11, 20], [0, 1, 2, 3, 4, 5, 6, 7, 8, 9, 10, 11, 12, 13, 14, 15, 16, 17, 18, 19, 20, 21], [0, 1, 2, 3, 4, 5, 6, 7, 8, 9, 10, 11, 12, 13, 14, 15, 16, 17, 18, 19, 20, 21, 22]] (upd d_ 22)) := O.step (show ∀ e ∈ ([0, 1, 2, 3, 4, 5, 6, 7, 8, 9, 10, 11, 12, 13, 14, 15, 16, 17, 18, 19, 20, 21] : List Nat), d_ e = true by simp [hdep])
      have q0 : d_ 0 = true := by simp [hdep]
      have q2 : d_ 2 = true := by simp [hdep]
      clear O
      have hin2 : i < n := hin
      rw [pk_of q0, pk_of q2]
      have HF := Lib.hid F
      clear F hdep
      go_simp
      refine HK.out _ _ ⟨?_, HF.out, HO.out⟩
      rw [pk_of (show upd d_ 22 0 = true from q0), pk_of (show upd d_ 22 2 = true from q2)]
      all_goals rfl
    · have HO : Hid (OrdP [[], [], [1], [], [], [4], [3, 5], [6], [7], [], [9], [8, 10], [], [], [13], [12, 14], [15], [16], [], [18], [17, 19], [11, 20], [0, 1, 2, 3, 4, 5, 6, 7, 8, 9, 10, 11, 12, 13, 14, 15, 16, 17, 18, 19, 20, 21], [0, 1, 2, 3, 4, 5, 6, 7, 8, 9, 10, 11, 12, 13, 14, 15, 16, 17, 18, 19, 20, 21, 22]] (upd d_ 23)) := O.step (show ∀ e ∈ ([0, 1, 2, 3, 4, 5, 6, 7, 8, 9, 10, 11, 12, 13, 14, 15, 16, 17, 18, 19, 20, 21, 22] : List Nat), d_ e = true by simp [hdep])
      have q21 : d_ 21 = true := by simp [hdep]
      have q22 : d_ 22 = true := by simp [hdep]
      clear O
      rw [pk_of q21, pk_of q22]
      obtain ⟨hP, hN⟩ := ch2_s2 F (show d_ 21 = true by simp [hdep]) hd_
      obtain ⟨⟨u0, c0⟩, z0, ⟨u1, c1⟩, z1, hR⟩ := ks23.out w1 hP
      have HF := Lib.hid (hN _ hR)
      clear F hP hR hN hdep
      go_simp
      have HG := HF.out
      refine HK.out _ _ ⟨?_, HG, HO.out⟩
      rw [pk_of (show upd d_ 23 21 = true from q21), pk_of (show upd d_ 23 22 = true from q22)]
      all_goals rfl
  · rintro d_ a_ w1 hall ⟨rfl, F, O⟩
    have hall' : ∀ k, k < 24 → d_ k = true := hall
    rw [hall' 21 (by decide), hall' 23 (by decide)] at F
    have HF := Lib.hid F
    clear F
    rw [pk_of (hall' 0 (by decide)), pk_of (hall' 1 (by decide)), pk_of (hall' 2 (by decide)), pk_of (hall' 3 (by decide)), pk_of (hall' 4 (by decide)), pk_of (hall' 5 (by decide)), pk_of (hall' 6 (by decide)), pk_of (hall' 7 (by decide)), pk_of (hall' 8 (by decide)), pk_of (hall' 9 (by decide)), pk_of (hall' 10 (by decide)), pk_of (hall' 11 (by decide)), pk_of (hall' 12 (by decide)), pk_of (hall' 13 (by decide)), pk_of (hall' 14 (by decide)), pk_of (hall' 15 (by decide)), pk_of (hall' 16 (by decide)), pk_of (hall' 17 (by decide)), pk_of (hall' 18 (by decide)), pk_of (hall' 19 (by decide)), pk_of (hall' 20 (by decide)), pk_of (hall' 21 (by decide)), pk_of (hall' 22 (by decide))]
    exact HQ.out w1 HF.out
noncomputable def kep26C : Code := (Try.f9.body.bind (regionAt 26)).getD .skip
set_option maxRecDepth 100000 in
set_option maxHeartbeats 8000000 in
theorem kep26 {g bb i n : Nat} {x y u v : Int} {P0 P1 P2 : World → Prop} {Q : Exit → Act → World → Prop} {W1 : World} (hin : i < n) (h0 : P0 W1.drew)
    (kl6 : Hid (∀ w : World, (P0 w) → w.cell? ⟨g, i * 2, none⟩ = some (.int .i64 (x))))
    (kl8 : Hid (∀ w : World, (P0 w ∨ P1 w ∨ P2 w) → w.cell? ⟨bb, 0, none⟩ = some (.int .i64 (u))))
    (kl14 : Hid (∀ w : World, (P0 w) → w.cell? ⟨g, i * 2 + 1, none⟩ = some (.int .i64 (y))))
    (kl16 : Hid (∀ w : World, (P0 w ∨ P1 w ∨ P2 w) → w.cell? ⟨bb, 1, none⟩ = some (.int .i64 (v))))
    (kc18 : Hid (∀ w : World, P0 w → Calls Try.prog 35 #[.int .i64 (IntKind.i64.wrap (x + u)), .int .i64 (IntKind.i64.wrap (y + v))] w fun e w' => e = .returned (.agg #[.int .i64 (IntKind.i64.wrap (x + u)), .int .i64 (IntKind.i64.wrap (y + v))]) ∧ P1 w'))
    (ks20 : Hid (∀ w : World, P1 w → (∃ u, w.cell? ⟨g, i * 2, none⟩ = some u) ∧ w.frozen? ⟨g, i * 2, none⟩ = false ∧ (∃ u, w.cell? ⟨g, i * 2 + 1, none⟩ = some u) ∧ w.frozen? ⟨g, i * 2 + 1, none⟩ = false ∧ P2 ((w.setCell ⟨g, i * 2, none⟩ (.int .i64 (IntKind.i64.wrap (x + u)))).setCell ⟨g, i * 2 + 1, none⟩ (.int .i64 (IntKind.i64.wrap (y + v))))))
    {s0 s1 s2 s3 s4 s5 s6 s7 s8 s9 s10 s12 s13 s14 s15 s18 s19 s20 s21 s22 s23 s24 s25 s26 s27 s28 s29 s30 s31 s32 s33 s34 s35 s36 s37 s38 s39 s40 s41 s42 s43 s44 s45 s46 s47 s48 s49 s50 s51 s52 s53 s54 s55 s56 s57 s58 s59 s60 s61 s62 s63 s64 s65 s66 s67 s68 s69 s70 s71 s72 s73 s74 s75 s76 s77 s78 s79 s80 s81 s82 s83 s84 s85 s86 s87 s88 s89 s90 s91 s92 s93 s94 s95 s96 s97 s98 s99 s100 s101 s102 s103 s104 s105 s106 s107 s108 s109 s110 s111 s112 s113 s114 s115 s116 s117 s118 s119 s120 s121 s122 s123 s124 s125 s126 s127 s128 s129 s130 s131 s132 s133 s134 s135 s136 s137 s138 s139 s140 s141 s142 s143 s144 s145 s146 s147 s148 s149 s150 s151 s152 s153 s154 s155 s156 s157 s158 s159 s160 s161 s162 s163 s164 s165 s166 s167 s168 s169 s170 s171 s172 s173 s174 s175 s176 s177 s178 s179 s180 s181 s182 s183 s184 s185 s186 s187 s188 s189 s190 s191 s192 s193 s194 s195 s196 s197 s198 s199 s200 s201 s202 s203 s204 s205 s206 s207 s208 s209 s210 s211 s212 s213 s214 s215 s216 s217 s218 s219 s220 s221 s222 s223 s224 s225 s226 s227 s228 s229 s230 s231 s232 s233 s234 s235 s236 s237 s238 s239 s240 s241 s242 s243 s244 s245 s246 s247 s248 s249 s250 s251 s252 s253 s254 s255 s256 s257 s258 s259 s260 s261 s262 s263 s264 s265 s266 s267 s268 s269 s270 s271 s272 s273 s274 s275 s276 s277 s278 s279 s280 s281 s282 s283 s284 s285 s286 s287 s288 s289 s290 s291 s292 s293 s294 : Value} {dd : List Deferred}
    (hQ : ∀ w' : World, P2 w' → Q .normal { tmps := List.toArray (s0 :: s1 :: s2 :: s3 :: s4 :: s5 :: s6 :: s7 :: s8 :: s9 :: s10 :: .slice (some ⟨g, 0, none⟩) n n :: s12 :: s13 :: s14 :: s15 :: .int .i64 ((i : Int)) :: .pointer (some ⟨bb, 0, none⟩) :: s18 :: s19 :: s20 :: s21 :: s22 :: s23 :: s24 :: s25 :: s26 :: s27 :: s28 :: s29 :: s30 :: s31 :: s32 :: s33 :: s34 :: s35 :: s36 :: s37 :: s38 :: s39 :: s40 :: s41 :: s42 :: s43 :: s44 :: s45 :: s46 :: s47 :: s48 :: s49 :: s50 :: s51 :: s52 :: s53 :: s54 :: s55 :: s56 :: s57 :: s58 :: s59 :: s60 :: s61 :: s62 :: s63 :: s64 :: s65 :: s66 :: s67 :: s68 :: s69 :: s70 :: s71 :: s72 :: s73 :: s74 :: s75 :: s76 :: s77 :: s78 :: s79 :: s80 :: s81 :: s82 :: s83 :: s84 :: s85 :: s86 :: s87 :: s88 :: s89 :: s90 :: s91 :: s92 :: s93 :: s94 :: s95 :: s96 :: s97 :: s98 :: s99 :: s100 :: s101 :: s102 :: s103 :: s104 :: s105 :: s106 :: s107 :: s108 :: s109 :: s110 :: s111 :: s112 :: s113 :: s114 :: s115 :: s116 :: s117 :: s118 :: s119 :: s120 :: s121 :: s122 :: s123 :: s124 :: s125 :: s126 :: s127 :: s128 :: s129 :: s130 :: s131 :: s132 :: s133 :: s134 :: s135 :: s136 :: s137 :: s138 :: s139 :: s140 :: s141 :: s142 :: s143 :: s144 :: s145 :: s146 :: s147 :: s148 :: s149 :: s150 :: s151 :: s152 :: s153 :: s154 :: s155 :: s156 :: s157 :: s158 :: s159 :: s160 :: s161 :: s162 :: s163 :: s164 :: s165 :: s166 :: s167 :: s168 :: s169 :: s170 :: s171 :: s172 :: s173 :: s174 :: s175 :: s176 :: s177 :: s178 :: s179 :: s180 :: s181 :: s182 :: s183 :: s184 :: s185 :: s186 :: s187 :: s188 :: s189 :: s190 :: s191 :: s192 :: s193 :: s194 :: s195 :: s196 :: s197 :: s198 :: s199 :: s200 :: s201 :: s202 :: s203 :: s204 :: s205 :: s206 :: s207 :: s208 :: s209 :: s210 :: s211 :: s212 :: s213 :: s214 :: s215 :: s216 :: s217 :: s218 :: s219 :: s220 :: s221 :: s222 :: s223 :: s224 :: s225 :: s226 :: s227 :: s228 :: s229 :: .slice (some ⟨g, 0, none⟩) n n :: .int .i64 ((i : Int)) :: .slice (some ⟨g, 0, none⟩) n n :: .int .i64 ((i : Int)) :: .pointer (some ⟨g, i * 2, none⟩) :: .pointer (some ⟨g, i * 2, none⟩) :: .int .i64 (x) :: .pointer (some ⟨bb, 0, none⟩) :: .int .i64 (u) :: .int .i64 (IntKind.i64.wrap (x + u)) :: .slice (some ⟨g, 0, none⟩) n n :: .int .i64 ((i : Int)) :: .pointer (some ⟨g, i * 2, none⟩) :: .pointer (some ⟨g, i * 2 + 1, none⟩) :: .int .i64 (y) :: .pointer (some ⟨bb, 1, none⟩) :: .int .i64 (v) :: .int .i64 (IntKind.i64.wrap (y + v)) :: .agg #[.int .i64 (IntKind.i64.wrap (x + u)), .int .i64 (IntKind.i64.wrap (y + v))] :: .pointer (some ⟨g, i * 2, none⟩) :: s250 :: s251 :: s252 :: s253 :: s254 :: s255 :: s256 :: s257 :: s258 :: s259 :: s260 :: s261 :: s262 :: s263 :: s264 :: s265 :: s266 :: s267 :: s268 :: s269 :: s270 :: s271 :: s272 :: s273 :: s274 :: s275 :: s276 :: s277 :: s278 :: s279 :: s280 :: s281 :: s282 :: s283 :: s284 :: s285 :: s286 :: s287 :: s288 :: s289 :: s290 :: s291 :: s292 :: s293 :: s294 :: []),defers := dd } w') :
    Code.wpIn (wideAt none) 0 Try.prog kep26C Q { tmps := List.toArray (s0 :: s1 :: s2 :: s3 :: s4 :: s5 :: s6 :: s7 :: s8 :: s9 :: s10 :: .slice (some ⟨g, 0, none⟩) n n :: s12 :: s13 :: s14 :: s15 :: .int .i64 ((i : Int)) :: .pointer (some ⟨bb, 0, none⟩) :: s18 :: s19 :: s20 :: s21 :: s22 :: s23 :: s24 :: s25 :: s26 :: s27 :: s28 :: s29 :: s30 :: s31 :: s32 :: s33 :: s34 :: s35 :: s36 :: s37 :: s38 :: s39 :: s40 :: s41 :: s42 :: s43 :: s44 :: s45 :: s46 :: s47 :: s48 :: s49 :: s50 :: s51 :: s52 :: s53 :: s54 :: s55 :: s56 :: s57 :: s58 :: s59 :: s60 :: s61 :: s62 :: s63 :: s64 :: s65 :: s66 :: s67 :: s68 :: s69 :: s70 :: s71 :: s72 :: s73 :: s74 :: s75 :: s76 :: s77 :: s78 :: s79 :: s80 :: s81 :: s82 :: s83 :: s84 :: s85 :: s86 :: s87 :: s88 :: s89 :: s90 :: s91 :: s92 :: s93 :: s94 :: s95 :: s96 :: s97 :: s98 :: s99 :: s100 :: s101 :: s102 :: s103 :: s104 :: s105 :: s106 :: s107 :: s108 :: s109 :: s110 :: s111 :: s112 :: s113 :: s114 :: s115 :: s116 :: s117 :: s118 :: s119 :: s120 :: s121 :: s122 :: s123 :: s124 :: s125 :: s126 :: s127 :: s128 :: s129 :: s130 :: s131 :: s132 :: s133 :: s134 :: s135 :: s136 :: s137 :: s138 :: s139 :: s140 :: s141 :: s142 :: s143 :: s144 :: s145 :: s146 :: s147 :: s148 :: s149 :: s150 :: s151 :: s152 :: s153 :: s154 :: s155 :: s156 :: s157 :: s158 :: s159 :: s160 :: s161 :: s162 :: s163 :: s164 :: s165 :: s166 :: s167 :: s168 :: s169 :: s170 :: s171 :: s172 :: s173 :: s174 :: s175 :: s176 :: s177 :: s178 :: s179 :: s180 :: s181 :: s182 :: s183 :: s184 :: s185 :: s186 :: s187 :: s188 :: s189 :: s190 :: s191 :: s192 :: s193 :: s194 :: s195 :: s196 :: s197 :: s198 :: s199 :: s200 :: s201 :: s202 :: s203 :: s204 :: s205 :: s206 :: s207 :: s208 :: s209 :: s210 :: s211 :: s212 :: s213 :: s214 :: s215 :: s216 :: s217 :: s218 :: s219 :: s220 :: s221 :: s222 :: s223 :: s224 :: s225 :: s226 :: s227 :: s228 :: s229 :: s230 :: s231 :: s232 :: s233 :: s234 :: s235 :: s236 :: s237 :: s238 :: s239 :: s240 :: s241 :: s242 :: s243 :: s244 :: s245 :: s246 :: s247 :: s248 :: s249 :: s250 :: s251 :: s252 :: s253 :: s254 :: s255 :: s256 :: s257 :: s258 :: s259 :: s260 :: s261 :: s262 :: s263 :: s264 :: s265 :: s266 :: s267 :: s268 :: s269 :: s270 :: s271 :: s272 :: s273 :: s274 :: s275 :: s276 :: s277 :: s278 :: s279 :: s280 :: s281 :: s282 :: s283 :: s284 :: s285 :: s286 :: s287 :: s288 :: s289 :: s290 :: s291 :: s292 :: s293 :: s294 :: []),defers := dd } W1 := by
  have HQ := Lib.hid hQ
  clear hQ
  conv => arg 4; whnf
  refine wpIn_region_invG mixed (by kernel_rfl) (fun d_ a_ w' => a_ = { tmps := List.toArray (s0 :: s1 :: s2 :: s3 :: s4 :: s5 :: s6 :: s7 :: s8 :: s9 :: s10 :: .slice (some ⟨g, 0, none⟩) n n :: s12 :: s13 :: s14 :: s15 :: .int .i64 ((i : Int)) :: .pointer (some ⟨bb, 0, none⟩) :: s18 :: s19 :: s20 :: s21 :: s22 :: s23 :: s24 :: s25 :: s26 :: s27 :: s28 :: s29 :: s30 :: s31 :: s32 :: s33 :: s34 :: s35 :: s36 :: s37 :: s38 :: s39 :: s40 :: s41 :: s42 :: s43 :: s44 :: s45 :: s46 :: s47 :: s48 :: s49 :: s50 :: s51 :: s52 :: s53 :: s54 :: s55 :: s56 :: s57 :: s58 :: s59 :: s60 :: s61 :: s62 :: s63 :: s64 :: s65 :: s66 :: s67 :: s68 :: s69 :: s70 :: s71 :: s72 :: s73 :: s74 :: s75 :: s76 :: s77 :: s78 :: s79 :: s80 :: s81 :: s82 :: s83 :: s84 :: s85 :: s86 :: s87 :: s88 :: s89 :: s90 :: s91 :: s92 :: s93 :: s94 :: s95 :: s96 :: s97 :: s98 :: s99 :: s100 :: s101 :: s102 :: s103 :: s104 :: s105 :: s106 :: s107 :: s108 :: s109 :: s110 :: s111 :: s112 :: s113 :: s114 :: s115 :: s116 :: s117 :: s118 :: s119 :: s120 :: s121 :: s122 :: s123 :: s124 :: s125 :: s126 :: s127 :: s128 :: s129 :: s130 :: s131 :: s132 :: s133 :: s134 :: s135 :: s136 :: s137 :: s138 :: s139 :: s140 :: s141 :: s142 :: s143 :: s144 :: s145 :: s146 :: s147 :: s148 :: s149 :: s150 :: s151 :: s152 :: s153 :: s154 :: s155 :: s156 :: s157 :: s158 :: s159 :: s160 :: s161 :: s162 :: s163 :: s164 :: s165 :: s166 :: s167 :: s168 :: s169 :: s170 :: s171 :: s172 :: s173 :: s174 :: s175 :: s176 :: s177 :: s178 :: s179 :: s180 :: s181 :: s182 :: s183 :: s184 :: s185 :: s186 :: s187 :: s188 :: s189 :: s190 :: s191 :: s192 :: s193 :: s194 :: s195 :: s196 :: s197 :: s198 :: s199 :: s200 :: s201 :: s202 :: s203 :: s204 :: s205 :: s206 :: s207 :: s208 :: s209 :: s210 :: s211 :: s212 :: s213 :: s214 :: s215 :: s216 :: s217 :: s218 :: s219 :: s220 :: s221 :: s222 :: s223 :: s224 :: s225 :: s226 :: s227 :: s228 :: s229 :: pk (d_ 0) (.slice (some ⟨g, 0, none⟩) n n) s230 :: pk (d_ 1) (.int .i64 ((i : Int))) s231 :: pk (d_ 2) (.slice (some ⟨g, 0, none⟩) n n) s232 :: pk (d_ 3) (.int .i64 ((i : Int))) s233 :: pk (d_ 4) (.pointer (some ⟨g, i * 2, none⟩)) s234 :: pk (d_ 5) (.pointer (some ⟨g, i * 2, none⟩)) s235 :: pk (d_ 6) (.int .i64 (x)) s236 :: pk (d_ 7) (.pointer (some ⟨bb, 0, none⟩)) s237 :: pk (d_ 8) (.int .i64 (u)) s238 :: pk (d_ 9) (.int .i64 (IntKind.i64.wrap (x + u))) s239 :: pk (d_ 10) (.slice (some ⟨g, 0, none⟩) n n) s240 :: pk (d_ 11) (.int .i64 ((i : Int))) s241 :: pk (d_ 12) (.pointer (some ⟨g, i * 2, none⟩)) s242 :: pk (d_ 13) (.pointer (some ⟨g, i * 2 + 1, none⟩)) s243 :: pk (d_ 14) (.int .i64 (y)) s244 :: pk (d_ 15) (.pointer (some ⟨bb, 1, none⟩)) s245 :: pk (d_ 16) (.int .i64 (v)) s246 :: pk (d_ 17) (.int .i64 (IntKind.i64.wrap (y + v))) s247 :: pk (d_ 18) (.agg #[.int .i64 (IntKind.i64.wrap (x + u)), .int .i64 (IntKind.i64.wrap (y + v))]) s248 :: pk (d_ 19) (.pointer (some ⟨g, i * 2, none⟩)) s249 :: s250 :: s251 :: s252 :: s253 :: s254 :: s255 :: s256 :: s257 :: s258 :: s259 :: s260 :: s261 :: s262 :: s263 :: s264 :: s265 :: s266 :: s267 :: s268 :: s269 :: s270 :: s271 :: s272 :: s273 :: s274 :: s275 :: s276 :: s277 :: s278 :: s279 :: s280 :: s281 :: s282 :: s283 :: s284 :: s285 :: s286 :: s287 :: s288 :: s289 :: s290 :: s291 :: s292 :: s293 :: s294 :: []),defers := dd } ∧ ch2 P0 P1 P2 (d_ 18) (d_ 20) w' ∧ OrdP [[], [], [], [], [2, 3], [4], [5], [], [7], [6, 8], [], [], [10, 11], [12], [13], [], [15], [14, 16], [9, 17], [0, 1, 2, 3, 4, 5, 6, 7, 8, 9, 10, 11, 12, 13, 14, 15, 16, 17, 18], [0, 1, 2, 3, 4, 5, 6, 7, 8, 9, 10, 11, 12, 13, 14, 15, 16, 17, 18, 19]] d_) ?_ ?_ ?_
  · exact ⟨rfl, h0, fun k h => by cases h⟩
  · refine ⟨?_,?_,?_,?_,?_,?_,?_,?_,?_,?_,?_,?_,?_,?_,?_,?_,?_,?_,?_,?_,?_, trivial⟩
    all_goals
      rintro d_ a_ w1 K hd_ hdep ⟨rfl, F, O⟩ HK
      simp [Region.binds] at hdep
    · have HO : Hid (OrdP [[], [], [], [], [2, 3], [4], [5], [], [7], [6, 8], [], [], [10, 11], [12], [13], [], [15], [14, 16], [9, 17], [0, 1, 2, 3, 4, 5, 6, 7, 8, 9, 10, 11, 12, 13, 14, 15, 16, 17, 18], [0, 1, 2, 3, 4, 5, 6, 7, 8, 9, 10, 11, 12, 13, 14, 15, 16, 17, 18, 19]] (upd d_ 0)) := O.step (show ∀ e ∈ ([] : List Nat), d_ e = true by simp [hdep])
      clear O
      have HF := Lib.hid F
      clear F hdep
      go_simp
      refine HK.out _ _ ⟨?_, HF.out, HO.out⟩
      all_goals rfl
    · have HO : Hid (OrdP [[], [], [], [], [2, 3], [4], [5], [], [7], [6, 8], [], [], [10, 11], [12], [13], [], [15], [14, 16], [9, 17], [0, 1, 2, 3, 4, 5, 6, 7, 8, 9, 10, 11, 12, 13, 14, 15, 16, 17, 18], [0, 1, 2, 3, 4, 5, 6, 7, 8, 9, 10, 11, 12, 13, 14, 15, 16, 17, 18, 19]] (upd d_ 1)) := O.step (show ∀ e ∈ ([] : List Nat), d_ e = true by simp [hdep])
      clear O
      have HF := Lib.hid F
      clear F hdep
      go_simp
      refine HK.out _ _ ⟨?_, HF.out, HO.out⟩
      all_goals rfl
    · have HO : Hid (OrdP [[], [], [], [], [2, 3], [4], [5], [], [7], [6, 8], [], [], [10, 11], [12], [13], [], [15], [14, 16], [9, 17], [0, 1, 2, 3, 4, 5, 6, 7, 8, 9, 10, 11, 12, 13, 14, 15, 16, 17, 18], [0, 1, 2, 3, 4, 5, 6, 7, 8, 9, 10, 11, 12, 13, 14, 15, 16, 17, 18, 19]] (upd d_ 2)) := O.step (show ∀ e ∈ ([] : List Nat), d_ e = true by simp [hdep])
      clear O
      have HF := Lib.hid F
      clear F hdep
      go_simp
      refine HK.out _ _ ⟨?_, HF.out, HO.out⟩
      all_goals rfl
    · have HO : Hid (OrdP [[], [], [], [], [2, 3], [4], [5], [], [7], [6, 8], [], [], [10, 11], [12], [13], [], [15], [14, 16], [9, 17], [0, 1, 2, 3, 4, 5, 6, 7, 8, 9, 10, 11, 12, 13, 14, 15, 16, 17, 18], [0, 1, 2, 3, 4, 5, 6, 7, 8, 9, 10, 11, 12, 13, 14, 15, 16, 17, 18, 19]] (upd d_ 3)) := O.step (show ∀ e ∈ ([] : List Nat), d_ e = true by simp [hdep])
      clear O
      have HF := Lib.hid F
      clear F hdep
      go_simp
      refine HK.out _ _ ⟨?_, HF.out, HO.out⟩
      all_goals rfl
    · have HO : Hid (OrdP [[], [], [], [], [2, 3], [4], [5], [], [7], [6, 8], [], [], [10, 11], [12], [13], [], [15], [14, 16], [9, 17], [0, 1, 2, 3, 4, 5, 6, 7, 8, 9, 10, 11, 12, 13, 14, 15, 16, 17, 18], [0, 1, 2, 3, 4, 5, 6, 7, 8, 9, 10, 11, 12, 13, 14, 15, 16, 17, 18, 19]] (upd d_ 4)) := O.step (show ∀ e ∈ ([2, 3] : List Nat), d_ e = true by simp [hdep])
      have q2 : d_ 2 = true := by simp [hdep]
      have q3 : d_ 3 = true := by simp [hdep]
      clear O
      have hin2 : i < n := hin
      rw [pk_of q2, pk_of q3]
      have HF := Lib.hid F
      clear F hdep
      go_simp
      refine HK.out _ _ ⟨?_, HF.out, HO.out⟩
      rw [pk_of (show upd d_ 4 2 = true from q2), pk_of (show upd d_ 4 3 = true from q3)]
      all_goals rfl
    · have HO : Hid (OrdP [[], [], [], [], [2, 3], [4], [5], [], [7], [6, 8], [], [], [10, 11], [12], [13], [], [15], [14, 16], [9, 17], [0, 1, 2, 3, 4, 5, 6, 7, 8, 9, 10, 11, 12, 13, 14, 15, 16, 17, 18], [0, 1, 2, 3, 4, 5, 6, 7, 8, 9, 10, 11, 12, 13, 14, 15, 16, 17, 18, 19]] (upd d_ 5)) := O.step (show ∀ e ∈ ([4] : List Nat), d_ e = true by simp [hdep])
      have q4 : d_ 4 = true := by simp [hdep]
      clear O
      rw [pk_of q4]
      have HF := Lib.hid F
      clear F hdep
      go_simp
      refine HK.out _ _ ⟨?_, HF.out, HO.out⟩
      rw [pk_of (show upd d_ 5 4 = true from q4)]
      all_goals rfl
    · have HO : Hid (OrdP [[], [], [], [], [2, 3], [4], [5], [], [7], [6, 8], [], [], [10, 11], [12], [13], [], [15], [14, 16], [9, 17], [0, 1, 2, 3, 4, 5, 6, 7, 8, 9, 10, 11, 12, 13, 14, 15, 16, 17, 18], [0, 1, 2, 3, 4, 5, 6, 7, 8, 9, 10, 11, 12, 13, 14, 15, 16, 17, 18, 19]] (upd d_ 6)) := O.step (show ∀ e ∈ ([5] : List Nat), d_ e = true by simp [hdep])
      have q5 : d_ 5 = true := by simp [hdep]
      have F2 := F
      have n_ : d_ 18 = false := by
        cases e_ : d_ 18 with
        | false => rfl
        | true => have h2 := (O 9 (O 18 e_ 9 (by decide)) 6 (by decide)); rw [show d_ 6 = false from hd_] at h2; cases h2
      rw [n_] at F2
      have kk := kl6.out w1 (by
        have h3 := ch2_or F2
        cases e20_ : d_ 20 <;> simp_all [ch2])
      clear F2
      clear n_
      clear O
      rw [pk_of q5]
      have HF := Lib.hid F
      clear F hdep
      go_simp
      refine HK.out _ _ ⟨?_, HF.out, HO.out⟩
      rw [pk_of (show upd d_ 6 5 = true from q5)]
      all_goals rfl
    · have HO : Hid (OrdP [[], [], [], [], [2, 3], [4], [5], [], [7], [6, 8], [], [], [10, 11], [12], [13], [], [15], [14, 16], [9, 17], [0, 1, 2, 3, 4, 5, 6, 7, 8, 9, 10, 11, 12, 13, 14, 15, 16, 17, 18], [0, 1, 2, 3, 4, 5, 6, 7, 8, 9, 10, 11, 12, 13, 14, 15, 16, 17, 18, 19]] (upd d_ 7)) := O.step (show ∀ e ∈ ([] : List Nat), d_ e = true by simp [hdep])
      clear O
      have HF := Lib.hid F
      clear F hdep
      go_simp
      refine HK.out _ _ ⟨?_, HF.out, HO.out⟩
      all_goals rfl
    · have HO : Hid (OrdP [[], [], [], [], [2, 3], [4], [5], [], [7], [6, 8], [], [], [10, 11], [12], [13], [], [15], [14, 16], [9, 17], [0, 1, 2, 3, 4, 5, 6, 7, 8, 9, 10, 11, 12, 13, 14, 15, 16, 17, 18], [0, 1, 2, 3, 4, 5, 6, 7, 8, 9, 10, 11, 12, 13, 14, 15, 16, 17, 18, 19]] (upd d_ 8)) := O.step (show ∀ e ∈ ([7] : List Nat), d_ e = true by simp [hdep])
      have q7 : d_ 7 = true := by simp [hdep]
      have kk := kl8.out w1 (ch2_or F)
      clear O
      rw [pk_of q7]
      have HF := Lib.hid F
      clear F hdep
      go_simp
      refine HK.out _ _ ⟨?_, HF.out, HO.out⟩
      rw [pk_of (show upd d_ 8 7 = true from q7)]
      all_goals rfl
    · have HO : Hid (OrdP [[], [], [], [], [2, 3], [4], [5], [], [7], [6, 8], [], [], [10, 11], [12], [13], [], [15], [14, 16], [9, 17], [0, 1, 2, 3, 4, 5, 6, 7, 8, 9, 10, 11, 12, 13, 14, 15, 16, 17, 18], [0, 1, 2, 3, 4, 5, 6, 7, 8, 9, 10, 11, 12, 13, 14, 15, 16, 17, 18, 19]] (upd d_ 9)) := O.step (show ∀ e ∈ ([6, 8] : List Nat), d_ e = true by simp [hdep])
      have q6 : d_ 6 = true := by simp [hdep]
      have q8 : d_ 8 = true := by simp [hdep]
      clear O
      rw [pk_of q6, pk_of q8]
      have HF := Lib.hid F
      clear F hdep
      go_simp
      refine HK.out _ _ ⟨?_, HF.out, HO.out⟩
      rw [pk_of (show upd d_ 9 6 = true from q6), pk_of (show upd d_ 9 8 = true from q8)]
      all_goals rfl
    · have HO : Hid (OrdP [[], [], [], [], [2, 3], [4], [5], [], [7], [6, 8], [], [], [10, 11], [12], [13], [], [15], [14, 16], [9, 17], [0, 1, 2, 3, 4, 5, 6, 7, 8, 9, 10, 11, 12, 13, 14, 15, 16, 17, 18], [0, 1, 2, 3, 4, 5, 6, 7, 8, 9, 10, 11, 12, 13, 14, 15, 16, 17, 18, 19]] (upd d_ 10)) := O.step (show ∀ e ∈ ([] : List Nat), d_ e = true by simp [hdep])
      clear O
      have HF := Lib.hid F
      clear F hdep
      go_simp
      refine HK.out _ _ ⟨?_, HF.out, HO.out⟩
      all_goals rfl
    · have HO : Hid (OrdP [[], [], [], [], [2, 3], [4], [5], [], [7], [6, 8], [], [], [10, 11], [12], [13], [], [15], [14, 16], [9, 17], [0, 1, 2, 3, 4, 5, 6, 7, 8, 9, 10, 11, 12, 13, 14, 15, 16, 17, 18], [0, 1, 2, 3, 4, 5, 6, 7, 8, 9, 10, 11, 12, 13, 14, 15, 16, 17, 18, 19]] (upd d_ 11)) := O.step (show ∀ e ∈ ([] : List Nat), d_ e = true by simp [hdep])
      clear O
      have HF := Lib.hid F
      clear F hdep
      go_simp
      refine HK.out _ _ ⟨?_, HF.out, HO.out⟩
      all_goals rfl
    · have HO : Hid (OrdP [[], [], [], [], [2, 3], [4], [5], [], [7], [6, 8], [], [], [10, 11], [12], [13], [], [15], [14, 16], [9, 17], [0, 1, 2, 3, 4, 5, 6, 7, 8, 9, 10, 11, 12, 13, 14, 15, 16, 17, 18], [0, 1, 2, 3, 4, 5, 6, 7, 8, 9, 10, 11, 12, 13, 14, 15, 16, 17, 18, 19]] (upd d_ 12)) := O.step (show ∀ e ∈ ([10, 11] : List Nat), d_ e = true by simp [hdep])
      have q10 : d_ 10 = true := by simp [hdep]
      have q11 : d_ 11 = true := by simp [hdep]
      clear O
      have hin2 : i < n := hin
      rw [pk_of q10, pk_of q11]
      have HF := Lib.hid F
      clear F hdep
      go_simp
      refine HK.out _ _ ⟨?_, HF.out, HO.out⟩
      rw [pk_of (show upd d_ 12 10 = true from q10), pk_of (show upd d_ 12 11 = true from q11)]
      all_goals rfl
    · have HO : Hid (OrdP [[], [], [], [], [2, 3], [4], [5], [], [7], [6, 8], [], [], [10, 11], [12], [13], [], [15], [14, 16], [9, 17], [0, 1, 2, 3, 4, 5, 6, 7, 8, 9, 10, 11, 12, 13, 14, 15, 16, 17, 18], [0, 1, 2, 3, 4, 5, 6, 7, 8, 9, 10, 11, 12, 13, 14, 15, 16, 17, 18, 19]] (upd d_ 13)) := O.step (show ∀ e ∈ ([12] : List Nat), d_ e = true by simp [hdep])
      have q12 : d_ 12 = true := by simp [hdep]
      clear O
      rw [pk_of q12]
      have HF := Lib.hid F
      clear F hdep
      go_simp
      refine HK.out _ _ ⟨?_, HF.out, HO.out⟩
      rw [pk_of (show upd d_ 13 12 = true from q12)]
      all_goals rfl
    · have HO : Hid (OrdP [[], [], [], [], [2, 3], [4], [5], [], [7], [6, 8], [], [], [10, 11], [12], [13], [], [15], [14, 16], [9, 17], [0, 1, 2, 3, 4, 5, 6, 7, 8, 9, 10, 11, 12, 13, 14, 15, 16, 17, 18], [0, 1, 2, 3, 4, 5, 6, 7, 8, 9, 10, 11, 12, 13, 14, 15, 16, 17, 18, 19]] (upd d_ 14)) := O.step (show ∀ e ∈ ([13] : List Nat), d_ e = true by simp [hdep])
      have q13 : d_ 13 = true := by simp [hdep]
      have F2 := F
      have n_ : d_ 18 = false := by
        cases e_ : d_ 18 with
        | false => rfl
        | true => have h2 := (O 17 (O 18 e_ 17 (by decide)) 14 (by decide)); rw [show d_ 14 = false from hd_] at h2; cases h2
      rw [n_] at F2
      have kk := kl14.out w1 (by
        have h3 := ch2_or F2
        cases e20_ : d_ 20 <;> simp_all [ch2])
      clear F2
      clear n_
      clear O
      rw [pk_of q13]
      have HF := Lib.hid F
      clear F hdep
      go_simp
      refine HK.out _ _ ⟨?_, HF.out, HO.out⟩
      rw [pk_of (show upd d_ 14 13 = true from q13)]
      all_goals rfl
    · have HO : Hid (OrdP [[], [], [], [], [2, 3], [4], [5], [], [7], [6, 8], [], [], [10, 11], [12], [13], [], [15], [14, 16], [9, 17], [0, 1, 2, 3, 4, 5, 6, 7, 8, 9, 10, 11, 12, 13, 14, 15, 16, 17, 18], [0, 1, 2, 3, 4, 5, 6, 7, 8, 9, 10, 11, 12, 13, 14, 15, 16, 17, 18, 19]] (upd d_ 15)) := O.step (show ∀ e ∈ ([] : List Nat), d_ e = true by simp [hdep])
      clear O
      have HF := Lib.hid F
      clear F hdep
      go_simp
      refine HK.out _ _ ⟨?_, HF.out, HO.out⟩
      all_goals rfl
    · have HO : Hid (OrdP [[], [], [], [], [2, 3], [4], [5], [], [7], [6, 8], [], [], [10, 11], [12], [13], [], [15], [14, 16], [9, 17], [0, 1, 2, 3, 4, 5, 6, 7, 8, 9, 10, 11, 12, 13, 14, 15, 16, 17, 18], [0, 1, 2, 3, 4, 5, 6, 7, 8, 9, 10, 11, 12, 13, 14, 15, 16, 17, 18, 19]] (upd d_ 16)) := O.step (show ∀ e ∈ ([15] : List Nat), d_ e = true by simp [hdep])
      have q15 : d_ 15 = true := by simp [hdep]
      have kk := kl16.out w1 (ch2_or F)
      clear O
      rw [pk_of q15]
      have HF := Lib.hid F
      clear F hdep
      go_simp
      refine HK.out _ _ ⟨?_, HF.out, HO.out⟩
      rw [pk_of (show upd d_ 16 15 = true from q15)]
      all_goals rfl
    · have HO : Hid (OrdP [[], [], [], [], [2, 3], [4], [5], [], [7], [6, 8], [], [], [10, 11], [12], [13], [], [15], [14, 16], [9, 17], [0, 1, 2, 3, 4, 5, 6, 7, 8, 9, 10, 11, 12, 13, 14, 15, 16, 17, 18], [0, 1, 2, 3, 4, 5, 6, 7, 8, 9, 10, 11, 12, 13, 14, 15, 16, 17, 18, 19]] (upd d_ 17)) := O.step (show ∀ e ∈ ([14, 16] : List Nat), d_ e = true by simp [hdep])
      have q14 : d_ 14 = true := by simp [hdep]
      have q16 : d_ 16 = true := by simp [hdep]
      clear O
      rw [pk_of q14, pk_of q16]
      have HF := Lib.hid F
      clear F hdep
      go_simp
      refine HK.out _ _ ⟨?_, HF.out, HO.out⟩
      rw [pk_of (show upd d_ 17 14 = true from q14), pk_of (show upd d_ 17 16 = true from q16)]
      all_goals rfl
    · have HO : Hid (OrdP [[], [], [], [], [2, 3], [4], [5], [], [7], [6, 8], [], [], [10, 11], [12], [13], [], [15], [14, 16], [9, 17], [0, 1, 2, 3, 4, 5, 6, 7, 8, 9, 10, 11, 12, 13, 14, 15, 16, 17, 18], [0, 1, 2, 3, 4, 5, 6, 7, 8, 9, 10, 11, 12, 13, 14, 15, 16, 17, 18, 19]] (upd d_ 18)) := O.step (show ∀ e ∈ ([9, 17] : List Nat), d_ e = true by simp [hdep])
      have q9 : d_ 9 = true := by simp [hdep]
      have q17 : d_ 17 = true := by simp [hdep]
      clear O
      rw [pk_of q9, pk_of q17]
      obtain ⟨hP, hN⟩ := ch2_s1 F hd_
      have hc := kc18.out w1 hP
      have HN := Lib.hid hN
      clear F hP hN hdep
      go_simp
      refine ⟨trivial, rfl, wideAt_calls (hc.mono ?_)⟩
      rintro e w5 ⟨rfl, hR⟩
      have HG := HN.out w5 hR
      refine HK.out _ _ ⟨?_, HG, HO.out⟩
      rw [pk_of (show upd d_ 18 9 = true from q9), pk_of (show upd d_ 18 17 = true from q17)]
      all_goals rfl
    · have HO : Hid (OrdP [[], [], [], [], [2, 3], [4], [5], [], [7], [6, 8], [], [], [10, 11], [12], [13], [], [15], [14, 16], [9, 17], [0, 1, 2, 3, 4, 5, 6, 7, 8, 9, 10, 11, 12, 13, 14, 15, 16, 17, 18], [0, 1, 2, 3, 4, 5, 6, 7, 8, 9, 10, 11, 12, 13, 14, 15, 16, 17, 18, 19]] (upd d_ 19)) := O.step (show ∀ e ∈ ([0, 1, 2, 3, 4, 5, 6, 7, 8, 9, 10, 11, 12, 13, 14, 15, 16, 17, 18] : List Nat), d_ e = true by simp [hdep])
      have q0 : d_ 0 = true := by simp [hdep]
      have q1 : d_ 1 = true := by simp [hdep]
      clear O
      have hin2 : i < n := hin
      rw [pk_of q0, pk_of q1]
      have HF := Lib.hid F
      clear F hdep
      go_simp
      refine HK.out _ _ ⟨?_, HF.out, HO.out⟩
      rw [pk_of (show upd d_ 19 0 = true from q0), pk_of (show upd d_ 19 1 = true from q1)]
      all_goals rfl
    · have HO : Hid (OrdP [[], [], [], [], [2, 3], [4], [5], [], [7], [6, 8], [], [], [10, 11], [12], [13], [], [15], [14, 16], [9, 17], [0, 1, 2, 3, 4, 5, 6, 7, 8, 9, 10, 11, 12, 13, 14, 15, 16, 17, 18], [0, 1, 2, 3, 4, 5, 6, 7, 8, 9, 10, 11, 12, 13, 14, 15, 16, 17, 18, 19]] (upd d_ 20)) := O.step (show ∀ e ∈ ([0, 1, 2, 3, 4, 5, 6, 7, 8, 9, 10, 11, 12, 13, 14, 15, 16, 17, 18, 19] : List Nat), d_ e = true by simp [hdep])
      have q18 : d_ 18 = true := by simp [hdep]
      have q19 : d_ 19 = true := by simp [hdep]
      clear O
      rw [pk_of q18, pk_of q19]
      obtain ⟨hP, hN⟩ := ch2_s2 F (show d_ 18 = true by simp [hdep]) hd_
      obtain ⟨⟨u0, c0⟩, z0, ⟨u1, c1⟩, z1, hR⟩ := ks20.out w1 hP
      have HF := Lib.hid (hN _ hR)
      clear F hP hR hN hdep
      go_simp
      have HG := HF.out
      refine HK.out _ _ ⟨?_, HG, HO.out⟩
      rw [pk_of (show upd d_ 20 18 = true from q18), pk_of (show upd d_ 20 19 = true from q19)]
      all_goals rfl
  · rintro d_ a_ w1 hall ⟨rfl, F, O⟩
    have hall' : ∀ k, k < 21 → d_ k = true := hall
    rw [hall' 18 (by decide), hall' 20 (by decide)] at F
    have HF := Lib.hid F
    clear F
    rw [pk_of (hall' 0 (by decide)), pk_of (hall' 1 (by decide)), pk_of (hall' 2 (by decide)), pk_of (hall' 3 (by decide)), pk_of (hall' 4 (by decide)), pk_of (hall' 5 (by decide)), pk_of (hall' 6 (by decide)), pk_of (hall' 7 (by decide)), pk_of (hall' 8 (by decide)), pk_of (hall' 9 (by decide)), pk_of (hall' 10 (by decide)), pk_of (hall' 11 (by decide)), pk_of (hall' 12 (by decide)), pk_of (hall' 13 (by decide)), pk_of (hall' 14 (by decide)), pk_of (hall' 15 (by decide)), pk_of (hall' 16 (by decide)), pk_of (hall' 17 (by decide)), pk_of (hall' 18 (by decide)), pk_of (hall' 19 (by decide))]
    exact HQ.out w1 HF.out
end Go.Proofs.Ytjkhclijmcmdjaa
namespace Go.Proofs.Ytjkhclijmcmdjaa
open Go.RowKit
set_option linter.unusedVariables false
set_option linter.unusedSimpArgs false
set_option maxRecDepth 100000 in
set_option maxHeartbeats 4000000 in
theorem gives15n {p : Prs} {A : PrsA} {f : Fme} {a : Option Addr} {c : Nat} {w : World} (hP : IsPrs w p A) (hS : p.Small) (hf : IsInts w a f.slots) (hl : f.slots.length ≤ 1000) :
    Calls Try.prog 15 #[p.v A, f.v a c] w fun e w' => ∃ av cv, e = .returned (.tuple #[.slice av (givesE p f).1.length cv, .int .i64 (givesE p f).2]) ∧ IsSpns w' av (givesE p f).1 ∧ (∀ b o, av = some ⟨b, o, none⟩ → w.heap.size ≤ b) ∧ Below w.heap.size w w' := by
  have HX := Lib.hid (alloc3 w (p.arr A) (f.arr a c) #[.int .i64 0] 27 29 34)
  have HF := Lib.hid (And.intro (hP.mono (alloc3 w (p.arr A) (f.arr a c) #[.int .i64 0] 27 29 34).2.2.2) (hf.mono (alloc3 w (p.arr A) (f.arr a c) #[.int .i64 0] 27 29 34).2.2.2))
  have HS := Lib.hid hS
  clear hP hf hS
  refine calls_of_wp_x Try.func15 rfl ?_
  simp only [Try.ntmps15, List.size_toArray, List.length_cons, List.length_nil, Nat.reduceAdd, Nat.reduceSub, Array.replicate_succ, Array.replicate_zero, List.push_toArray, List.append_toArray, List.nil_append, List.cons_append]
  conv => arg 2; whnf
  refine wp_seq_hid ?_
  intro K0 HK0
  go_wp2_with fail
  refine HK0.out _ _ ?_
  clear HK0 K0
  revert HX HF
  generalize ((w.alloc (.cells (p.arr A) 27)).alloc (.cells (f.arr a c) 29)).alloc (.cells #[.int .i64 0] 34) = w1
  generalize hbe : w.heap.size + 2 = be
  generalize hbf : w.heap.size + 1 = bf
  generalize hbp : w.heap.size = bp
  intro HX HF
  have HBE : Hid (bp ≤ be) := by show bp ≤ be; omega
  clear hbe hbp hbf
  refine wp_seq_hid ?_
  intro K1 HK1
  go_wp2_with fail
  refine HK1.out _ _ ?_
  clear HK1 K1
  obtain ⟨m0, m1, m2, m3, m4, m5, m6, m7, m8, m9⟩ := prs_cells HX.out.1
  cases hv : p.valid with
  | false =>
    go_wp2_with fail
    refine (open_no HF.out.1 HS.out hv).mono ?_
    rintro e w2 ⟨rfl, hb⟩
    have HB := Lib.hid hb
    clear hb
    go_wp2_with fail
    have hq := (HB.out.block _ (heap_lt HX.out.2.2.1)).trans HX.out.2.2.1
    have hE : p.openE (fmeOk p f) = 1 := by unfold Prs.openE; rw [hv]; rfl
    have HE : givesE p f = ([], 1) := by unfold givesE; simp only; rw [hE]; rfl
    have hlt := heap_lt HX.out.1
    have hsz := HB.out.size
    refine door_no hq (res_t34 rfl _ rfl (by rw [cell_of_heap (caught_heap hq)]; rfl)) ⟨none, 0, by rw [HE]; rfl, by rw [HE]; exact fun i hi => by simp at hi, (fun b o h => by cases h), caught_below (HX.out.2.2.2.trans (HB.out.mono (by omega))) HBE.out (by omega)⟩
  | true =>
    have HV := Lib.hid hv
    refine wp_seq_hid ?_
    intro K2 HK2
    go_wp2_with fail
    refine (open_yes HF.out.1 HS.out hv).mono ?_
    rintro e w2 ⟨bq, rfl, hPR, hbq, hb⟩
    have HB := Lib.hid (And.intro hb (And.intro hPR (HF.out.2.mono hb)))
    clear hb hPR hbq hv m0 m1 m2 m3 m4 m5 m6 m7 m8 m9
    go_wp2_with fail
    refine HK2.out _ _ ?_
    clear HK2 K2
    obtain ⟨m0, m1, m2, m3, m4, m5, m6, m7, m8, m9⟩ := (prs_cells HX.out.1).mono HB.out.1
    have hqf := (HB.out.1.block _ (heap_lt HX.out.2.1)).trans HX.out.2.1
    have x0 : w2.cell? ⟨bf, 0, none⟩ = some (.slice a f.slots.length c) := by rw [cell_of_heap hqf]; rfl
    have x1 : w2.cell? ⟨bf, 1, none⟩ = some (.int .i64 f.times) := by rw [cell_of_heap hqf]; rfl
    clear hqf
    have C44 := isForme44 (p := p) (A := A) (c := c) HB.out.2.2 hl
    cases hok : fmeOk p f with
    | false =>
      rw [hok] at C44
      have H44 := Lib.hid C44
      clear C44
      go_wp2_with fail
      refine H44.out.mono ?_
      rintro e w3 ⟨rfl, hb3⟩
      have HB3 := Lib.hid (HB.out.1.trans (hb3.mono HB.out.1.size))
      clear hb3 m0 m1 m2 m3 m4 m5 m6 m7 m8 m9 x0 x1
      go_wp2_with fail
      refine (need_no _ _).mono ?_
      rintro e w4 ⟨rfl, rfl⟩
      go_wp2_with fail
      have hq := (HB3.out.block _ (heap_lt HX.out.2.2.1)).trans HX.out.2.2.1
      have hE : p.openE (fmeOk p f) = 2 := by unfold Prs.openE; rw [HV.out, hok]; rfl
      have HE : givesE p f = ([], 2) := by unfold givesE; simp only; rw [hE]; rfl
      have hlt := heap_lt HX.out.1
      have hsz := HB3.out.size
      refine door_no hq (res_t34 rfl _ rfl (by rw [cell_of_heap (caught_heap hq)]; rfl)) ⟨none, 0, by rw [HE]; rfl, by rw [HE]; exact fun i hi => by simp at hi, (fun b o h => by cases h), caught_below (HX.out.2.2.2.trans (HB3.out.mono (by omega))) HBE.out (by omega)⟩
    | true =>
      rw [hok] at C44
      have H44 := Lib.hid C44
      have HOK := Lib.hid hok
      clear C44 hok
      refine wp_seq_hid ?_
      intro K3 HK3
      go_wp2_with fail
      refine H44.out.mono ?_
      rintro e w3 ⟨rfl, hb3⟩
      have HB3 := Lib.hid (And.intro (HB.out.1.trans (hb3.mono HB.out.1.size)) (And.intro (HB.out.2.1.mono hb3) (HB.out.2.2.mono hb3)))
      clear hb3 m0 m1 m2 m3 m4 m5 m6 m7 m8 m9 x0 x1
      go_wp2_with fail
      refine (need_yes _ _).mono ?_
      rintro e w4 ⟨rfl, rfl⟩
      go_wp2_with fail
      refine HK3.out _ _ ?_
      clear HK3 K3
      have hw4 := (wanted_of HV.out).2
      have m6 := cell_stays HB3.out.1 (prs_cells HX.out.1).c6
      have hr := make33 (n := 0) (m := p.wanted.length) (by omega) (by omega) w3
      have hr' : (Instr.makeSlice 33 (.int .i64 0) (.int .i64 (p.wanted.length : Int))).run Try.prog w3 = .ok (.slice (some ⟨w3.heap.size, 0, none⟩) 0 p.wanted.length) (w3.alloc (.cells (madeCells #[.int .i64 0, .int .i64 0] (p.wanted.length * 2)) 23)) := hr
      have hb4 : Below w3.heap.size w3 (w3.alloc (.cells (madeCells #[.int .i64 0, .int .i64 0] (p.wanted.length * 2)) 23)) := (Below.refl _ _).alloc (Nat.le_refl _) _
      have ho4 : (w3.alloc (.cells (madeCells #[.int .i64 0, .int .i64 0] (p.wanted.length * 2)) 23)).ownsRow w3.heap.size 23 2 (.slice (some ⟨w3.heap.size, 0, none⟩) 0 p.wanted.length) 0 [] :=
        World.ownsRow_made (e := 23) (size := 2) w3 _ p.wanted.length (base := w3.heap.size) (Nat.le_refl _) (by simp [maxLen]; omega) (by simp [madeCells])
      have HO4 := Lib.hid (And.intro ho4 hb4)
      have m6' := cell_stays hb4 m6
      clear hr hb4 ho4
      refine wp_seq_hid ?_
      intro K4 HK4
      go_wp2_with fail
      refine HK4.out _ _ ?_
      clear HK4 K4 hr' m6
      revert HO4
      generalize (w3.alloc (.cells (madeCells #[.int .i64 0, .int .i64 0] (p.wanted.length * 2)) 23)) = v4 at m6'
      intro HO4
      refine wp_seq_hid ?_
      intro K5 HK5
      go_wp2_with fail
      clear m6'
      go_loopw [7, 22] (fun o i wr => ∃ (k : Nat) (v : Value), k ≤ p.wanted.length ∧ i = .int .i64 k ∧ o = v ∧ Hid (wr.ownsRow w3.heap.size 23 2 v (gvL p f k).length (spV (gvL p f k))) ∧ Hid (Below w3.heap.size w3 wr)) (fun _ i _ => p.wanted.length - (intOf i).toNat)
      case atStart => exact ⟨0, _, by omega, rfl, rfl, HO4.out.1, HO4.out.2⟩
      case round =>
        obtain ⟨k, v, hk, rfl, rfl, HO, HW⟩ := hrel
        by_cases hlt : k < p.wanted.length
        · have hq := ((HB3.out.1.trans (HW.out.mono HB3.out.1.size)).block _ (heap_lt HX.out.2.1)).trans HX.out.2.1
          have x0 : wr.cell? ⟨bf, 0, none⟩ = some (.slice a f.slots.length c) := by rw [cell_of_heap hq]; rfl
          have x1 : wr.cell? ⟨bf, 1, none⟩ = some (.int .i64 f.times) := by rw [cell_of_heap hq]; rfl
          clear hq
          have HC := Lib.hid (gives45 (p := p) (A := A) (c := c) (v := k) (HB3.out.2.1.mono HW.out) (spoil_of HV.out) (HB3.out.2.2.mono HW.out) (fmeR_of HOK.out hlt))
          go_wp2_with fail
          refine HC.out.mono ?_
          rintro e w5 ⟨rfl, hb⟩
          have hsz := HW.out.size
          obtain ⟨v', w', hr, hown, hbw, hge⟩ := append_spn (W := w3) (w := w5) (B := w3.heap.size) (HW.out.trans (hb.mono hsz)) (Nat.le_trans hsz hb.size) (by rw [gvL_len]; omega) (own_below HO.out hb) (p.gives f k)
          have HRUN := Lib.hid hr
          have HOWN : Hid (w'.ownsRow w3.heap.size 23 2 v' (gvL p f (k + 1)).length (spV (gvL p f (k + 1)))) := by rw [Hid, gvL_succ]; exact hown
          have HB5 := Lib.hid hbw
          clear hb hr hown hbw hge x0 x1 hsz
          go_wp2_with (at_builtin; refine wpList_append_run rfl (.tmp 25) (.tmp 30) 33 rfl _ _ _ _ rfl rfl HRUN.out ?_)
          go_wp2_with fail
          go_roundw
          case rel => exact ⟨k + 1, v', by omega, by go_num, rfl, HOWN.out, HB5.out⟩
          case measure => simp [intOf]; omega
        · have hke : k = p.wanted.length := by omega
          have hown := HO.out
          rw [hke] at hown
          obtain ⟨av, cv, rfl, _⟩ := own_slice hown
          have hown2 := ownsRow_setCell_other (a := ⟨be, 0, none⟩) hown (fun e => by
            have h1 : w3.heap.size ≤ be := (hown.lt _ e).1
            have h2 := heap_lt HX.out.2.2.1
            have h3 := HB3.out.1.size
            omega) (.int .i64 0)
          have HI := Lib.hid (own_spns hown2)
          have HNW : Hid (∀ b o, av = some ⟨b, o, none⟩ → w3.heap.size ≤ b) := fun b o e => (hown2.lt b (by rw [e]; rfl)).1
          have HKE := Lib.hid hke
          have hq := ((HB3.out.1.trans (HW.out.mono HB3.out.1.size)).block _ (heap_lt HX.out.2.2.1)).trans HX.out.2.2.1
          have HQ := Lib.hid hq
          have c0 : wr.cell? ⟨be, 0, none⟩ = some (.int .i64 0) := by rw [cell_of_heap hq]; rfl
          have f0 : wr.frozen? ⟨be, 0, none⟩ = false := frozen_of_heap hq
          clear hown hown2 hke hq
          go_wp2_with fail
          refine HK5.out _ _ ?_
          go_wp2_with fail
          have h5 := heap_setCell_at (k := 0) HQ.out (.int .i64 0)
          have hlx := heap_lt HX.out.1
          have hE : p.openE (fmeOk p f) = 0 := by unfold Prs.openE; rw [HV.out, HOK.out]; rfl
          have HE : givesE p f = (gvL p f p.wanted.length, 0) := by unfold givesE; simp only; rw [if_pos hE]; rfl
          refine door_ok (res_t34 rfl _ rfl (by rw [cell_of_heap h5]; rfl)) ⟨av, cv, by rw [HE]; rfl, ?_, ?_, ?_⟩
          · rw [HE]; exact HI.out
          · intro b o e
            have h1 := HNW.out b o e
            have h2 := HB3.out.1.size
            omega
          · exact (HX.out.2.2.2.trans ((HB3.out.1.trans (HW.out.mono HB3.out.1.size)).mono (by omega))).setCell (p := ⟨be, _, none⟩) HBE.out _
end Go.Proofs.Ytjkhclijmcmdjaa
namespace Go.Proofs.Ytjkhclijmcmdjaa
set_option linter.unusedVariables false
set_option linter.unusedSimpArgs false
theorem open_ok {p : Prs} (hV : p.valid = true) {b : Bool} : p.openE b = if b then 0 else 2 := by
  unfold Prs.openE
  cases b <;> simp [hV]
theorem open_bad {p : Prs} (hV : p.valid = false) {b : Bool} : p.openE b = 1 := by
  unfold Prs.openE
  simp [hV]
end Go.Proofs.Ytjkhclijmcmdjaa
namespace Go.Proofs.Ytjkhclijmcmdjaa
set_option linter.unusedVariables false
set_option linter.unusedSimpArgs false
theorem runF_true {p : Prs} : ∀ (r : List Dl) (s : Shf) (k : Nat), ((p.runF s r k).2.2 = true → (p.runF s r k).2.1 = k + r.length) ∧ ((p.runF s r k).2.2 = false → (p.runF s r k).2.1 < k + r.length)
  | [], s, k => ⟨fun _ => rfl, fun h => by cases h⟩
  | d :: r, s, k => by
    cases h : p.deal s d with
    | none =>
      rw [runF_none h]
      exact ⟨(fun h => by cases h), fun _ => by simp⟩
    | some t =>
      rw [runF_some h]
      have := runF_true (p := p) r t (k + 1)
      rw [List.length_cons]
      exact ⟨fun h => by rw [this.1 h]; omega, fun h => by have := this.2 h; omega⟩
theorem deals_ok {p : Prs} (hV : p.valid = true) : ∀ d ∈ p.deals, dealOk p d = true := by
  unfold Prs.valid at hV
  simp only [Bool.and_eq_true, List.all_eq_true] at hV
  exact hV.2
end Go.Proofs.Ytjkhclijmcmdjaa
namespace Go.Proofs.Ytjkhclijmcmdjaa
set_option linter.unusedVariables false
set_option linter.unusedSimpArgs false
structure ShOk (p : Prs) (s : Shf) : Prop where
  len : s.cards.length = p.wanted.length
  paper : 0 ≤ s.paper
  money : 0 ≤ s.money
  cards : ∀ v, v < s.cards.length → 0 ≤ (gs s.cards v).lo ∧ (gs s.cards v).lo ≤ (gs s.cards v).hi
theorem good_span {p : Prs} (S : Spoil p) {n : Int} (h0 : 0 ≤ n) : 0 ≤ (p.good n).lo ∧ (p.good n).lo ≤ (p.good n).hi := by
  refine ⟨good_zero S h0, ?_⟩
  show n - (n * p.shi + 99) / 100 ≤ n - n * p.slo / 100
  have h1 : n * p.slo ≤ n * p.shi := Int.mul_le_mul_of_nonneg_left S.le h0
  omega
theorem deal_ok {p : Prs} {s t : Shf} {d : Dl} (hV : p.valid = true) (hd : dealOk p d = true) (hS : ShOk p s) (h : p.deal s d = some t) : ShOk p t := by
  obtain ⟨r0, r1, r2⟩ := deal_rng hV hd
  have hmk := (pence_of hV).1
  have h1 := hS.paper
  have h2 := hS.money
  refine ⟨by rw [deal_len h, hS.len], ?_, ?_, ?_⟩ <;> unfold Prs.deal at h <;> by_cases k0 : d.kind = 0
  · rw [if_pos k0] at h; split at h
    · cases h
    · cases h; have := r0 k0; simp only; omega
  · rw [if_neg k0] at h
    by_cases k1 : d.kind = 1
    · rw [if_pos k1] at h; split at h
      · cases h
      · cases h; have := r1 k1; simp only; omega
    · rw [if_neg k1] at h; split at h
      · cases h
      · cases h; simp only; omega
  · rw [if_pos k0] at h; split at h
    · cases h
    · cases h; have := r0 k0; simp only; omega
  · rw [if_neg k0] at h
    by_cases k1 : d.kind = 1
    · rw [if_pos k1] at h; split at h
      · cases h
      · cases h; simp only; omega
    · rw [if_neg k1] at h; have := r2 k0 k1; split at h
      · cases h
      · cases h; simp only; omega
  · rw [if_pos k0] at h; split at h
    · cases h
    · cases h; exact hS.cards
  · rw [if_neg k0] at h
    by_cases k1 : d.kind = 1
    · rw [if_pos k1] at h; split at h
      · cases h
      · cases h
        intro v hv
        have hv2 : v < s.cards.length := by simpa using hv
        have hF : fmeOk p d.forme = true := by unfold dealOk at hd; rw [if_neg k0, if_pos k1] at hd; exact hd
        have hg := hS.cards v hv2
        have hs := fme_gi hF v
        have hgd := good_span (spoil_of hV) (n := d.forme.times) (by have := (fme_parts hF).2.2.2; omega)
        have e : gs ((List.range s.cards.length).map fun v => (⟨(gs s.cards v).lo + (p.gives d.forme v).lo, (gs s.cards v).hi + (p.gives d.forme v).hi⟩ : Spn)) v = ⟨(gs s.cards v).lo + (p.gives d.forme v).lo, (gs s.cards v).hi + (p.gives d.forme v).hi⟩ := by simp [gs, hv2]
        show 0 ≤ (gs ((List.range s.cards.length).map fun v => (⟨(gs s.cards v).lo + (p.gives d.forme v).lo, (gs s.cards v).hi + (p.gives d.forme v).hi⟩ : Spn)) v).lo ∧ _ ≤ (gs ((List.range s.cards.length).map fun v => (⟨(gs s.cards v).lo + (p.gives d.forme v).lo, (gs s.cards v).hi + (p.gives d.forme v).hi⟩ : Spn)) v).hi
        rw [e]
        have m1 : 0 ≤ gi d.forme.slots v * (p.good d.forme.times).lo := Int.mul_nonneg hs hgd.1
        have m2 : gi d.forme.slots v * (p.good d.forme.times).lo ≤ gi d.forme.slots v * (p.good d.forme.times).hi := Int.mul_le_mul_of_nonneg_left hgd.2 hs
        show 0 ≤ (gs s.cards v).lo + gi d.forme.slots v * (p.good d.forme.times).lo ∧ (gs s.cards v).lo + gi d.forme.slots v * (p.good d.forme.times).lo ≤ (gs s.cards v).hi + gi d.forme.slots v * (p.good d.forme.times).hi
        omega
    · rw [if_neg k1] at h; split at h
      · cases h
      · next hc =>
        cases h
        intro v hv
        have hv2 : v < s.cards.length := by simpa using hv
        by_cases e : d.view.toNat = v
        · show 0 ≤ (gs (s.cards.set d.view.toNat _) v).lo ∧ (gs (s.cards.set d.view.toNat _) v).lo ≤ (gs (s.cards.set d.view.toNat _) v).hi
          subst e
          rw [gs_set hv2]
          have := hS.cards _ hv2
          simp only
          omega
        · show 0 ≤ (gs (s.cards.set d.view.toNat _) v).lo ∧ (gs (s.cards.set d.view.toNat _) v).lo ≤ (gs (s.cards.set d.view.toNat _) v).hi
          rw [gs_set_ne e]
          exact hS.cards v hv2
/-- The shelves that come one after the other. -/
theorem runF_states {p : Prs} : ∀ (r : List Dl) (s s' : Shf) (k m : Nat), p.runF s r k = (s', m, true) → ∃ st : Nat → Shf, st 0 = s ∧ st r.length = s' ∧ ∀ j, j < r.length → p.deal (st j) (gd r j) = some (st (j + 1))
  | [], s, s', k, m, h => ⟨fun _ => s, rfl, by have := (Prod.mk.inj h).1; exact this, fun j hj => by simp at hj⟩
  | d :: r, s, s', k, m, h => by
    cases hd : p.deal s d with
    | none => rw [runF_none hd] at h; have := (Prod.mk.inj (Prod.mk.inj h).2).2; cases this
    | some t =>
      rw [runF_some hd] at h
      obtain ⟨st, h1, h2, h3⟩ := runF_states r t s' (k + 1) m h
      refine ⟨fun j => match j with
        | 0 => s
        | j + 1 => st j, rfl, h2, fun j hj => ?_⟩
      cases j with
      | zero => show p.deal s d = some (st 0); rw [h1]; exact hd
      | succ j => exact h3 j (by simpa using hj)
theorem runF_app {p : Prs} : ∀ (r q : List Dl) (s : Shf) (k : Nat), ((p.runF s r k).2.2 = false → p.runF s (r ++ q) k = p.runF s r k) ∧ ((p.runF s r k).2.2 = true → p.runF s (r ++ q) k = p.runF (p.runF s r k).1 q (k + r.length))
  | [], q, s, k => ⟨(fun h => by cases h), fun _ => rfl⟩
  | d :: r, q, s, k => by
    rw [List.cons_append]
    cases hd : p.deal s d with
    | none => rw [runF_none hd, runF_none hd]; exact ⟨fun _ => rfl, fun h => by cases h⟩
    | some t =>
      rw [runF_some hd, runF_some hd]
      have := runF_app (p := p) r q t (k + 1)
      rw [List.length_cons, show k + (r.length + 1) = k + 1 + r.length by omega]
      exact this
theorem runF_ge {p : Prs} : ∀ (r : List Dl) (s : Shf) (k : Nat), k ≤ (p.runF s r k).2.1
  | [], s, k => Nat.le_refl k
  | d :: r, s, k => by
    cases hd : p.deal s d with
    | none => rw [runF_none hd]; exact Nat.le_refl k
    | some t => rw [runF_some hd]; have := runF_ge (p := p) r t (k + 1); omega
theorem first_ok {p : Prs} (hV : p.valid = true) : ShOk p p.first := by
  have h := (pence_of hV).2.2
  refine ⟨by simp [Prs.first], h.1.1, h.2.1, fun v hv => ?_⟩
  have e : gs p.first.cards v = ⟨0, 0⟩ := by
    unfold gs
    show (List.replicate p.wanted.length (⟨0, 0⟩ : Spn)).getD v ⟨0, 0⟩ = _
    rw [List.getD_eq_getElem?_getD, List.getElem?_replicate]
    split <;> rfl
  rw [e]
  exact ⟨Int.le_refl _, Int.le_refl _⟩
theorem first_bd2 {p : Prs} (hV : p.valid = true) : SBd p.first 1099511627776 := by
  have h := (pence_of hV).2.2
  refine ⟨?_, ?_, fun v hv => ?_⟩
  · show -1099511627776 ≤ p.paper ∧ p.paper ≤ 1099511627776
    omega
  · show -1099511627776 ≤ p.money ∧ p.money ≤ 1099511627776
    omega
  · have e : gs p.first.cards v = ⟨0, 0⟩ := by
      unfold gs
      show (List.replicate p.wanted.length (⟨0, 0⟩ : Spn)).getD v ⟨0, 0⟩ = _
      rw [List.getD_eq_getElem?_getD, List.getElem?_replicate]
      split <;> rfl
    rw [e]
    simp only
    omega
structure KeptRun (p : Prs) (n : Nat) (st : Nat → Shf) : Prop where
  zero : st 0 = p.first
  step : ∀ j, j < n → dealOk p (gd p.deals j) = true ∧ p.deal (st j) (gd p.deals j) = some (st (j + 1))
  ok : ∀ j, j ≤ n → ShOk p (st j)
  bd : ∀ j, j ≤ n → SBd (st j) 70368744177664
theorem run_kept {p : Prs} (hV : p.valid = true) {n : Nat} (hn : n ≤ p.deals.length) {s : Shf} {m : Nat} (h : p.runF p.first (p.deals.take n) 0 = (s, m, true)) : ∃ st, KeptRun p n st ∧ st n = s := by
  obtain ⟨st, h1, h2, h3⟩ := runF_states _ _ _ _ _ h
  have hlen : (p.deals.take n).length = n := by rw [List.length_take]; omega
  rw [hlen] at h2 h3
  have hst : ∀ j, j < n → dealOk p (gd p.deals j) = true ∧ p.deal (st j) (gd p.deals j) = some (st (j + 1)) := fun j hj => by
    have e : gd (p.deals.take n) j = gd p.deals j := by
      unfold gd
      rw [List.getD_eq_getElem?_getD, List.getD_eq_getElem?_getD, List.getElem?_take_of_lt hj]
    have h4 := h3 j hj
    rw [e] at h4
    have hj2 : j < p.deals.length := by omega
    have hm : gd p.deals j ∈ p.deals := by simp [gd, hj2]
    exact ⟨deals_ok hV _ hm, h4⟩
  have hok : ∀ j, j ≤ n → ShOk p (st j) := fun j => by
    induction j with
    | zero => intro _; rw [h1]; exact first_ok hV
    | succ j ih => intro hj; exact deal_ok hV (hst j (by omega)).1 (ih (by omega)) (hst j (by omega)).2
  have hbd : ∀ j, j ≤ n → SBd (st j) (1099511627776 + (j : Int) * 2199023255552) := fun j => by
    induction j with
    | zero =>
      intro _
      rw [h1]
      exact (first_bd2 hV).le (by omega)
    | succ j ih =>
      intro hj
      exact (deal_bd hV (hst j (by omega)).1 (hok j (by omega)).len (ih (by omega)) (hst j (by omega)).2).le (by omega)
  have hd20 := deals_len hV
  exact ⟨st, ⟨h1, hst, hok, fun j hj => (hbd j hj).le (by omega)⟩, h2⟩
/-- What On and Play say. -/
theorem kept_law {p : Prs} (hV : p.valid = true) (n : Int) : (onE p n = (⟨0, 0, []⟩, 2) ∧ (n < 0 ∨ (p.deals.length : Int) < n)) ∨ (0 ≤ n ∧ n ≤ p.deals.length ∧ ((onE p n = (⟨0, 0, []⟩, 10) ∧ ∃ m : Nat, playE p = ((m : Int), 10) ∧ (m : Int) < n) ∨
    ∃ st, KeptRun p n.toNat st ∧ onE p n = (st n.toNat, 0) ∧ ∃ (m : Nat) (z : Int), playE p = ((m : Int), z) ∧ n ≤ (m : Int) ∧ ((z = 0 ∧ m = p.deals.length) ∨ (z = 10 ∧ m < p.deals.length)))) := by
  have ep : playE p = (((p.runF p.first p.deals 0).2.1 : Int), if (p.runF p.first p.deals 0).2.2 then 0 else 10) := by
    unfold playE
    rw [open_ok hV]
    simp
  have hT := runF_true (p := p) p.deals p.first 0
  by_cases hr : 0 ≤ n ∧ n ≤ p.deals.length
  · right
    refine ⟨hr.1, hr.2, ?_⟩
    have eo : onE p n = if (p.runF p.first (p.deals.take n.toNat) 0).2.2 then ((p.runF p.first (p.deals.take n.toNat) 0).1, 0) else (⟨0, 0, []⟩, 10) := by
      unfold onE
      have : inR n 0 p.deals.length = true := by simp [inR, hr]
      rw [this, open_ok hV]
      simp
    have hsplit := runF_app (p := p) (p.deals.take n.toNat) (p.deals.drop n.toNat) p.first 0
    rw [List.take_append_drop] at hsplit
    have hlen : (p.deals.take n.toNat).length = n.toNat := by rw [List.length_take]; omega
    have hT2 := runF_true (p := p) (p.deals.take n.toNat) p.first 0
    rw [hlen] at hT2
    cases hc : (p.runF p.first (p.deals.take n.toNat) 0).2.2 with
    | false =>
      left
      have h1 := hsplit.1 hc
      have h2 := hT2.2 hc
      refine ⟨by rw [eo, hc]; simp, (p.runF p.first p.deals 0).2.1, by rw [ep, h1, hc]; simp, by rw [h1]; omega⟩
    | true =>
      right
      have h1 := hsplit.2 hc
      obtain ⟨st, hk, hs⟩ := run_kept hV (n := n.toNat) (by omega) (s := (p.runF p.first (p.deals.take n.toNat) 0).1) (m := (p.runF p.first (p.deals.take n.toNat) 0).2.1) (by rw [← hc])
      refine ⟨st, hk, by rw [eo, hc, hs]; simp, (p.runF p.first p.deals 0).2.1, _, ep, ?_, ?_⟩
      · rw [h1, hlen]
        have := runF_ge (p := p) (p.deals.drop n.toNat) (p.runF p.first (p.deals.take n.toNat) 0).1 (0 + n.toNat)
        omega
      · cases hb : (p.runF p.first p.deals 0).2.2 with
        | true => left; have := hT.1 hb; exact ⟨by simp, by omega⟩
        | false => right; have := hT.2 hb; exact ⟨by simp, by omega⟩
  · left
    refine ⟨?_, by omega⟩
    unfold onE
    have : inR n 0 p.deals.length = false := by simp only [inR, Bool.and_eq_false_iff, decide_eq_false_iff_not]; omega
    rw [this, open_ok hV]
    simp
theorem bad_on {p : Prs} (hV : p.valid = false) (n : Int) : onE p n = (⟨0, 0, []⟩, 1) ∧ playE p = (0, 1) := by
  unfold onE playE
  rw [open_bad hV, open_bad hV]
  simp
end Go.Proofs.Ytjkhclijmcmdjaa
namespace Go.Proofs.Ytjkhclijmcmdjaa
open Go.RowKit
set_option linter.unusedVariables false
set_option linter.unusedSimpArgs false
theorem deal0 {p : Prs} {s t : Shf} {d : Dl} (h : p.deal s d = some t) (k0 : d.kind = 0) : t = ⟨s.paper + d.many, s.money - d.pence, s.cards⟩ := by
  unfold Prs.deal at h
  rw [if_pos k0] at h
  split at h
  · cases h
  · exact (Option.some.inj h).symm
theorem deal1 {p : Prs} {s t : Shf} {d : Dl} (h : p.deal s d = some t) (k1 : d.kind = 1) : t = ⟨s.paper - d.forme.times, s.money - p.make, addK p d.forme s.cards s.cards.length⟩ := by
  have e : addK p d.forme s.cards s.cards.length = (List.range s.cards.length).map fun v => ⟨(gs s.cards v).lo + (p.gives d.forme v).lo, (gs s.cards v).hi + (p.gives d.forme v).hi⟩ := by
    unfold addK
    refine List.map_congr_left fun v hv => ?_
    rw [if_pos (List.mem_range.1 hv)]
  unfold Prs.deal at h
  rw [if_neg (by omega), if_pos k1] at h
  split at h
  · cases h
  · rw [e]; exact (Option.some.inj h).symm
theorem deal2 {p : Prs} {s t : Shf} {d : Dl} (h : p.deal s d = some t) (k2 : d.kind = 2) : t = ⟨s.paper, s.money + d.pence, s.cards.set d.view.toNat ⟨(gs s.cards d.view.toNat).lo - d.many, (gs s.cards d.view.toNat).hi - d.many⟩⟩ := by
  unfold Prs.deal at h
  rw [if_neg (by omega), if_neg (by omega)] at h
  split at h
  · cases h
  · exact (Option.some.inj h).symm
theorem deal_nums {p : Prs} {d : Dl} (hV : p.valid = true) (hd : dealOk p d = true) : (d.kind = 0 → (1 ≤ d.many ∧ d.many ≤ 1048576) ∧ 0 ≤ d.pence ∧ d.pence ≤ 1099511627776) ∧ (d.kind = 1 → fmeOk p d.forme = true) ∧ (d.kind = 2 → (0 ≤ d.view ∧ d.view ≤ (p.wanted.length : Int) - 1) ∧ (1 ≤ d.many ∧ d.many ≤ 1048576) ∧ 0 ≤ d.pence ∧ d.pence ≤ 1099511627776) := by
  unfold dealOk at hd
  refine ⟨fun h => ?_, fun h => ?_, fun h => ?_⟩
  · rw [if_pos h] at hd; simpa [inR] using hd
  · rw [if_neg (by omega), if_pos h] at hd; exact hd
  · rw [if_neg (by omega), if_neg (by omega), if_pos h] at hd; simpa [inR, and_assoc] using hd
noncomputable def kepRC : Code := (Try.f9.body.bind (fromRegion 9)).getD .skip
set_option maxRecDepth 100000 in
set_option maxHeartbeats 16000000 in
theorem kept_rest {p : Prs} {A : PrsA} {bx g1 N : Nat} {a1 : Option Addr} {c1 : Nat} {sp sm : Int} {sc : List Spn} {st : Nat → Shf} {w w0 : World} {dd : List Deferred}
    (HPX : Hid (∀ v, Below w0.heap.size w0 v → PrsC v bx p A ∧ IsPrs v p A ∧ Below w.heap.size w v)) (HQ1 : Hid (w0.heap[g1]? = some (.cells #[.int .i64 sp, .int .i64 sm, .slice a1 p.wanted.length c1] 48 (0, 0)))) (HF1 : Hid (IsSpns w0 a1 sc))
    (HS : Hid p.Small) (HCP : Hid (p.deals.length ≤ A.cd)) (HV : Hid (p.valid = true)) (HKR : Hid (KeptRun p N st)) (HST : Hid (st N = ⟨sp, sm, sc⟩)) (HN1 : Hid (N ≤ p.deals.length)) (hdd : dd = [])
    {s0 s3 s4 s6 s7 s8 s9 s10 s11 s12 s13 s14 s15 s16 s17 s18 s19 s20 s21 s22 s23 s24 s25 s26 s27 s28 s29 s30 s31 s32 s33 s34 s35 s36 s37 s38 s39 s40 s41 s42 s43 s44 s45 s46 s47 s48 s49 s50 s51 s52 s53 s54 s55 s56 s57 s58 s59 s60 s61 s62 s63 s64 s65 s66 s67 s68 s69 s70 s71 s72 s73 s74 s75 s76 s77 s78 s79 s80 s81 s82 s83 s84 s85 s86 s87 s88 s89 s90 s91 s92 s93 s94 s95 s96 s97 s98 s99 s100 s101 s102 s103 s104 s105 s106 s107 s108 s109 s110 s111 s112 s113 s114 s115 s116 s117 s118 s119 s120 s121 s122 s123 s124 s125 s126 s127 s128 s129 s130 s131 s132 s133 s134 s135 s136 s137 s138 s139 s140 s141 s142 s143 s144 s145 s146 s147 s148 s149 s150 s151 s152 s153 s154 s155 s156 s157 s158 s159 s160 s161 s162 s163 s164 s165 s166 s167 s168 s169 s170 s171 s172 s173 s174 s175 s176 s177 s178 s179 s180 s181 s182 s183 s184 s185 s186 s187 s188 s189 s190 s191 s192 s193 s194 s195 s196 s197 s198 s199 s200 s201 s202 s203 s204 s205 s206 s207 s208 s209 s210 s211 s212 s213 s214 s215 s216 s217 s218 s219 s220 s221 s222 s223 s224 s225 s226 s227 s228 s229 s230 s231 s232 s233 s234 s235 s236 s237 s238 s239 s240 s241 s242 s243 s244 s245 s246 s247 s248 s249 s250 s251 s252 s253 s254 s255 s256 s257 s258 s259 s260 s261 s262 s263 s264 s265 s266 s267 s268 s269 s270 s271 s272 s273 s274 s275 s276 s277 s278 s279 s280 s281 s282 s283 s284 s285 s286 s287 s288 s289 s290 s291 s292 s293 s294 : Value} :
    Code.wp Try.prog kepRC (bodyPost Try.prog Try.f9 fun e w' => e = .returned (.bool true) ∧ Below w.heap.size w w') { tmps := List.toArray (s0 :: .int .i64 (N : Int) :: .pointer (some ⟨bx, 0, none⟩) :: s3 :: s4 :: .pointer (some ⟨g1, 0, none⟩) :: s6 :: s7 :: s8 :: s9 :: s10 :: s11 :: s12 :: s13 :: s14 :: s15 :: s16 :: s17 :: s18 :: s19 :: s20 :: s21 :: s22 :: s23 :: s24 :: s25 :: s26 :: s27 :: s28 :: s29 :: s30 :: s31 :: s32 :: s33 :: s34 :: s35 :: s36 :: s37 :: s38 :: s39 :: s40 :: s41 :: s42 :: s43 :: s44 :: s45 :: s46 :: s47 :: s48 :: s49 :: s50 :: s51 :: s52 :: s53 :: s54 :: s55 :: s56 :: s57 :: s58 :: s59 :: s60 :: s61 :: s62 :: s63 :: s64 :: s65 :: s66 :: s67 :: s68 :: s69 :: s70 :: s71 :: s72 :: s73 :: s74 :: s75 :: s76 :: s77 :: s78 :: s79 :: s80 :: s81 :: s82 :: s83 :: s84 :: s85 :: s86 :: s87 :: s88 :: s89 :: s90 :: s91 :: s92 :: s93 :: s94 :: s95 :: s96 :: s97 :: s98 :: s99 :: s100 :: s101 :: s102 :: s103 :: s104 :: s105 :: s106 :: s107 :: s108 :: s109 :: s110 :: s111 :: s112 :: s113 :: s114 :: s115 :: s116 :: s117 :: s118 :: s119 :: s120 :: s121 :: s122 :: s123 :: s124 :: s125 :: s126 :: s127 :: s128 :: s129 :: s130 :: s131 :: s132 :: s133 :: s134 :: s135 :: s136 :: s137 :: s138 :: s139 :: s140 :: s141 :: s142 :: s143 :: s144 :: s145 :: s146 :: s147 :: s148 :: s149 :: s150 :: s151 :: s152 :: s153 :: s154 :: s155 :: s156 :: s157 :: s158 :: s159 :: s160 :: s161 :: s162 :: s163 :: s164 :: s165 :: s166 :: s167 :: s168 :: s169 :: s170 :: s171 :: s172 :: s173 :: s174 :: s175 :: s176 :: s177 :: s178 :: s179 :: s180 :: s181 :: s182 :: s183 :: s184 :: s185 :: s186 :: s187 :: s188 :: s189 :: s190 :: s191 :: s192 :: s193 :: s194 :: s195 :: s196 :: s197 :: s198 :: s199 :: s200 :: s201 :: s202 :: s203 :: s204 :: s205 :: s206 :: s207 :: s208 :: s209 :: s210 :: s211 :: s212 :: s213 :: s214 :: s215 :: s216 :: s217 :: s218 :: s219 :: s220 :: s221 :: s222 :: s223 :: s224 :: s225 :: s226 :: s227 :: s228 :: s229 :: s230 :: s231 :: s232 :: s233 :: s234 :: s235 :: s236 :: s237 :: s238 :: s239 :: s240 :: s241 :: s242 :: s243 :: s244 :: s245 :: s246 :: s247 :: s248 :: s249 :: s250 :: s251 :: s252 :: s253 :: s254 :: s255 :: s256 :: s257 :: s258 :: s259 :: s260 :: s261 :: s262 :: s263 :: s264 :: s265 :: s266 :: s267 :: s268 :: s269 :: s270 :: s271 :: s272 :: s273 :: s274 :: s275 :: s276 :: s277 :: s278 :: s279 :: s280 :: s281 :: s282 :: s283 :: s284 :: s285 :: s286 :: s287 :: s288 :: s289 :: s290 :: s291 :: s292 :: s293 :: s294 :: []), defers := dd } w0 := by
  subst hdd
  conv => arg 2; whnf
  have hsl := fun w => slice25 (a := A.ad) (n := p.deals.length) (k := N) (c := A.cd) (by have := HN1.out; have := HCP.out; omega) w
  have HW4 := Lib.hid (wanted_of HV.out)
  have hw4 := HW4.out
  refine wp_seq_hid ?_
  intro K9 HK9
  refine wpIn_wide.1 (kep9 (bx := bx) (N := w0.heap.size) (n := p.wanted.length) (cw := A.cw) (aw := A.aw) (q := p.paper) (m := p.money)
    (P0 := fun v => v.heap.size = w0.heap.size ∧ Below w0.heap.size w0 v)
    (P1 := fun v => CRow w0.heap.size (List.replicate p.wanted.length ⟨0, 0⟩) v ∧ Below w0.heap.size w0 v) ?h0 ?l1 ?l3 ?l5 ?r7 ?hQ)
  case h0 => exact ⟨rfl, (Below.refl _ w0).drew⟩
  case l1 => rintro v (h | h) <;> exact (HPX.out v h.2).1.c7
  case l3 => rintro v (h | h) <;> exact (HPX.out v h.2).1.c8
  case l5 => rintro v (h | h) <;> exact (HPX.out v h.2).1.c6
  case r7 =>
    intro v h
    have hm := make33 (n := p.wanted.length) (m := p.wanted.length) (Nat.le_refl _) (by have := HW4.out; omega) v
    rw [h.1] at hm
    have hb : Below v.heap.size v (v.alloc (.cells (madeCells #[.int .i64 0, .int .i64 0] (p.wanted.length * 2)) 23)) := (Below.refl _ _).alloc (Nat.le_refl _) _
    have hq := World.alloc_heap_new v (.cells (madeCells #[.int .i64 0, .int .i64 0] (p.wanted.length * 2)) 23)
    rw [h.1] at hq
    exact ⟨_, hm, CRow.made hq, h.2.trans (hb.mono h.2.size)⟩
  intro w2 hw2
  have hz := hw2.1.lt
  have HZ := Lib.hid (show w0.heap.size < w2.heap.size from hz)
  have HW2 := Lib.hid hw2
  clear hw2 hz
  refine HK9.out _ _ ?_
  clear HK9 K9
  generalize hg : w0.heap.size = g at HZ HW2 ⊢
  have HG := Lib.hid hg
  clear hg
  obtain ⟨k0, k1, k2, k3, k4, k5, k6, k7, k8, k9⟩ := (HPX.out w2 (by rw [HG.out]; exact HW2.out.2)).1
  have HC0 : Hid ((st 0).paper = p.paper ∧ (st 0).money = p.money ∧ (st 0).cards = List.replicate p.wanted.length ⟨0, 0⟩) := by rw [Hid, HKR.out.zero]; exact ⟨rfl, rfl, rfl⟩
  have hn1 := HN1.out
  have hdl := HS.out.deals
  refine wp_seq_hid ?_
  intro K10 HK10
  go_wp2_with fail
  clear k0 k1 k2 k3 k4 k5 k6 k7 k8 k9
  go_loopw [9, 10, 153] (fun q m i wr => ∃ j : Nat, j ≤ N ∧ i = .int .i64 j ∧ q = .int .i64 (st j).paper ∧ m = .int .i64 (st j).money ∧ Hid (CRow g (st j).cards wr ∧ Below g w0 wr)) (fun _ _ i _ => N - (intOf i).toNat)
  case atStart => exact ⟨0, by omega, rfl, by rw [HC0.out.1], by rw [HC0.out.2.1], by rw [Hid, HC0.out.2.2]; exact HW2.out⟩
  case round =>
    obtain ⟨j, hj, rfl, rfl, rfl, HR⟩ := hrel
    by_cases hlt : j < N
    · have hstep := HKR.out.step j hlt
      have hok1 := HKR.out.ok j (by omega)
      have hbd1 := HKR.out.bd j (by omega)
      have hok2 := HKR.out.ok (j + 1) (by omega)
      have hbd2 := HKR.out.bd (j + 1) (by omega)
      have HJ := Lib.hid hlt
      have hbw : Below w0.heap.size w0 wr := by rw [HG.out]; exact HR.out.2
      have hdls := (HPX.out wr hbw).2.1.deals j (by omega)
      have HBW := Lib.hid hbw
      clear hbw
      revert hstep hok1 hbd1 hok2 hbd2 hdls HR
      generalize st j = s
      generalize hst2 : st (j + 1) = t
      generalize gd p.deals j = d
      intro HR hstep hok1 hbd1 hok2 hbd2 hdls
      have HT := Lib.hid hst2
      clear hst2
      obtain ⟨bb, off, hab, ai, ci, d0, d1, d2, d3, d4, d5, d6⟩ := hdls
      rw [hab]
      have HAB := Lib.hid hab
      have HSL := Lib.hid d6
      clear hab d6
      have h5 : Below wr.heap.size wr (wr.alloc (.cells (d.arr ai ci) 62)) := (Below.refl _ wr).alloc (Nat.le_refl _) _
      have H5 := Lib.hid (And.intro (World.alloc_heap_new wr (.cells (d.arr ai ci) 62)) (And.intro h5 (And.intro (HR.out.1.mono h5) (HSL.out.mono h5))))
      have HDO := Lib.hid hstep.1
      have HDS := Lib.hid hstep.2
      have HNM := Lib.hid (deal_nums HV.out hstep.1)
      have HS1 := Lib.hid (And.intro hok1 hbd1)
      have HS2 := Lib.hid (And.intro hok2 hbd2)
      clear hstep hok1 hbd1 hok2 hbd2 h5
      refine wp_seq_hid ?_
      intro KL7 HKL7
      go_wp2_with fail
      refine HKL7.out _ _ ?_
      clear HKL7 KL7
      refine wp_seq_hid ?_
      intro KLc HKLc
      go_wp2_with fail
      refine HKLc.out _ _ ?_
      clear HKLc KLc
      refine wp_seq_hid ?_
      intro KLB HKLB
      refine wp_block ?_
      refine wp_seq_hid ?_
      intro K12 HK12
      go_wp2_with fail
      refine HK12.out _ _ ?_
      clear HK12 K12 d0 d1 d2 d3 d4 d5
      revert H5
      generalize wr.alloc (.cells (d.arr ai ci) 62) = w5
      generalize hbd : wr.heap.size = bd
      intro H5
      have H5b : Hid (Below wr.heap.size wr w5) := by rw [Hid, hbd]; exact H5.out.2.1
      have HQ5 := Lib.hid H5.out.1
      have HC5 := Lib.hid H5.out.2.2.1
      have HI5 := Lib.hid H5.out.2.2.2
      clear H5 hbd
      have HB5 := Lib.hid (HBW.out.trans (H5b.out.mono HBW.out.size))
      have e0 : w5.cell? ⟨bd, 0, none⟩ = some (.int .i64 d.kind) := by rw [cell_of_heap HQ5.out]; rfl
      have e1 : w5.cell? ⟨bd, 1, none⟩ = some (.slice ai d.forme.slots.length ci) := by rw [cell_of_heap HQ5.out]; rfl
      have e2 : w5.cell? ⟨bd, 2, none⟩ = some (.int .i64 d.forme.times) := by rw [cell_of_heap HQ5.out]; rfl
      have e3 : w5.cell? ⟨bd, 3, none⟩ = some (.int .i64 d.view) := by rw [cell_of_heap HQ5.out]; rfl
      have e4 : w5.cell? ⟨bd, 4, none⟩ = some (.int .i64 d.many) := by rw [cell_of_heap HQ5.out]; rfl
      have e5 : w5.cell? ⟨bd, 5, none⟩ = some (.int .i64 d.pence) := by rw [cell_of_heap HQ5.out]; rfl
      have E0 := fun y : Aft w5.heap.size w5 => cell_stays y.h e0
      have E1 := fun y : Aft w5.heap.size w5 => cell_stays y.h e1
      have E2 := fun y : Aft w5.heap.size w5 => cell_stays y.h e2
      have E3 := fun y : Aft w5.heap.size w5 => cell_stays y.h e3
      have E4 := fun y : Aft w5.heap.size w5 => cell_stays y.h e4
      have E5 := fun y : Aft w5.heap.size w5 => cell_stays y.h e5
      have hb1 := HS1.out.2.paper
      have hb2 := HS1.out.2.money
      by_cases hk0 : d.kind = 0
      · have hd := deal0 HDS.out hk0
        have HTE := Lib.hid hd
        have hnm := HNM.out.1 hk0
        have g0 : (d.kind == 0) = true := by simp [hk0]
        have x1 : IntKind.i64.wrap (s.paper + d.many) = s.paper + d.many := IntWalk.i64_in _ (by omega)
        have x2 : IntKind.i64.wrap (s.money - d.pence) = s.money - d.pence := IntWalk.i64_in _ (by omega)
        clear hd hk0 hnm hb1 hb2
        go_wp2_with fail
        refine wp_region_aft mixed (by kernel_rfl) ?_
        repeat (go_big_quiet_step (fail))
        refine wpQuiet_nil ?_
        rintro _ ⟨y1, rfl⟩
        have HY1 : Hid (Below w5.heap.size w5 y1.v) := y1.h
        go_wp2_with fail
        refine HKLB.out _ _ ?_
        go_wp2_with fail
        go_roundw
        case rel => exact ⟨j + 1, by have := HJ.out; omega, by go_num, by rw [HT.out, HTE.out], by rw [HT.out, HTE.out], by rw [Hid, HT.out, HTE.out]; exact ⟨HC5.out.mono HY1.out, by rw [← HG.out]; exact HB5.out.trans (HY1.out.mono HB5.out.size)⟩⟩
        case measure => have := HJ.out; simp [intOf]; omega
      · by_cases hk1 : d.kind = 1
        · have hd := deal1 HDS.out hk1
          have HTE := Lib.hid hd
          have hF := HNM.out.2.1 hk1
          have hft := (fme_parts hF).2.2.2
          have hmk := (pence_of HV.out).1
          have g0 : (d.kind == 0) = false := by simp [hk0]
          have g1 : (d.kind == 1) = true := by simp [hk1]
          have x1 : IntKind.i64.wrap (s.paper - d.forme.times) = s.paper - d.forme.times := IntWalk.i64_in _ (by omega)
          have x2 : IntKind.i64.wrap (s.money - p.make) = s.money - p.make := IntWalk.i64_in _ (by omega)
          have HFM := Lib.hid hF
          have hsl4 : d.forme.slots.length ≤ 4 := by rw [(fme_parts hF).1]; omega
          have HS4 := Lib.hid hsl4
          have hgv : givesE p d.forme = ((List.range p.wanted.length).map fun v => p.gives d.forme v, 0) := by
            unfold givesE
            rw [open_ok HV.out, hF]
            simp
          have hgl : ((List.range p.wanted.length).map fun v => p.gives d.forme v).length = p.wanted.length := by simp
          have HGV := Lib.hid (And.intro hgv hgl)
          have HCL := Lib.hid HS1.out.1.len
          obtain ⟨k0, k1, k2, k3, k4, k5, k6, k7, k8, k9⟩ := (HPX.out w5 HB5.out).1
          have K4 := fun y : Aft w5.heap.size w5 => cell_stays y.h k4
          clear hd hk0 hk1 hF hft hmk hb1 hb2 hgv hgl hsl4 k0 k1 k2 k3 k4 k5 k6 k7 k8 k9
          refine wp_seq_hid ?_
          intro K13 HK13
          go_wp2_with fail
          refine HK13.out _ _ ?_
          clear HK13 K13
          refine wp_block ?_
          go_wp2_with fail
          refine wp_region_aft mixed (by kernel_rfl) ?_
          repeat (go_big_quiet_step (fail))
          refine wpQuiet_nil ?_
          rintro _ ⟨y1, rfl⟩
          have HY1 : Hid (Below w5.heap.size w5 y1.v) := y1.h
          obtain ⟨k0, k1, k2, k3, k4, k5, k6, k7, k8, k9⟩ := (HPX.out y1.v (HB5.out.trans (HY1.out.mono HB5.out.size))).1
          have e1' := E1 y1
          have e2' := E2 y1
          have HB6 := Lib.hid (HB5.out.trans (HY1.out.mono HB5.out.size))
          have G := gives15n (f := d.forme) (c := ci) (HPX.out y1.v HB6.out).2.1 HS.out (HI5.out.mono HY1.out) (by have := HS4.out; omega)
          rw [HGV.out.1] at G
          simp only [HGV.out.2] at G
          have HGC := Lib.hid G
          clear G
          go_wp2_with fail
          clear k0 k1 k2 k3 k4 k5 k6 k7 k8 k9 e1' e2'
          refine HGC.out.mono ?_
          rintro e b1 ⟨ag, cg, rfl, hsp, hnw, hb⟩
          have HB7 := Lib.hid (HB6.out.trans (hb.mono HB6.out.size))
          have HC7 := Lib.hid ((HC5.out.mono HY1.out).mono hb)
          obtain ⟨gb, go, hag, _⟩ := hsp 0 (by rw [HGV.out.2]; omega)
          subst hag
          have HNE : Hid (gb ≠ g) := by
            have h1 := hnw gb go rfl
            have h2 := HC5.out.lt
            have h3 := HY1.out.size
            rw [Hid]; omega
          have HSP := Lib.hid hsp
          clear hsp hnw hb HGC
          go_wp2_with fail
          have hcl := HCL.out
          go_loopw [225] (fun i wr => ∃ v : Nat, v ≤ p.wanted.length ∧ i = .int .i64 v ∧ Hid (CRow g (addK p d.forme s.cards v) wr ∧ Below g w0 wr ∧ IsSpns wr (some ⟨gb, go, none⟩) ((List.range p.wanted.length).map fun v => p.gives d.forme v))) (fun i _ => p.wanted.length - (intOf i).toNat)
          case atStart => exact ⟨0, by omega, rfl, by rw [Hid, addK_zero]; exact ⟨HC7.out, by rw [← HG.out]; exact HB7.out, HSP.out⟩⟩
          case round =>
            obtain ⟨v, hv, rfl, HV7⟩ := hrel
            by_cases hvt : v < p.wanted.length
            · obtain ⟨gb2, go2, hq, z0, z1⟩ := HV7.out.2.2 v (by rw [HGV.out.2]; exact hvt)
              cases hq
              have hgz : gs ((List.range p.wanted.length).map fun v => p.gives d.forme v) v = p.gives d.forme v := by simp [gs, hvt]
              rw [hgz] at z0 z1
              have hvs : v < s.cards.length := by rw [hcl]; exact hvt
              have hcs := (HS1.out.2.cards v hvs)
              have hgb := gives_bd (spoil_of HV.out) (fmeR_of HFM.out hvt)
              have hak : gs (addK p d.forme s.cards v) v = gs s.cards v := by rw [addK_at hvs, if_neg (by omega)]
              have hrow := HV7.out.1.cells (i := v) (by rw [addK_len]; exact hvs)
              rw [hak] at hrow
              have HSU := Lib.hid (addK_succ (p := p) (f := d.forme) hvs)
              have HAK := Lib.hid hak
              have HVT := Lib.hid (And.intro hvt hvs)
              rw [gives_eq] at z0 z1 HSU
              simp only at z0 z1
              clear hgz hak hcl
              revert z0 z1 hcs hgb hrow HSU HAK
              generalize gi d.forme.slots v * (p.good d.forme.times).lo = u1
              generalize gi d.forme.slots v * (p.good d.forme.times).hi = u2
              generalize gs s.cards v = c
              obtain ⟨q1, q2⟩ := c
              intro z0 z1 hcs hgb hrow HSU HAK
              have HROW := Lib.hid hrow
              have HWR : Hid (IntKind.i64.wrap (q1 + u1) = q1 + u1 ∧ IntKind.i64.wrap (q2 + u2) = q2 + u2) := ⟨IntWalk.i64_in _ (by simp only at hcs; omega), IntWalk.i64_in _ (by simp only at hcs; omega)⟩
              clear hgb hcs hrow
              have h6 : Below wr.heap.size wr (wr.alloc (.cells #[.int .i64 u1, .int .i64 u2] 23)) := (Below.refl _ wr).alloc (Nat.le_refl _) _
              have H6 := Lib.hid (And.intro (World.alloc_heap_new wr (.cells #[.int .i64 u1, .int .i64 u2] 23)) (And.intro (HV7.out.1.mono h6) (And.intro (HV7.out.2.1.trans (h6.mono (Nat.le_of_lt HV7.out.1.lt))) (HV7.out.2.2.mono h6))))
              have HLTB : Hid (g < wr.heap.size) := HV7.out.1.lt
              clear h6
              go_upto_region 26 with fail
              clear z0 z1
              revert H6 HLTB
              generalize wr.alloc (.cells #[.int .i64 u1, .int .i64 u2] 23) = w7
              generalize wr.heap.size = b7
              intro H6 HLTB
              refine wpIn_wide.1 (kep26 (g := g) (bb := b7) (i := v) (n := p.wanted.length) (x := q1) (y := q2) (u := u1) (v := u2)
                (P0 := fun x => x.heap[b7]? = some (.cells #[.int .i64 u1, .int .i64 u2] 23 (0, 0)) ∧ CRow g (addK p d.forme s.cards v) x ∧ Below g w0 x ∧ IsSpns x (some ⟨gb, go, none⟩) ((List.range p.wanted.length).map fun v => p.gives d.forme v))
                (P1 := fun x => x.heap[b7]? = some (.cells #[.int .i64 u1, .int .i64 u2] 23 (0, 0)) ∧ CRow g (addK p d.forme s.cards v) x ∧ Below g w0 x ∧ IsSpns x (some ⟨gb, go, none⟩) ((List.range p.wanted.length).map fun v => p.gives d.forme v))
                (P2 := fun x => x.heap[b7]? = some (.cells #[.int .i64 u1, .int .i64 u2] 23 (0, 0)) ∧ CRow g (addK p d.forme s.cards (v + 1)) x ∧ Below g w0 x ∧ IsSpns x (some ⟨gb, go, none⟩) ((List.range p.wanted.length).map fun v => p.gives d.forme v))
                HVT.out.1 ?h0_b ?l6_b ?l8_b ?l14_b ?l16_b ?c18_b ?s20_b ?hQ_b)
              case h0_b => exact ⟨((Below.refl _ w7).drew.block _ (heap_lt H6.out.1)).trans H6.out.1, H6.out.2.1.mono (Below.refl _ w7).drew, H6.out.2.2.1.drew, H6.out.2.2.2.mono (Below.refl _ w7).drew⟩
              case l6_b =>
                intro x h
                have hc : CRow g (addK p d.forme s.cards v) x := h.2.1
                have hr := hc.cells (i := v) (by rw [addK_len]; exact HVT.out.2)
                have hak : gs (addK p d.forme s.cards v) v = ⟨q1, q2⟩ := HAK.out
                rw [hak] at hr
                exact hr.1
              case l8_b => rintro x (h | h | h) <;> (rw [cell_of_heap h.1]; rfl)
              case l14_b =>
                intro x h
                have hc : CRow g (addK p d.forme s.cards v) x := h.2.1
                have hr := hc.cells (i := v) (by rw [addK_len]; exact HVT.out.2)
                have hak : gs (addK p d.forme s.cards v) v = ⟨q1, q2⟩ := HAK.out
                rw [hak] at hr
                exact hr.2
              case l16_b => rintro x (h | h | h) <;> (rw [cell_of_heap h.1]; rfl)
              case c18_b =>
                intro x h
                exact span35n.mono fun e w' ⟨h1, h2, _⟩ => ⟨h1, (h2.block _ (heap_lt h.1)).trans h.1, h.2.1.mono h2, h.2.2.1.trans (h2.mono (Nat.le_of_lt h.2.1.lt)), h.2.2.2.mono h2⟩
              case s20_b =>
                intro x h
                rw [HWR.out.1, HWR.out.2]
                obtain ⟨a1, a2, a3, a4, a5⟩ := h.2.1.put (i := v) (by rw [addK_len]; exact HVT.out.2) (q1 + u1) (q2 + u2)
                refine ⟨a1, a2, a3, a4, ?_, by rw [HSU.out]; exact a5, (h.2.2.1.setCell (p := ⟨g, _, none⟩) (Nat.le_refl g) _).setCell (p := ⟨g, _, none⟩) (Nat.le_refl g) _, spns_set (n := 0) (spns_set (n := 0) h.2.2.2 HNE.out) HNE.out⟩
                have hne : b7 ≠ g := by have := HLTB.out; omega
                exact (Below.heap_setCell _ _ _ _ hne).trans ((Below.heap_setCell _ _ _ _ hne).trans h.1)
              intro w8 h8
              have H8 := Lib.hid h8.2
              clear h8
              have hvw := HVT.out.1
              go_wp2_with fail
              go_roundw
              case rel => exact ⟨v + 1, by have := HVT.out.1; omega, by go_num, H8.out⟩
              case measure => have := HVT.out.1; simp [intOf]; omega
            · obtain rfl : v = p.wanted.length := by omega
              go_wp2_with fail
              refine HKLB.out _ _ ?_
              go_wp2_with fail
              go_roundw
              case rel => exact ⟨j + 1, by have := HJ.out; omega, by go_num, by rw [HT.out, HTE.out], by rw [HT.out, HTE.out], by rw [Hid, HT.out, HTE.out, HCL.out]; exact ⟨HV7.out.1, HV7.out.2.1⟩⟩
              case measure => have := HJ.out; simp [intOf]; omega
        · have hk2 : d.kind = 2 := by rcases kind_one HDO.out with h | h | h <;> omega
          have hd := deal2 HDS.out hk2
          have HTE := Lib.hid hd
          have hnm := HNM.out.2.2 hk2
          obtain ⟨vi, hvi⟩ : ∃ vi : Nat, d.view = (vi : Int) := ⟨d.view.toNat, by omega⟩
          have hvn : vi < p.wanted.length := by omega
          have hvs : vi < s.cards.length := by rw [HS1.out.1.len]; exact hvn
          have hcs := HS1.out.2.cards vi hvs
          have g0 : (d.kind == 0) = false := by simp [hk0]
          have g1 : (d.kind == 1) = false := by simp [hk1]
          have x1 : IntKind.i64.wrap (s.money + d.pence) = s.money + d.pence := IntWalk.i64_in _ (by omega)
          have HWR : Hid (IntKind.i64.wrap ((gs s.cards vi).lo - d.many) = (gs s.cards vi).lo - d.many ∧ IntKind.i64.wrap ((gs s.cards vi).hi - d.many) = (gs s.cards vi).hi - d.many) := ⟨IntWalk.i64_in _ (by omega), IntWalk.i64_in _ (by omega)⟩
          have HVI := Lib.hid (And.intro hvi (And.intro hvn hvs))
          have HE3 := Lib.hid e3
          clear hd hk0 hk1 hk2 hnm hvi hvn hvs hcs hb1 hb2 E0 E1 E2 E3 E4 E5 e3
          go_upto_region 15 with fail
          clear e0 e1 e2 e4 e5
          refine wpIn_wide.1 (kep15 (g := g) (bd := bd) (i := vi) (n := p.wanted.length) (x := (gs s.cards vi).lo) (y := (gs s.cards vi).hi) (k := d.many)
            (P0 := fun x => x.heap[bd]? = some (.cells (d.arr ai ci) 62 (0, 0)) ∧ CRow g s.cards x ∧ Below g w0 x)
            (P1 := fun x => x.heap[bd]? = some (.cells (d.arr ai ci) 62 (0, 0)) ∧ CRow g s.cards x ∧ Below g w0 x)
            (P2 := fun x => x.heap[bd]? = some (.cells (d.arr ai ci) 62 (0, 0)) ∧ CRow g (s.cards.set vi ⟨(gs s.cards vi).lo - d.many, (gs s.cards vi).hi - d.many⟩) x ∧ Below g w0 x)
            HVI.out.2.1 ?h0_c ?l2_c ?l5_c ?l8_c ?l10_c ?l14_c ?l17_c ?l19_c ?c21_c ?s23_c ?hQ_c)
          case h0_c => exact ⟨((Below.refl _ w5).drew.block _ (heap_lt HQ5.out)).trans HQ5.out, HC5.out.mono (Below.refl _ w5).drew, by rw [← HG.out]; exact HB5.out.drew⟩
          case l2_c => rintro x (h | h | h) <;> (rw [cell_of_heap h.1, ← HVI.out.1]; rfl)
          case l5_c => rintro x (h | h | h) <;> (rw [cell_of_heap h.1, ← HVI.out.1]; rfl)
          case l8_c => intro x h; exact (h.2.1.cells HVI.out.2.2).1
          case l10_c => rintro x (h | h | h) <;> (rw [cell_of_heap h.1]; rfl)
          case l14_c => rintro x (h | h | h) <;> (rw [cell_of_heap h.1, ← HVI.out.1]; rfl)
          case l17_c => intro x h; exact (h.2.1.cells HVI.out.2.2).2
          case l19_c => rintro x (h | h | h) <;> (rw [cell_of_heap h.1]; rfl)
          case c21_c =>
            intro x h
            exact span35n.mono fun e w' ⟨h1, h2, _⟩ => ⟨h1, (h2.block _ (heap_lt h.1)).trans h.1, h.2.1.mono h2, h.2.2.trans (h2.mono (Nat.le_of_lt h.2.1.lt))⟩
          case s23_c =>
            intro x h
            rw [HWR.out.1, HWR.out.2]
            obtain ⟨a1, a2, a3, a4, a5⟩ := h.2.1.put HVI.out.2.2 ((gs s.cards vi).lo - d.many) ((gs s.cards vi).hi - d.many)
            have hne : bd ≠ g := fun e => by
              have h1 := h.1
              obtain ⟨cur, h2, _⟩ := h.2.1.row
              rw [e, h2] at h1
              simp at h1
            exact ⟨a1, a2, a3, a4, (Below.heap_setCell _ _ _ _ hne).trans ((Below.heap_setCell _ _ _ _ hne).trans h.1), a5, (h.2.2.setCell (p := ⟨g, _, none⟩) (Nat.le_refl g) _).setCell (p := ⟨g, _, none⟩) (Nat.le_refl g) _⟩
          intro w8 h8
          have H8 := Lib.hid h8.2
          clear h8
          have hjn := HJ.out
          go_wp2_with fail
          refine HKLB.out _ _ ?_
          go_wp2_with fail
          go_roundw
          case rel => exact ⟨j + 1, by have := HJ.out; omega, by go_num, by rw [HT.out, HTE.out], by rw [HT.out, HTE.out], by rw [Hid, HT.out, HTE.out, show d.view.toNat = vi by have := HVI.out.1; omega]; exact H8.out⟩
          case measure => have := HJ.out; simp [intOf]; omega
    · obtain rfl : j = N := by omega
      have hok := HKR.out.ok j (Nat.le_refl j)
      rw [HST.out] at hok
      have hbw : Below w0.heap.size w0 wr := by rw [HG.out]; exact HR.out.2
      have HBW := Lib.hid hbw
      have HR2 : Hid (CRow g sc wr) := by
        have h := HR.out.1
        rw [HST.out] at h
        exact h
      have HOK := Lib.hid hok
      have hq := (HBW.out.block _ (heap_lt HQ1.out)).trans HQ1.out
      have e0 : wr.cell? ⟨g1, 0, none⟩ = some (.int .i64 sp) := by rw [cell_of_heap hq]; rfl
      have e1 : wr.cell? ⟨g1, 1, none⟩ = some (.int .i64 sm) := by rw [cell_of_heap hq]; rfl
      have e2 : wr.cell? ⟨g1, 2, none⟩ = some (.slice a1 p.wanted.length c1) := by rw [cell_of_heap hq]; rfl
      have HCL : Hid (sc.length = p.wanted.length) := HOK.out.len
      have G := spans21 (l := sc) (m := sc) (ca := c1) (cb := p.wanted.length) (HF1.out.mono HBW.out) HR2.out.spns (by have := HCL.out; omega) (by have := HCL.out; omega)
      rw [decide_eq_true rfl, HCL.out] at G
      have HGS := Lib.hid G
      rw [HST.out]
      have y1 : decide (sp < 0) = false := by have := HOK.out.paper; simp only at this; simp; omega
      have y2 : decide (sm < 0) = false := by have := HOK.out.money; simp only at this; simp; omega
      clear hok hbw hq G
      go_wp2_with fail
      refine HK10.out _ _ ?_
      refine wp_seq_hid ?_
      intro K29 HK29
      go_wp2_with fail
      refine HGS.out.mono ?_
      rintro e b1 ⟨rfl, hb⟩
      have HB1 := Lib.hid (And.intro (HBW.out.trans (hb.mono HBW.out.size)) (HR2.out.mono hb))
      clear hb e0 e1 e2 y1 y2
      go_wp2_with fail
      refine HK29.out _ _ ?_
      clear HK29 K29
      refine wp_seq_hid ?_
      intro K31 HK31
      go_wp2_with fail
      go_loopw [279] (fun i wr => ∃ v : Nat, v ≤ p.wanted.length ∧ i = .int .i64 v ∧ Hid (CRow g sc wr ∧ Below w0.heap.size w0 wr)) (fun i _ => p.wanted.length - (intOf i).toNat)
      case atStart => exact ⟨0, by omega, rfl, HB1.out.2, HB1.out.1⟩
      case round =>
        obtain ⟨v, hv, rfl, HV7⟩ := hrel
        by_cases hvt : v < p.wanted.length
        · have hvs : v < sc.length := by rw [HCL.out]; exact hvt
          obtain ⟨z0, z1⟩ := HV7.out.1.cells hvs
          have hcs := HOK.out.cards v hvs
          simp only at hcs
          revert z0 z1 hcs
          generalize (gs sc v).lo = q1
          generalize (gs sc v).hi = q2
          intro z0 z1 hcs
          have h6 : Below wr.heap.size wr (wr.alloc (.cells #[.int .i64 q1, .int .i64 q2] 23)) := (Below.refl _ wr).alloc (Nat.le_refl _) _
          have H6 := Lib.hid (And.intro (HV7.out.1.mono h6) (HV7.out.2.trans (h6.mono HV7.out.2.size)))
          have y1 : decide (q1 < 0) = false := by simp; omega
          have y2 : decide (q1 > q2) = false := by simp; omega
          clear h6 hcs hvs
          go_wp2_with fail
          go_roundw
          case rel => exact ⟨v + 1, by omega, by go_num, H6.out⟩
          case measure => simp [intOf]; omega
        · go_wp2_with fail
          refine HK31.out _ _ ?_
          go_wp2_with fail
          refine (awake14 (w := _)).mono ?_
          rintro e c9 ⟨rfl, hb⟩
          have HX2 := Lib.hid (HV7.out.2.trans (hb.mono HV7.out.2.size))
          clear hb
          go_wp2_with fail
          go_ret
          exact ⟨rfl, (HPX.out _ HX2.out).2.2⟩
end Go.Proofs.Ytjkhclijmcmdjaa
namespace Go.Proofs.Ytjkhclijmcmdjaa
open Go.RowKit
set_option linter.unusedVariables false
set_option linter.unusedSimpArgs false
set_option maxRecDepth 100000 in
set_option maxHeartbeats 16000000 in
theorem stockKept_any {p : Prs} {A : PrsA} {w : World} (hP : IsPrs w p A) (hcap : p.deals.length ≤ A.cd) (n : Int) :
    Calls Try.prog 9 #[p.v A, .int .i64 n] w fun e w' => e = .returned (.bool true) ∧ Below w.heap.size w w' := by
  have hb0 : Below w.heap.size w (w.alloc (.cells (p.arr A) 27)) := (Below.refl _ w).alloc (Nat.le_refl _) _
  have q0 := World.alloc_heap_new w (.cells (p.arr A) 27)
  have HW := Lib.hid (And.intro hb0 (And.intro q0 (hP.mono hb0)))
  have HCP := Lib.hid hcap
  clear hb0 q0 hP hcap
  go_enter Try.func9, Try.ntmps9
  refine wp_seq_hid ?_
  intro K0 HK0
  go_wp2_with fail
  refine HK0.out _ _ ?_
  clear HK0 K0
  refine wp_seq_hid ?_
  intro K1 HK1
  revert HW
  generalize w.alloc (.cells (p.arr A) 27) = w1
  intro HW
  have KP : Hid (∀ v, Below w1.heap.size w1 v → PrsC v w.heap.size p A ∧ IsPrs v p A ∧ Below w.heap.size w v) := fun v h => ⟨prs_cells ((h.block _ (heap_lt HW.out.2.1)).trans HW.out.2.1), HW.out.2.2.mono h, HW.out.1.trans (h.mono HW.out.1.size)⟩
  have HB := Lib.hid (Below.refl w1.heap.size w1)
  obtain ⟨k0, k1, k2, k3, k4, k5, k6, k7, k8, k9⟩ := (KP.out w1 HB.out).1
  go_wp2_with fail
  refine (far13 (l := []) (a := none) (c := 0) (KP.out w1 HB.out).2.1 (fmes_nil _)).mono ?_
  rintro e b1 ⟨rfl, hb⟩
  have HX := Lib.hid (HB.out.trans (hb.mono HB.out.size))
  clear hb HB k0 k1 k2 k3 k4 k5 k6 k7 k8 k9
  have HB := HX
  clear HX
  cases hf : farB p []
  case true =>
    go_wp2_with fail
    refine (awake14 (w := _)).mono ?_
    rintro e c1 ⟨rfl, hb⟩
    have HX := Lib.hid (HB.out.trans (hb.mono HB.out.size))
    clear hb
    go_wp2_with fail
    go_ret
    exact ⟨rfl, (KP.out _ HX.out).2.2⟩
  have HS := Lib.hid (far_small hf).1
  clear hf
  go_wp2_with fail
  refine HK1.out _ _ ?_
  clear HK1 K1
  have C28 : Hid (∀ (a b : Int) (l : List Spn) (m : Nat) (y : Int), onE p n = (⟨a, b, l⟩, y) → l.length = m → ∀ v, Below w1.heap.size w1 v → Calls Try.prog 28 #[p.v A, .int .i64 n] v fun e w' => ∃ ad c, e = .returned (.tuple #[.agg #[.int .i64 a, .int .i64 b, .slice ad m c], .int .i64 y]) ∧ IsSpns w' ad l ∧ Below v.heap.size v w') := fun a b l m y he hm v h => by
    have G := on28 (n := n) (KP.out v h).2.1 HS.out HCP.out
    rw [he, hm] at G
    exact G
  have C26 : Hid (∀ m z : Int, playE p = (m, z) → ∀ v, Below w1.heap.size w1 v → Calls Try.prog 26 #[p.v A] v fun e w' => e = .returned (.tuple #[.int .i64 m, .int .i64 z]) ∧ Below v.heap.size v w') := fun m z he v h => by
    have G := play26 (KP.out v h).2.1 HS.out
    rw [he] at G
    exact G
  have C33 : Hid (∀ b, p.valid = b → ∀ v, Below w1.heap.size w1 v → Calls Try.prog 33 #[p.v A] v fun e w' => e = .returned (.bool b) ∧ Below v.heap.size v w') := fun b he v h => by
    have G := rpress33 (KP.out v h).2.1 HS.out
    rw [he] at G
    exact G
  have HDL : Hid (p.deals.length ≤ 60) := HS.out.deals
  have hdl := HDL.out
  cases hv : p.valid
  case false =>
    have HO := Lib.hid (bad_on hv n)
    have HV := Lib.hid hv
    clear hv
    refine wp_seq_hid ?_
    intro K2 HK2
    obtain ⟨k0, k1, k2, k3, k4, k5, k6, k7, k8, k9⟩ := (KP.out b1 HB.out).1
    go_wp2_with fail
    refine (C28.out 0 0 [] 0 _ HO.out.1 rfl _ HB.out).mono ?_
    rintro e b2 ⟨a1, c1, rfl, hf1, hb⟩
    have HX := Lib.hid (And.intro (HB.out.trans (hb.mono HB.out.size)) hf1)
    clear hb HB k0 k1 k2 k3 k4 k5 k6 k7 k8 k9 hf1
    have HB := HX
    clear HX
    have HQ := Lib.hid (World.alloc_heap_new b2 (.cells #[.int .i64 0, .int .i64 0, .slice a1 0 c1] 48))
    have HN : Hid (Below b2.heap.size b2 (b2.alloc (.cells #[.int .i64 0, .int .i64 0, .slice a1 0 c1] 48))) := (Below.refl _ b2).alloc (Nat.le_refl _) _
    go_wp2_with fail
    refine HK2.out _ _ ?_
    clear HK2 K2
    revert HQ HN
    generalize b2.alloc (.cells #[.int .i64 0, .int .i64 0, .slice a1 0 c1] 48) = x1
    generalize hg : b2.heap.size = g1
    intro HQ HN
    have hb : Below b2.heap.size b2 x1 := by rw [hg]; exact HN.out
    have HX := Lib.hid (And.intro (HB.out.1.trans (hb.mono HB.out.1.size)) (And.intro (HB.out.2.mono hb) HQ.out))
    clear hb HB HN HQ hg
    have HB := HX
    clear HX
    refine wp_seq_hid ?_
    intro K3 HK3
    obtain ⟨k0, k1, k2, k3, k4, k5, k6, k7, k8, k9⟩ := (KP.out x1 HB.out.1).1
    go_wp2_with fail
    refine (C26.out _ _ HO.out.2 _ HB.out.1).mono ?_
    rintro e b3 ⟨rfl, hb⟩
    have HX := Lib.hid (And.intro (HB.out.1.trans (hb.mono HB.out.1.size)) (And.intro (HB.out.2.1.mono hb) ((hb.block _ (heap_lt HB.out.2.2)).trans HB.out.2.2)))
    clear hb HB k0 k1 k2 k3 k4 k5 k6 k7 k8 k9
    have HB := HX
    clear HX
    go_wp2_with fail
    refine HK3.out _ _ ?_
    clear HK3 K3
    have e0 : b3.cell? ⟨g1, 0, none⟩ = some (.int .i64 0) := by rw [cell_of_heap HB.out.2.2]; rfl
    have e1 : b3.cell? ⟨g1, 1, none⟩ = some (.int .i64 0) := by rw [cell_of_heap HB.out.2.2]; rfl
    have e2 : b3.cell? ⟨g1, 2, none⟩ = some (.slice a1 0 c1) := by rw [cell_of_heap HB.out.2.2]; rfl
    skip
    obtain ⟨k0, k1, k2, k3, k4, k5, k6, k7, k8, k9⟩ := (KP.out b3 HB.out.1).1
    go_wp2_with fail
    refine (C33.out _ HV.out _ HB.out.1).mono ?_
    rintro e b9 ⟨rfl, hb⟩
    have HX := Lib.hid (And.intro (HB.out.1.trans (hb.mono HB.out.1.size)) (And.intro (HB.out.2.1.mono hb) ((hb.block _ (heap_lt HB.out.2.2)).trans HB.out.2.2)))
    clear hb HB e0 e1 e2 k0 k1 k2 k3 k4 k5 k6 k7 k8 k9
    have HB := HX
    clear HX
    obtain ⟨k0, k1, k2, k3, k4, k5, k6, k7, k8, k9⟩ := (KP.out b9 HB.out.1).1
    go_wp2_with fail
    refine (awake14 (w := _)).mono ?_
    rintro e c1 ⟨rfl, hb⟩
    have HX := Lib.hid (HB.out.1.trans (hb.mono HB.out.1.size))
    clear hb
    go_wp2_with fail
    go_ret
    exact ⟨rfl, (KP.out _ HX.out).2.2⟩
  have HV := Lib.hid hv
  rcases kept_law hv n with ⟨hO, hr⟩ | ⟨hn0, hn1, ⟨hO, m, hP, hm⟩ | ⟨st, hK, hO, m, z, hP, hm, hz⟩⟩
  · obtain ⟨m, z, hP⟩ : ∃ m z, playE p = (m, z) := ⟨_, _, rfl⟩
    have HO := Lib.hid (And.intro hO hP)
    clear hO hP hv
    by_cases hn : n < 0
    · have g1 : decide (n < 0) = true := by simpa using hn
      clear hr hn
      refine wp_seq_hid ?_
      intro K2 HK2
      obtain ⟨k0, k1, k2, k3, k4, k5, k6, k7, k8, k9⟩ := (KP.out b1 HB.out).1
      go_wp2_with fail
      refine (C28.out 0 0 [] 0 _ HO.out.1 rfl _ HB.out).mono ?_
      rintro e b4 ⟨a1, c1, rfl, hf1, hb⟩
      have HX := Lib.hid (And.intro (HB.out.trans (hb.mono HB.out.size)) hf1)
      clear hb HB k0 k1 k2 k3 k4 k5 k6 k7 k8 k9 hf1
      have HB := HX
      clear HX
      have HQ := Lib.hid (World.alloc_heap_new b4 (.cells #[.int .i64 0, .int .i64 0, .slice a1 0 c1] 48))
      have HN : Hid (Below b4.heap.size b4 (b4.alloc (.cells #[.int .i64 0, .int .i64 0, .slice a1 0 c1] 48))) := (Below.refl _ b4).alloc (Nat.le_refl _) _
      go_wp2_with fail
      refine HK2.out _ _ ?_
      clear HK2 K2
      revert HQ HN
      generalize b4.alloc (.cells #[.int .i64 0, .int .i64 0, .slice a1 0 c1] 48) = x1
      generalize hg : b4.heap.size = g1
      intro HQ HN
      have hb : Below b4.heap.size b4 x1 := by rw [hg]; exact HN.out
      have HX := Lib.hid (And.intro (HB.out.1.trans (hb.mono HB.out.1.size)) (And.intro (HB.out.2.mono hb) HQ.out))
      clear hb HB HN HQ hg
      have HB := HX
      clear HX
      refine wp_seq_hid ?_
      intro K3 HK3
      obtain ⟨k0, k1, k2, k3, k4, k5, k6, k7, k8, k9⟩ := (KP.out x1 HB.out.1).1
      go_wp2_with fail
      refine (C26.out _ _ HO.out.2 _ HB.out.1).mono ?_
      rintro e b5 ⟨rfl, hb⟩
      have HX := Lib.hid (And.intro (HB.out.1.trans (hb.mono HB.out.1.size)) (And.intro (HB.out.2.1.mono hb) ((hb.block _ (heap_lt HB.out.2.2)).trans HB.out.2.2)))
      clear hb HB k0 k1 k2 k3 k4 k5 k6 k7 k8 k9
      have HB := HX
      clear HX
      go_wp2_with fail
      refine HK3.out _ _ ?_
      clear HK3 K3
      have e0 : b5.cell? ⟨g1, 0, none⟩ = some (.int .i64 0) := by rw [cell_of_heap HB.out.2.2]; rfl
      have e1 : b5.cell? ⟨g1, 1, none⟩ = some (.int .i64 0) := by rw [cell_of_heap HB.out.2.2]; rfl
      have e2 : b5.cell? ⟨g1, 2, none⟩ = some (.slice a1 0 c1) := by rw [cell_of_heap HB.out.2.2]; rfl
      skip
      obtain ⟨k0, k1, k2, k3, k4, k5, k6, k7, k8, k9⟩ := (KP.out b5 HB.out.1).1
      go_wp2_with fail
      refine (C33.out _ HV.out _ HB.out.1).mono ?_
      rintro e b9 ⟨rfl, hb⟩
      have HX := Lib.hid (And.intro (HB.out.1.trans (hb.mono HB.out.1.size)) (And.intro (HB.out.2.1.mono hb) ((hb.block _ (heap_lt HB.out.2.2)).trans HB.out.2.2)))
      clear hb HB e0 e1 e2 k0 k1 k2 k3 k4 k5 k6 k7 k8 k9
      have HB := HX
      clear HX
      obtain ⟨k0, k1, k2, k3, k4, k5, k6, k7, k8, k9⟩ := (KP.out b9 HB.out.1).1
      go_wp2_with fail
      refine (awake14 (w := _)).mono ?_
      rintro e c1 ⟨rfl, hb⟩
      have HX := Lib.hid (HB.out.1.trans (hb.mono HB.out.1.size))
      clear hb
      go_wp2_with fail
      go_ret
      exact ⟨rfl, (KP.out _ HX.out).2.2⟩
    · have g1 : decide (n < 0) = false := by simpa using hn
      have g2 : decide (n > (p.deals.length : Int)) = true := by simp; omega
      clear hr hn
      refine wp_seq_hid ?_
      intro K2 HK2
      obtain ⟨k0, k1, k2, k3, k4, k5, k6, k7, k8, k9⟩ := (KP.out b1 HB.out).1
      go_wp2_with fail
      refine (C28.out 0 0 [] 0 _ HO.out.1 rfl _ HB.out).mono ?_
      rintro e b6 ⟨a1, c1, rfl, hf1, hb⟩
      have HX := Lib.hid (And.intro (HB.out.trans (hb.mono HB.out.size)) hf1)
      clear hb HB k0 k1 k2 k3 k4 k5 k6 k7 k8 k9 hf1
      have HB := HX
      clear HX
      have HQ := Lib.hid (World.alloc_heap_new b6 (.cells #[.int .i64 0, .int .i64 0, .slice a1 0 c1] 48))
      have HN : Hid (Below b6.heap.size b6 (b6.alloc (.cells #[.int .i64 0, .int .i64 0, .slice a1 0 c1] 48))) := (Below.refl _ b6).alloc (Nat.le_refl _) _
      go_wp2_with fail
      refine HK2.out _ _ ?_
      clear HK2 K2
      revert HQ HN
      generalize b6.alloc (.cells #[.int .i64 0, .int .i64 0, .slice a1 0 c1] 48) = x1
      generalize hg : b6.heap.size = g1
      intro HQ HN
      have hb : Below b6.heap.size b6 x1 := by rw [hg]; exact HN.out
      have HX := Lib.hid (And.intro (HB.out.1.trans (hb.mono HB.out.1.size)) (And.intro (HB.out.2.mono hb) HQ.out))
      clear hb HB HN HQ hg
      have HB := HX
      clear HX
      refine wp_seq_hid ?_
      intro K3 HK3
      obtain ⟨k0, k1, k2, k3, k4, k5, k6, k7, k8, k9⟩ := (KP.out x1 HB.out.1).1
      go_wp2_with fail
      refine (C26.out _ _ HO.out.2 _ HB.out.1).mono ?_
      rintro e b7 ⟨rfl, hb⟩
      have HX := Lib.hid (And.intro (HB.out.1.trans (hb.mono HB.out.1.size)) (And.intro (HB.out.2.1.mono hb) ((hb.block _ (heap_lt HB.out.2.2)).trans HB.out.2.2)))
      clear hb HB k0 k1 k2 k3 k4 k5 k6 k7 k8 k9
      have HB := HX
      clear HX
      go_wp2_with fail
      refine HK3.out _ _ ?_
      clear HK3 K3
      have e0 : b7.cell? ⟨g1, 0, none⟩ = some (.int .i64 0) := by rw [cell_of_heap HB.out.2.2]; rfl
      have e1 : b7.cell? ⟨g1, 1, none⟩ = some (.int .i64 0) := by rw [cell_of_heap HB.out.2.2]; rfl
      have e2 : b7.cell? ⟨g1, 2, none⟩ = some (.slice a1 0 c1) := by rw [cell_of_heap HB.out.2.2]; rfl
      skip
      obtain ⟨k0, k1, k2, k3, k4, k5, k6, k7, k8, k9⟩ := (KP.out b7 HB.out.1).1
      go_wp2_with fail
      refine (C33.out _ HV.out _ HB.out.1).mono ?_
      rintro e b9 ⟨rfl, hb⟩
      have HX := Lib.hid (And.intro (HB.out.1.trans (hb.mono HB.out.1.size)) (And.intro (HB.out.2.1.mono hb) ((hb.block _ (heap_lt HB.out.2.2)).trans HB.out.2.2)))
      clear hb HB e0 e1 e2 k0 k1 k2 k3 k4 k5 k6 k7 k8 k9
      have HB := HX
      clear HX
      obtain ⟨k0, k1, k2, k3, k4, k5, k6, k7, k8, k9⟩ := (KP.out b9 HB.out.1).1
      go_wp2_with fail
      refine (awake14 (w := _)).mono ?_
      rintro e c1 ⟨rfl, hb⟩
      have HX := Lib.hid (HB.out.1.trans (hb.mono HB.out.1.size))
      clear hb
      go_wp2_with fail
      go_ret
      exact ⟨rfl, (KP.out _ HX.out).2.2⟩
  · have g1 : decide ((m : Int) < n) = true := by simpa using hm
    have HO := Lib.hid (And.intro hO hP)
    clear hO hP hv hn0 hn1 hm
    refine wp_seq_hid ?_
    intro K2 HK2
    obtain ⟨k0, k1, k2, k3, k4, k5, k6, k7, k8, k9⟩ := (KP.out b1 HB.out).1
    go_wp2_with fail
    refine (C28.out 0 0 [] 0 _ HO.out.1 rfl _ HB.out).mono ?_
    rintro e b8 ⟨a1, c1, rfl, hf1, hb⟩
    have HX := Lib.hid (And.intro (HB.out.trans (hb.mono HB.out.size)) hf1)
    clear hb HB k0 k1 k2 k3 k4 k5 k6 k7 k8 k9 hf1
    have HB := HX
    clear HX
    have HQ := Lib.hid (World.alloc_heap_new b8 (.cells #[.int .i64 0, .int .i64 0, .slice a1 0 c1] 48))
    have HN : Hid (Below b8.heap.size b8 (b8.alloc (.cells #[.int .i64 0, .int .i64 0, .slice a1 0 c1] 48))) := (Below.refl _ b8).alloc (Nat.le_refl _) _
    go_wp2_with fail
    refine HK2.out _ _ ?_
    clear HK2 K2
    revert HQ HN
    generalize b8.alloc (.cells #[.int .i64 0, .int .i64 0, .slice a1 0 c1] 48) = x1
    generalize hg : b8.heap.size = g1
    intro HQ HN
    have hb : Below b8.heap.size b8 x1 := by rw [hg]; exact HN.out
    have HX := Lib.hid (And.intro (HB.out.1.trans (hb.mono HB.out.1.size)) (And.intro (HB.out.2.mono hb) HQ.out))
    clear hb HB HN HQ hg
    have HB := HX
    clear HX
    refine wp_seq_hid ?_
    intro K3 HK3
    obtain ⟨k0, k1, k2, k3, k4, k5, k6, k7, k8, k9⟩ := (KP.out x1 HB.out.1).1
    go_wp2_with fail
    refine (C26.out _ _ HO.out.2 _ HB.out.1).mono ?_
    rintro e b9 ⟨rfl, hb⟩
    have HX := Lib.hid (And.intro (HB.out.1.trans (hb.mono HB.out.1.size)) (And.intro (HB.out.2.1.mono hb) ((hb.block _ (heap_lt HB.out.2.2)).trans HB.out.2.2)))
    clear hb HB k0 k1 k2 k3 k4 k5 k6 k7 k8 k9
    have HB := HX
    clear HX
    go_wp2_with fail
    refine HK3.out _ _ ?_
    clear HK3 K3
    have e0 : b9.cell? ⟨g1, 0, none⟩ = some (.int .i64 0) := by rw [cell_of_heap HB.out.2.2]; rfl
    have e1 : b9.cell? ⟨g1, 1, none⟩ = some (.int .i64 0) := by rw [cell_of_heap HB.out.2.2]; rfl
    have e2 : b9.cell? ⟨g1, 2, none⟩ = some (.slice a1 0 c1) := by rw [cell_of_heap HB.out.2.2]; rfl
    skip
    obtain ⟨k0, k1, k2, k3, k4, k5, k6, k7, k8, k9⟩ := (KP.out b9 HB.out.1).1
    go_wp2_with fail
    refine (C33.out _ HV.out _ HB.out.1).mono ?_
    rintro e b9 ⟨rfl, hb⟩
    have HX := Lib.hid (And.intro (HB.out.1.trans (hb.mono HB.out.1.size)) (And.intro (HB.out.2.1.mono hb) ((hb.block _ (heap_lt HB.out.2.2)).trans HB.out.2.2)))
    clear hb HB e0 e1 e2 k0 k1 k2 k3 k4 k5 k6 k7 k8 k9
    have HB := HX
    clear HX
    obtain ⟨k0, k1, k2, k3, k4, k5, k6, k7, k8, k9⟩ := (KP.out b9 HB.out.1).1
    go_wp2_with fail
    refine (awake14 (w := _)).mono ?_
    rintro e c1 ⟨rfl, hb⟩
    have HX := Lib.hid (HB.out.1.trans (hb.mono HB.out.1.size))
    clear hb
    go_wp2_with fail
    go_ret
    exact ⟨rfl, (KP.out _ HX.out).2.2⟩
  · obtain ⟨N, rfl⟩ : ∃ N : Nat, n = (N : Int) := ⟨n.toNat, by omega⟩
    rw [show ((N : Int)).toNat = N by omega] at hK hO
    have HKR := Lib.hid hK
    have hls := (hK.ok N (Nat.le_refl N)).len
    obtain ⟨sp, sm, sc, hst⟩ : ∃ a b c, st N = ⟨a, b, c⟩ := ⟨_, _, _, rfl⟩
    rw [hst] at hO hls
    have hls2 : sc.length = p.wanted.length := hls
    have HST := Lib.hid hst
    have HLW := Lib.hid hls2
    have HW4 := Lib.hid (wanted_of hv)
    have HO := Lib.hid (And.intro hO hP)
    have HN1 : Hid (N ≤ p.deals.length) := by rw [Hid]; omega
    have HM : Hid (N ≤ m) := by rw [Hid]; omega
    have HZ := Lib.hid hz
    clear hK hls hls2 hst hO hP hn0 hn1 hm hz
    refine wp_seq_hid ?_
    intro K2 HK2
    obtain ⟨k0, k1, k2, k3, k4, k5, k6, k7, k8, k9⟩ := (KP.out b1 HB.out).1
    go_wp2_with fail
    refine (C28.out _ _ _ _ _ HO.out.1 HLW.out _ HB.out).mono ?_
    rintro e b10 ⟨a1, c1, rfl, hf1, hb⟩
    have HX := Lib.hid (And.intro (HB.out.trans (hb.mono HB.out.size)) hf1)
    clear hb HB k0 k1 k2 k3 k4 k5 k6 k7 k8 k9 hf1
    have HB := HX
    clear HX
    have HQ := Lib.hid (World.alloc_heap_new b10 (.cells #[.int .i64 sp, .int .i64 sm, .slice a1 p.wanted.length c1] 48))
    have HN : Hid (Below b10.heap.size b10 (b10.alloc (.cells #[.int .i64 sp, .int .i64 sm, .slice a1 p.wanted.length c1] 48))) := (Below.refl _ b10).alloc (Nat.le_refl _) _
    go_wp2_with fail
    refine HK2.out _ _ ?_
    clear HK2 K2
    revert HQ HN
    generalize b10.alloc (.cells #[.int .i64 sp, .int .i64 sm, .slice a1 p.wanted.length c1] 48) = x1
    generalize hg : b10.heap.size = g1
    intro HQ HN
    have hb : Below b10.heap.size b10 x1 := by rw [hg]; exact HN.out
    have HX := Lib.hid (And.intro (HB.out.1.trans (hb.mono HB.out.1.size)) (And.intro (HB.out.2.mono hb) HQ.out))
    clear hb HB HN HQ hg
    have HB := HX
    clear HX
    refine wp_seq_hid ?_
    intro K3 HK3
    obtain ⟨k0, k1, k2, k3, k4, k5, k6, k7, k8, k9⟩ := (KP.out x1 HB.out.1).1
    go_wp2_with fail
    refine (C26.out _ _ HO.out.2 _ HB.out.1).mono ?_
    rintro e b11 ⟨rfl, hb⟩
    have HX := Lib.hid (And.intro (HB.out.1.trans (hb.mono HB.out.1.size)) (And.intro (HB.out.2.1.mono hb) ((hb.block _ (heap_lt HB.out.2.2)).trans HB.out.2.2)))
    clear hb HB k0 k1 k2 k3 k4 k5 k6 k7 k8 k9
    have HB := HX
    clear HX
    go_wp2_with fail
    refine HK3.out _ _ ?_
    clear HK3 K3
    refine wp_seq_hid ?_
    intro K4 HK4
    go_wp2_with fail
    refine HK4.out _ _ ?_
    clear HK4 K4
    refine wp_seq_hid ?_
    intro K5 HK5
    have e0 : b11.cell? ⟨g1, 0, none⟩ = some (.int .i64 sp) := by rw [cell_of_heap HB.out.2.2]; rfl
    have e1 : b11.cell? ⟨g1, 1, none⟩ = some (.int .i64 sm) := by rw [cell_of_heap HB.out.2.2]; rfl
    have e2 : b11.cell? ⟨g1, 2, none⟩ = some (.slice a1 p.wanted.length c1) := by rw [cell_of_heap HB.out.2.2]; rfl
    obtain ⟨k0, k1, k2, k3, k4, k5, k6, k7, k8, k9⟩ := (KP.out b11 HB.out.1).1
    have h1 : decide ((N : Int) < 0) = false := by simp
    have h2 : decide ((N : Int) > (p.deals.length : Int)) = false := by have := HN1.out; simp; omega
    have h2' : decide (N > p.deals.length) = false := by have := HN1.out; simp; omega
    have h3 : decide ((m : Int) < (N : Int)) = false := by have := HM.out; simp; omega
    have h3' : decide (m < N) = false := by have := HM.out; simp; omega
    clear hv
    rcases HZ.out with ⟨rfl, hm⟩ | ⟨rfl, hm⟩
    · have h4 : ((m : Int) == (p.deals.length : Int)) = true := by simp [hm]
      have h4' : (m == p.deals.length) = true := by simp [hm]
      clear hm
      go_wp2_with fail
      refine (C33.out _ HV.out _ HB.out.1).mono ?_
      rintro e b9 ⟨rfl, hb⟩
      have HX := Lib.hid (And.intro (HB.out.1.trans (hb.mono HB.out.1.size)) (And.intro (HB.out.2.1.mono hb) ((hb.block _ (heap_lt HB.out.2.2)).trans HB.out.2.2)))
      clear hb HB e0 e1 e2 k0 k1 k2 k3 k4 k5 k6 k7 k8 k9
      have HB := HX
      clear HX
      have e0 : b9.cell? ⟨g1, 0, none⟩ = some (.int .i64 sp) := by rw [cell_of_heap HB.out.2.2]; rfl
      have e1 : b9.cell? ⟨g1, 1, none⟩ = some (.int .i64 sm) := by rw [cell_of_heap HB.out.2.2]; rfl
      have e2 : b9.cell? ⟨g1, 2, none⟩ = some (.slice a1 p.wanted.length c1) := by rw [cell_of_heap HB.out.2.2]; rfl
      obtain ⟨k0, k1, k2, k3, k4, k5, k6, k7, k8, k9⟩ := (KP.out b9 HB.out.1).1
      go_wp2_with fail
      refine HK5.out _ _ ?_
      clear e0 e1 e2 h1 h2 h2' h3 h3' h4 h4' hdl k0 k1 k2 k3 k4 k5 k6 k7 k8 k9
      have HQZ := Lib.hid HB.out.2.2
      have HFZ := Lib.hid HB.out.2.1
      have HPZ : Hid (∀ v, Below b9.heap.size b9 v → PrsC v w.heap.size p A ∧ IsPrs v p A ∧ Below w.heap.size w v) := fun v h => KP.out v (HB.out.1.trans (h.mono HB.out.1.size))
      exact kept_rest HPZ HQZ HFZ HS HCP HV HKR HST HN1 rfl
    · have h4 : ((m : Int) == (p.deals.length : Int)) = false := by simp; omega
      have h4' : (m == p.deals.length) = false := by simp; omega
      clear hm
      go_wp2_with fail
      refine (C33.out _ HV.out _ HB.out.1).mono ?_
      rintro e b9 ⟨rfl, hb⟩
      have HX := Lib.hid (And.intro (HB.out.1.trans (hb.mono HB.out.1.size)) (And.intro (HB.out.2.1.mono hb) ((hb.block _ (heap_lt HB.out.2.2)).trans HB.out.2.2)))
      clear hb HB e0 e1 e2 k0 k1 k2 k3 k4 k5 k6 k7 k8 k9
      have HB := HX
      clear HX
      have e0 : b9.cell? ⟨g1, 0, none⟩ = some (.int .i64 sp) := by rw [cell_of_heap HB.out.2.2]; rfl
      have e1 : b9.cell? ⟨g1, 1, none⟩ = some (.int .i64 sm) := by rw [cell_of_heap HB.out.2.2]; rfl
      have e2 : b9.cell? ⟨g1, 2, none⟩ = some (.slice a1 p.wanted.length c1) := by rw [cell_of_heap HB.out.2.2]; rfl
      obtain ⟨k0, k1, k2, k3, k4, k5, k6, k7, k8, k9⟩ := (KP.out b9 HB.out.1).1
      go_wp2_with fail
      refine HK5.out _ _ ?_
      clear e0 e1 e2 h1 h2 h2' h3 h3' h4 h4' hdl k0 k1 k2 k3 k4 k5 k6 k7 k8 k9
      have HQZ := Lib.hid HB.out.2.2
      have HFZ := Lib.hid HB.out.2.1
      have HPZ : Hid (∀ v, Below b9.heap.size b9 v → PrsC v w.heap.size p A ∧ IsPrs v p A ∧ Below w.heap.size w v) := fun v h => KP.out v (HB.out.1.trans (h.mono HB.out.1.size))
      exact kept_rest HPZ HQZ HFZ HS HCP HV HKR HST HN1 rfl
end Go.Proofs.Ytjkhclijmcmdjaa
namespace Go.Proofs.Ytjkhclijmcmdjaa
open Go.RowKit Go.WideShapes Go.ChangeShapes
section
variable {H : Type} {enc : TypeId × Value → H} {P : Program}
end
end Go.Proofs.Ytjkhclijmcmdjaa
namespace Go.Proofs.Ytjkhclijmcmdjaa
open Go.ChangeShapes Go.WideShapes Go.ChangeAt Go.Deep Go.RowKit Go.Joins
set_option linter.unusedVariables false
theorem Try.laidOut : laidOutB Try.prog = true := by kernel_rfl
section
variable {H : Type} {enc : TypeId × Value → H} {w : World} {base : Nat} {spare : Nat → Bool} {held : Bool}
end
end Go.Proofs.Ytjkhclijmcmdjaa
