/- TopBoxes: the drawn region 32. TopBoxes: the tail from region 29 on. TopBoxes: the tail. TopBoxes: the head. -/
import Derived.Test.YtbnhngfegnhaiaaGreatDoorC9
import Derived.Lib.MinMax
namespace Go.Proofs.YtbnhngfegnhaiaaGreatDoor
open Go.RowKit
set_option linter.unusedVariables false
set_option linter.unusedSimpArgs false
noncomputable def gua32C : Code := (Tryz.f3.body.bind (regionAt 32)).getD .skip
set_option maxRecDepth 100000 in
set_option maxHeartbeats 8000000 in
theorem gua32 {S E tE fl c ba oa n ch k g tg sp : Nat} {mn : Int} {P0 : World → Prop} {Q : Exit → Act → World → Prop} {W1 : World} (htE : IntKind.i64.wrap (2 ^ E) = (tE : Int)) (hE : (E : Int) ≤ 6) (hx : bits .andNot .i64 ((tE : Int) - 1) (fl : Int) = (c : Int)) (hk : (k : Int) < (n : Int)) (hk0 : (0 : Int) ≤ (k : Int)) (htg : IntKind.i64.wrap (2 ^ g) = (tg : Int)) (hg : (g : Int) < 12) (hS : bits .or .i64 (c : Int) (tg : Int) = (S : Int)) (hs1 : IntKind.i64.wrap ((tE : Int) - 1) = (tE : Int) - 1) (hs2 : IntKind.i64.wrap ((E : Int) - (n : Int)) = (E : Int) - (n : Int)) (hmn : min (1 : Int) ((E : Int) - (n : Int)) = mn) (h0 : P0 W1.drew)
    (kl12 : Hid (∀ w : World, (P0 w) → w.cell? ⟨ba, oa + k, none⟩ = some (.int .i64 ((g : Int)))))
    (kl27 : Hid (∀ w : World, (P0 w) → w.cell? ⟨sp, 0, none⟩ = some (.int .i64 (0))))
    (kl32 : Hid (∀ w : World, (P0 w) → w.cell? ⟨sp, 1, none⟩ = some (.int .i64 (mn))))
    {s0 s1 s2 s3 s4 s5 s6 s9 s10 s11 s12 s15 s16 s17 s18 s20 s21 s22 s23 s24 s26 s28 s32 s33 s34 s35 s36 s37 s38 s39 s40 s41 s42 s43 s44 s45 s46 s47 s48 s49 s50 s51 s52 s53 s54 s55 s56 s57 s58 s59 s60 s61 s62 s63 s64 s65 s66 s67 s68 s69 s70 s71 s72 s73 s74 s75 s76 s77 s78 s79 s80 s81 s82 s83 s84 s85 s86 s87 s88 s89 s90 s91 s92 s93 s94 s95 s96 s97 s98 s99 s100 s101 s102 s103 s104 s105 s106 s107 s108 s109 s110 s111 s112 s113 s114 s115 s116 s117 s118 s119 s120 s121 s122 s123 s124 s125 s126 s127 s128 s129 s130 s131 s132 s133 s134 s135 s136 s137 s138 s139 s140 s141 s142 s143 s144 s145 s146 s147 s148 s149 s150 s151 s152 s153 s154 s155 s156 s157 s158 s159 s160 s161 s162 s163 s164 s165 s166 s167 s168 s169 s170 s171 s172 s173 s174 s175 s176 s177 s178 s179 s180 s181 s182 s183 s184 s185 s186 s187 s188 s189 s190 s191 s192 s193 s194 s195 s196 s197 s198 s199 s200 s201 s202 s203 s204 s205 s206 s207 s208 s209 s210 s211 s212 s213 s214 s215 s216 s217 s218 s219 s220 s221 s222 s223 s224 s225 s226 s227 s228 s229 s230 s231 s232 s233 s234 s235 s236 s237 s238 s239 s240 s241 s242 s243 s244 s245 s246 s247 s248 s249 s250 s251 s252 s253 s254 s255 s256 s257 s258 s259 s260 s261 s262 s263 s264 s265 s266 s267 s268 s269 s270 s271 s272 s273 s274 s275 s276 s277 s278 s279 s280 s281 s282 s283 s284 s285 s286 s287 s288 s289 s290 s291 s292 s293 s294 s295 s296 s297 s298 s299 s300 s301 s302 s303 s304 s305 s306 s307 s308 s309 s310 s311 s312 s313 s314 s315 s316 s317 s318 s319 s320 s321 s322 : Value} {dd : List Deferred}
    (hQ : ∀ w' : World, P0 w' → Q .normal { tmps := List.toArray (s0 :: s1 :: s2 :: s3 :: s4 :: s5 :: s6 :: .int .i64 ((E : Int)) :: .slice (some ⟨ba, oa, none⟩) n ch :: s9 :: s10 :: s11 :: s12 :: .int .i64 ((n : Int)) :: .int .i64 ((k : Int)) :: s15 :: s16 :: s17 :: s18 :: .int .i64 ((fl : Int)) :: s20 :: s21 :: s22 :: s23 :: s24 :: .int .i64 ((S : Int)) :: s26 :: .int .i64 (0) :: s28 :: .int .i64 (0) :: .pointer (some ⟨sp, 0, none⟩) :: .int .i64 (0) :: s32 :: s33 :: s34 :: s35 :: s36 :: s37 :: s38 :: s39 :: s40 :: s41 :: s42 :: s43 :: s44 :: s45 :: s46 :: s47 :: s48 :: s49 :: s50 :: s51 :: s52 :: s53 :: s54 :: s55 :: s56 :: s57 :: s58 :: s59 :: s60 :: s61 :: s62 :: s63 :: s64 :: s65 :: s66 :: s67 :: s68 :: s69 :: s70 :: s71 :: s72 :: s73 :: s74 :: s75 :: s76 :: s77 :: s78 :: s79 :: s80 :: s81 :: s82 :: s83 :: s84 :: s85 :: s86 :: s87 :: s88 :: s89 :: s90 :: s91 :: s92 :: s93 :: s94 :: s95 :: s96 :: s97 :: s98 :: s99 :: s100 :: s101 :: s102 :: s103 :: s104 :: s105 :: s106 :: s107 :: s108 :: s109 :: s110 :: s111 :: s112 :: s113 :: s114 :: s115 :: s116 :: s117 :: s118 :: s119 :: s120 :: s121 :: s122 :: s123 :: s124 :: s125 :: s126 :: s127 :: s128 :: s129 :: s130 :: s131 :: s132 :: s133 :: s134 :: s135 :: s136 :: s137 :: s138 :: s139 :: s140 :: s141 :: s142 :: s143 :: s144 :: s145 :: s146 :: s147 :: s148 :: s149 :: s150 :: s151 :: s152 :: s153 :: s154 :: s155 :: s156 :: s157 :: s158 :: s159 :: s160 :: s161 :: s162 :: s163 :: s164 :: s165 :: s166 :: s167 :: s168 :: s169 :: s170 :: s171 :: s172 :: s173 :: s174 :: s175 :: s176 :: s177 :: s178 :: s179 :: s180 :: s181 :: s182 :: s183 :: s184 :: s185 :: s186 :: s187 :: s188 :: s189 :: s190 :: s191 :: s192 :: s193 :: s194 :: s195 :: s196 :: s197 :: s198 :: s199 :: s200 :: s201 :: s202 :: s203 :: s204 :: s205 :: s206 :: s207 :: s208 :: s209 :: s210 :: s211 :: s212 :: .int .i64 (0) :: .bool false :: .bool false :: .int .i64 ((S : Int)) :: .int .i64 ((E : Int)) :: .int .i64 ((tE : Int)) :: .int .i64 ((tE : Int) - 1) :: .int .i64 ((fl : Int)) :: .int .i64 ((c : Int)) :: .slice (some ⟨ba, oa, none⟩) n ch :: .int .i64 ((k : Int)) :: .pointer (some ⟨ba, oa + k, none⟩) :: .int .i64 ((g : Int)) :: .int .i64 ((tg : Int)) :: .int .i64 ((S : Int)) :: .bool false :: .bool false :: .bool false :: .int .i64 (0) :: .bool false :: .bool false :: .bool false :: .int .i64 (0) :: .bool false :: .bool false :: .bool false :: .pointer (some ⟨sp, 0, none⟩) :: .int .i64 (0) :: .bool false :: .bool false :: .bool false :: .pointer (some ⟨sp, 1, none⟩) :: .int .i64 (mn) :: .int .i64 ((E : Int)) :: .int .i64 ((n : Int)) :: .int .i64 ((E : Int) - (n : Int)) :: .int .i64 (mn) :: .bool false :: .bool false :: s252 :: s253 :: s254 :: s255 :: s256 :: s257 :: s258 :: s259 :: s260 :: s261 :: s262 :: s263 :: s264 :: s265 :: s266 :: s267 :: s268 :: s269 :: s270 :: s271 :: s272 :: s273 :: s274 :: s275 :: s276 :: s277 :: s278 :: s279 :: s280 :: s281 :: s282 :: s283 :: s284 :: s285 :: s286 :: s287 :: s288 :: s289 :: s290 :: s291 :: s292 :: s293 :: s294 :: s295 :: s296 :: s297 :: s298 :: s299 :: s300 :: s301 :: s302 :: s303 :: s304 :: s305 :: s306 :: s307 :: s308 :: s309 :: s310 :: s311 :: s312 :: s313 :: s314 :: s315 :: s316 :: s317 :: s318 :: s319 :: s320 :: s321 :: s322 :: []),defers := dd } w') :
    Code.wpIn (wideAt none) 0 Tryz.prog gua32C Q { tmps := List.toArray (s0 :: s1 :: s2 :: s3 :: s4 :: s5 :: s6 :: .int .i64 ((E : Int)) :: .slice (some ⟨ba, oa, none⟩) n ch :: s9 :: s10 :: s11 :: s12 :: .int .i64 ((n : Int)) :: .int .i64 ((k : Int)) :: s15 :: s16 :: s17 :: s18 :: .int .i64 ((fl : Int)) :: s20 :: s21 :: s22 :: s23 :: s24 :: .int .i64 ((S : Int)) :: s26 :: .int .i64 (0) :: s28 :: .int .i64 (0) :: .pointer (some ⟨sp, 0, none⟩) :: .int .i64 (0) :: s32 :: s33 :: s34 :: s35 :: s36 :: s37 :: s38 :: s39 :: s40 :: s41 :: s42 :: s43 :: s44 :: s45 :: s46 :: s47 :: s48 :: s49 :: s50 :: s51 :: s52 :: s53 :: s54 :: s55 :: s56 :: s57 :: s58 :: s59 :: s60 :: s61 :: s62 :: s63 :: s64 :: s65 :: s66 :: s67 :: s68 :: s69 :: s70 :: s71 :: s72 :: s73 :: s74 :: s75 :: s76 :: s77 :: s78 :: s79 :: s80 :: s81 :: s82 :: s83 :: s84 :: s85 :: s86 :: s87 :: s88 :: s89 :: s90 :: s91 :: s92 :: s93 :: s94 :: s95 :: s96 :: s97 :: s98 :: s99 :: s100 :: s101 :: s102 :: s103 :: s104 :: s105 :: s106 :: s107 :: s108 :: s109 :: s110 :: s111 :: s112 :: s113 :: s114 :: s115 :: s116 :: s117 :: s118 :: s119 :: s120 :: s121 :: s122 :: s123 :: s124 :: s125 :: s126 :: s127 :: s128 :: s129 :: s130 :: s131 :: s132 :: s133 :: s134 :: s135 :: s136 :: s137 :: s138 :: s139 :: s140 :: s141 :: s142 :: s143 :: s144 :: s145 :: s146 :: s147 :: s148 :: s149 :: s150 :: s151 :: s152 :: s153 :: s154 :: s155 :: s156 :: s157 :: s158 :: s159 :: s160 :: s161 :: s162 :: s163 :: s164 :: s165 :: s166 :: s167 :: s168 :: s169 :: s170 :: s171 :: s172 :: s173 :: s174 :: s175 :: s176 :: s177 :: s178 :: s179 :: s180 :: s181 :: s182 :: s183 :: s184 :: s185 :: s186 :: s187 :: s188 :: s189 :: s190 :: s191 :: s192 :: s193 :: s194 :: s195 :: s196 :: s197 :: s198 :: s199 :: s200 :: s201 :: s202 :: s203 :: s204 :: s205 :: s206 :: s207 :: s208 :: s209 :: s210 :: s211 :: s212 :: s213 :: s214 :: s215 :: s216 :: s217 :: s218 :: s219 :: s220 :: s221 :: s222 :: s223 :: s224 :: s225 :: s226 :: s227 :: s228 :: s229 :: s230 :: s231 :: s232 :: s233 :: s234 :: s235 :: s236 :: s237 :: s238 :: s239 :: s240 :: s241 :: s242 :: s243 :: s244 :: s245 :: s246 :: s247 :: s248 :: s249 :: s250 :: s251 :: s252 :: s253 :: s254 :: s255 :: s256 :: s257 :: s258 :: s259 :: s260 :: s261 :: s262 :: s263 :: s264 :: s265 :: s266 :: s267 :: s268 :: s269 :: s270 :: s271 :: s272 :: s273 :: s274 :: s275 :: s276 :: s277 :: s278 :: s279 :: s280 :: s281 :: s282 :: s283 :: s284 :: s285 :: s286 :: s287 :: s288 :: s289 :: s290 :: s291 :: s292 :: s293 :: s294 :: s295 :: s296 :: s297 :: s298 :: s299 :: s300 :: s301 :: s302 :: s303 :: s304 :: s305 :: s306 :: s307 :: s308 :: s309 :: s310 :: s311 :: s312 :: s313 :: s314 :: s315 :: s316 :: s317 :: s318 :: s319 :: s320 :: s321 :: s322 :: []),defers := dd } W1 := by
  have HQ := Lib.hid hQ
  clear hQ
  conv => arg 4; whnf
  refine wpIn_region_invG mixed (by kernel_rfl) (fun d_ a_ w' => a_ = { tmps := List.toArray (s0 :: s1 :: s2 :: s3 :: s4 :: s5 :: s6 :: .int .i64 ((E : Int)) :: .slice (some ⟨ba, oa, none⟩) n ch :: s9 :: s10 :: s11 :: s12 :: .int .i64 ((n : Int)) :: .int .i64 ((k : Int)) :: s15 :: s16 :: s17 :: s18 :: .int .i64 ((fl : Int)) :: s20 :: s21 :: s22 :: s23 :: s24 :: .int .i64 ((S : Int)) :: s26 :: .int .i64 (0) :: s28 :: .int .i64 (0) :: .pointer (some ⟨sp, 0, none⟩) :: .int .i64 (0) :: s32 :: s33 :: s34 :: s35 :: s36 :: s37 :: s38 :: s39 :: s40 :: s41 :: s42 :: s43 :: s44 :: s45 :: s46 :: s47 :: s48 :: s49 :: s50 :: s51 :: s52 :: s53 :: s54 :: s55 :: s56 :: s57 :: s58 :: s59 :: s60 :: s61 :: s62 :: s63 :: s64 :: s65 :: s66 :: s67 :: s68 :: s69 :: s70 :: s71 :: s72 :: s73 :: s74 :: s75 :: s76 :: s77 :: s78 :: s79 :: s80 :: s81 :: s82 :: s83 :: s84 :: s85 :: s86 :: s87 :: s88 :: s89 :: s90 :: s91 :: s92 :: s93 :: s94 :: s95 :: s96 :: s97 :: s98 :: s99 :: s100 :: s101 :: s102 :: s103 :: s104 :: s105 :: s106 :: s107 :: s108 :: s109 :: s110 :: s111 :: s112 :: s113 :: s114 :: s115 :: s116 :: s117 :: s118 :: s119 :: s120 :: s121 :: s122 :: s123 :: s124 :: s125 :: s126 :: s127 :: s128 :: s129 :: s130 :: s131 :: s132 :: s133 :: s134 :: s135 :: s136 :: s137 :: s138 :: s139 :: s140 :: s141 :: s142 :: s143 :: s144 :: s145 :: s146 :: s147 :: s148 :: s149 :: s150 :: s151 :: s152 :: s153 :: s154 :: s155 :: s156 :: s157 :: s158 :: s159 :: s160 :: s161 :: s162 :: s163 :: s164 :: s165 :: s166 :: s167 :: s168 :: s169 :: s170 :: s171 :: s172 :: s173 :: s174 :: s175 :: s176 :: s177 :: s178 :: s179 :: s180 :: s181 :: s182 :: s183 :: s184 :: s185 :: s186 :: s187 :: s188 :: s189 :: s190 :: s191 :: s192 :: s193 :: s194 :: s195 :: s196 :: s197 :: s198 :: s199 :: s200 :: s201 :: s202 :: s203 :: s204 :: s205 :: s206 :: s207 :: s208 :: s209 :: s210 :: s211 :: s212 :: pk (d_ 0) (.int .i64 (0)) s213 :: pk (d_ 1) (.bool false) s214 :: pk (d_ 2) (.bool false) s215 :: pk (d_ 3) (.int .i64 ((S : Int))) s216 :: pk (d_ 4) (.int .i64 ((E : Int))) s217 :: pk (d_ 5) (.int .i64 ((tE : Int))) s218 :: pk (d_ 6) (.int .i64 ((tE : Int) - 1)) s219 :: pk (d_ 7) (.int .i64 ((fl : Int))) s220 :: pk (d_ 8) (.int .i64 ((c : Int))) s221 :: pk (d_ 9) (.slice (some ⟨ba, oa, none⟩) n ch) s222 :: pk (d_ 10) (.int .i64 ((k : Int))) s223 :: pk (d_ 11) (.pointer (some ⟨ba, oa + k, none⟩)) s224 :: pk (d_ 12) (.int .i64 ((g : Int))) s225 :: pk (d_ 13) (.int .i64 ((tg : Int))) s226 :: pk (d_ 14) (.int .i64 ((S : Int))) s227 :: pk (d_ 15) (.bool false) s228 :: pk (d_ 16) (.bool false) s229 :: pk (d_ 17) (.bool false) s230 :: pk (d_ 18) (.int .i64 (0)) s231 :: pk (d_ 19) (.bool false) s232 :: pk (d_ 20) (.bool false) s233 :: pk (d_ 21) (.bool false) s234 :: pk (d_ 22) (.int .i64 (0)) s235 :: pk (d_ 23) (.bool false) s236 :: pk (d_ 24) (.bool false) s237 :: pk (d_ 25) (.bool false) s238 :: pk (d_ 26) (.pointer (some ⟨sp, 0, none⟩)) s239 :: pk (d_ 27) (.int .i64 (0)) s240 :: pk (d_ 28) (.bool false) s241 :: pk (d_ 29) (.bool false) s242 :: pk (d_ 30) (.bool false) s243 :: pk (d_ 31) (.pointer (some ⟨sp, 1, none⟩)) s244 :: pk (d_ 32) (.int .i64 (mn)) s245 :: pk (d_ 33) (.int .i64 ((E : Int))) s246 :: pk (d_ 34) (.int .i64 ((n : Int))) s247 :: pk (d_ 35) (.int .i64 ((E : Int) - (n : Int))) s248 :: pk (d_ 36) (.int .i64 (mn)) s249 :: pk (d_ 37) (.bool false) s250 :: pk (d_ 38) (.bool false) s251 :: s252 :: s253 :: s254 :: s255 :: s256 :: s257 :: s258 :: s259 :: s260 :: s261 :: s262 :: s263 :: s264 :: s265 :: s266 :: s267 :: s268 :: s269 :: s270 :: s271 :: s272 :: s273 :: s274 :: s275 :: s276 :: s277 :: s278 :: s279 :: s280 :: s281 :: s282 :: s283 :: s284 :: s285 :: s286 :: s287 :: s288 :: s289 :: s290 :: s291 :: s292 :: s293 :: s294 :: s295 :: s296 :: s297 :: s298 :: s299 :: s300 :: s301 :: s302 :: s303 :: s304 :: s305 :: s306 :: s307 :: s308 :: s309 :: s310 :: s311 :: s312 :: s313 :: s314 :: s315 :: s316 :: s317 :: s318 :: s319 :: s320 :: s321 :: s322 :: []),defers := dd } ∧ P0 w') ?_ ?_ ?_
  · exact ⟨rfl, h0⟩
  · refine ⟨?_,?_,?_,?_,?_,?_,?_,?_,?_,?_,?_,?_,?_,?_,?_,?_,?_,?_,?_,?_,?_,?_,?_,?_,?_,?_,?_,?_,?_,?_,?_,?_,?_,?_,?_,?_,?_,?_,?_, trivial⟩
    all_goals
      rintro d_ a_ w1 K hd_ hdep ⟨rfl, F⟩ HK
      simp [Region.binds] at hdep
    · have HF := Lib.hid F
      clear F hdep
      go_simp
      refine HK.out _ _ ⟨?_, HF.out⟩
      all_goals rfl
    · have q0 : d_ 0 = true := by simp [hdep]
      rw [pk_of q0]
      have HF := Lib.hid F
      clear F hdep
      go_simp
      refine HK.out _ _ ⟨?_, HF.out⟩
      rw [pk_of (show upd d_ 1 0 = true from q0)]
      all_goals rfl
    · have q1 : d_ 1 = true := by simp [hdep]
      rw [pk_of q1]
      have HF := Lib.hid F
      clear F hdep
      go_simp
      refine HK.out _ _ ⟨?_, HF.out⟩
      rw [pk_of (show upd d_ 2 1 = true from q1)]
      all_goals rfl
    · have q2 : d_ 2 = true := by simp [hdep]
      rw [pk_of q2]
      have HF := Lib.hid F
      clear F hdep
      go_simp
      refine HK.out _ _ ⟨?_, HF.out⟩
      rw [pk_of (show upd d_ 3 2 = true from q2)]
      all_goals rfl
    · have q2 : d_ 2 = true := by simp [hdep]
      rw [pk_of q2]
      have HF := Lib.hid F
      clear F hdep
      go_simp
      refine HK.out _ _ ⟨?_, HF.out⟩
      rw [pk_of (show upd d_ 4 2 = true from q2)]
      all_goals rfl
    · have q2 : d_ 2 = true := by simp [hdep]
      have q4 : d_ 4 = true := by simp [hdep]
      have h2 := htE
      have h3 := hE
      rw [pk_of q2, pk_of q4]
      have HF := Lib.hid F
      clear F hdep
      go_simp
      refine HK.out _ _ ⟨?_, HF.out⟩
      rw [pk_of (show upd d_ 5 2 = true from q2), pk_of (show upd d_ 5 4 = true from q4)]
      all_goals rfl
    · have q2 : d_ 2 = true := by simp [hdep]
      have q5 : d_ 5 = true := by simp [hdep]
      have h2 := hs1
      rw [pk_of q2, pk_of q5]
      have HF := Lib.hid F
      clear F hdep
      go_simp
      refine HK.out _ _ ⟨?_, HF.out⟩
      rw [pk_of (show upd d_ 6 2 = true from q2), pk_of (show upd d_ 6 5 = true from q5)]
      all_goals rfl
    · have q2 : d_ 2 = true := by simp [hdep]
      rw [pk_of q2]
      have HF := Lib.hid F
      clear F hdep
      go_simp
      refine HK.out _ _ ⟨?_, HF.out⟩
      rw [pk_of (show upd d_ 7 2 = true from q2)]
      all_goals rfl
    · have q2 : d_ 2 = true := by simp [hdep]
      have q6 : d_ 6 = true := by simp [hdep]
      have q7 : d_ 7 = true := by simp [hdep]
      have h2 := hx
      rw [pk_of q2, pk_of q6, pk_of q7]
      have HF := Lib.hid F
      clear F hdep
      go_simp
      refine HK.out _ _ ⟨?_, HF.out⟩
      rw [pk_of (show upd d_ 8 2 = true from q2), pk_of (show upd d_ 8 6 = true from q6), pk_of (show upd d_ 8 7 = true from q7)]
      all_goals rfl
    · have q2 : d_ 2 = true := by simp [hdep]
      rw [pk_of q2]
      have HF := Lib.hid F
      clear F hdep
      go_simp
      refine HK.out _ _ ⟨?_, HF.out⟩
      rw [pk_of (show upd d_ 9 2 = true from q2)]
      all_goals rfl
    · have q2 : d_ 2 = true := by simp [hdep]
      rw [pk_of q2]
      have HF := Lib.hid F
      clear F hdep
      go_simp
      refine HK.out _ _ ⟨?_, HF.out⟩
      rw [pk_of (show upd d_ 10 2 = true from q2)]
      all_goals rfl
    · have q2 : d_ 2 = true := by simp [hdep]
      have q9 : d_ 9 = true := by simp [hdep]
      have q10 : d_ 10 = true := by simp [hdep]
      have h2 := hk
      have h3 := hk0
      rw [pk_of q2, pk_of q9, pk_of q10]
      have HF := Lib.hid F
      clear F hdep
      go_simp
      refine HK.out _ _ ⟨?_, HF.out⟩
      rw [pk_of (show upd d_ 11 2 = true from q2), pk_of (show upd d_ 11 9 = true from q9), pk_of (show upd d_ 11 10 = true from q10)]
      all_goals rfl
    · have q2 : d_ 2 = true := by simp [hdep]
      have q11 : d_ 11 = true := by simp [hdep]
      have kk := kl12.out w1 (F)
      rw [pk_of q2, pk_of q11]
      have HF := Lib.hid F
      clear F hdep
      go_simp
      refine HK.out _ _ ⟨?_, HF.out⟩
      rw [pk_of (show upd d_ 12 2 = true from q2), pk_of (show upd d_ 12 11 = true from q11)]
      all_goals rfl
    · have q2 : d_ 2 = true := by simp [hdep]
      have q12 : d_ 12 = true := by simp [hdep]
      have h2 := htg
      have h3 := hg
      rw [pk_of q2, pk_of q12]
      have HF := Lib.hid F
      clear F hdep
      go_simp
      refine HK.out _ _ ⟨?_, HF.out⟩
      rw [pk_of (show upd d_ 13 2 = true from q2), pk_of (show upd d_ 13 12 = true from q12)]
      all_goals rfl
    · have q2 : d_ 2 = true := by simp [hdep]
      have q8 : d_ 8 = true := by simp [hdep]
      have q13 : d_ 13 = true := by simp [hdep]
      have h2 := hS
      rw [pk_of q2, pk_of q8, pk_of q13]
      have HF := Lib.hid F
      clear F hdep
      go_simp
      refine HK.out _ _ ⟨?_, HF.out⟩
      rw [pk_of (show upd d_ 14 2 = true from q2), pk_of (show upd d_ 14 8 = true from q8), pk_of (show upd d_ 14 13 = true from q13)]
      all_goals rfl
    · have q2 : d_ 2 = true := by simp [hdep]
      have q3 : d_ 3 = true := by simp [hdep]
      have q14 : d_ 14 = true := by simp [hdep]
      rw [pk_of q2, pk_of q3, pk_of q14]
      have HF := Lib.hid F
      clear F hdep
      go_simp
      refine HK.out _ _ ⟨?_, HF.out⟩
      rw [pk_of (show upd d_ 15 2 = true from q2), pk_of (show upd d_ 15 3 = true from q3), pk_of (show upd d_ 15 14 = true from q14)]
      all_goals rfl
    · have q2 : d_ 2 = true := by simp [hdep]
      have q15 : d_ 15 = true := by simp [hdep]
      rw [pk_of q2, pk_of q15]
      have HF := Lib.hid F
      clear F hdep
      go_simp
      refine HK.out _ _ ⟨?_, HF.out⟩
      rw [pk_of (show upd d_ 16 2 = true from q2), pk_of (show upd d_ 16 15 = true from q15)]
      all_goals rfl
    · have q16 : d_ 16 = true := by simp [hdep]
      rw [pk_of q16]
      have HF := Lib.hid F
      clear F hdep
      go_simp
      refine HK.out _ _ ⟨?_, HF.out⟩
      rw [pk_of (show upd d_ 17 16 = true from q16)]
      all_goals rfl
    · have q17 : d_ 17 = true := by simp [hdep]
      rw [pk_of q17]
      have HF := Lib.hid F
      clear F hdep
      go_simp
      refine HK.out _ _ ⟨?_, HF.out⟩
      rw [pk_of (show upd d_ 18 17 = true from q17)]
      all_goals rfl
    · have q17 : d_ 17 = true := by simp [hdep]
      have q18 : d_ 18 = true := by simp [hdep]
      rw [pk_of q17, pk_of q18]
      have HF := Lib.hid F
      clear F hdep
      go_simp
      refine HK.out _ _ ⟨?_, HF.out⟩
      rw [pk_of (show upd d_ 19 17 = true from q17), pk_of (show upd d_ 19 18 = true from q18)]
      all_goals rfl
    · have q17 : d_ 17 = true := by simp [hdep]
      have q19 : d_ 19 = true := by simp [hdep]
      rw [pk_of q17, pk_of q19]
      have HF := Lib.hid F
      clear F hdep
      go_simp
      refine HK.out _ _ ⟨?_, HF.out⟩
      rw [pk_of (show upd d_ 20 17 = true from q17), pk_of (show upd d_ 20 19 = true from q19)]
      all_goals rfl
    · have q20 : d_ 20 = true := by simp [hdep]
      rw [pk_of q20]
      have HF := Lib.hid F
      clear F hdep
      go_simp
      refine HK.out _ _ ⟨?_, HF.out⟩
      rw [pk_of (show upd d_ 21 20 = true from q20)]
      all_goals rfl
    · have q21 : d_ 21 = true := by simp [hdep]
      rw [pk_of q21]
      have HF := Lib.hid F
      clear F hdep
      go_simp
      refine HK.out _ _ ⟨?_, HF.out⟩
      rw [pk_of (show upd d_ 22 21 = true from q21)]
      all_goals rfl
    · have q21 : d_ 21 = true := by simp [hdep]
      have q22 : d_ 22 = true := by simp [hdep]
      rw [pk_of q21, pk_of q22]
      have HF := Lib.hid F
      clear F hdep
      go_simp
      refine HK.out _ _ ⟨?_, HF.out⟩
      rw [pk_of (show upd d_ 23 21 = true from q21), pk_of (show upd d_ 23 22 = true from q22)]
      all_goals rfl
    · have q21 : d_ 21 = true := by simp [hdep]
      have q23 : d_ 23 = true := by simp [hdep]
      rw [pk_of q21, pk_of q23]
      have HF := Lib.hid F
      clear F hdep
      go_simp
      refine HK.out _ _ ⟨?_, HF.out⟩
      rw [pk_of (show upd d_ 24 21 = true from q21), pk_of (show upd d_ 24 23 = true from q23)]
      all_goals rfl
    · have q24 : d_ 24 = true := by simp [hdep]
      rw [pk_of q24]
      have HF := Lib.hid F
      clear F hdep
      go_simp
      refine HK.out _ _ ⟨?_, HF.out⟩
      rw [pk_of (show upd d_ 25 24 = true from q24)]
      all_goals rfl
    · have q25 : d_ 25 = true := by simp [hdep]
      rw [pk_of q25]
      have HF := Lib.hid F
      clear F hdep
      go_simp
      refine HK.out _ _ ⟨?_, HF.out⟩
      rw [pk_of (show upd d_ 26 25 = true from q25)]
      all_goals rfl
    · have q25 : d_ 25 = true := by simp [hdep]
      have q26 : d_ 26 = true := by simp [hdep]
      have kk := kl27.out w1 (F)
      rw [pk_of q25, pk_of q26]
      have HF := Lib.hid F
      clear F hdep
      go_simp
      refine HK.out _ _ ⟨?_, HF.out⟩
      rw [pk_of (show upd d_ 27 25 = true from q25), pk_of (show upd d_ 27 26 = true from q26)]
      all_goals rfl
    · have q25 : d_ 25 = true := by simp [hdep]
      have q27 : d_ 27 = true := by simp [hdep]
      rw [pk_of q25, pk_of q27]
      have HF := Lib.hid F
      clear F hdep
      go_simp
      refine HK.out _ _ ⟨?_, HF.out⟩
      rw [pk_of (show upd d_ 28 25 = true from q25), pk_of (show upd d_ 28 27 = true from q27)]
      all_goals rfl
    · have q25 : d_ 25 = true := by simp [hdep]
      have q28 : d_ 28 = true := by simp [hdep]
      rw [pk_of q25, pk_of q28]
      have HF := Lib.hid F
      clear F hdep
      go_simp
      refine HK.out _ _ ⟨?_, HF.out⟩
      rw [pk_of (show upd d_ 29 25 = true from q25), pk_of (show upd d_ 29 28 = true from q28)]
      all_goals rfl
    · have q29 : d_ 29 = true := by simp [hdep]
      rw [pk_of q29]
      have HF := Lib.hid F
      clear F hdep
      go_simp
      refine HK.out _ _ ⟨?_, HF.out⟩
      rw [pk_of (show upd d_ 30 29 = true from q29)]
      all_goals rfl
    · have q30 : d_ 30 = true := by simp [hdep]
      rw [pk_of q30]
      have HF := Lib.hid F
      clear F hdep
      go_simp
      refine HK.out _ _ ⟨?_, HF.out⟩
      rw [pk_of (show upd d_ 31 30 = true from q30)]
      all_goals rfl
    · have q30 : d_ 30 = true := by simp [hdep]
      have q31 : d_ 31 = true := by simp [hdep]
      have kk := kl32.out w1 (F)
      rw [pk_of q30, pk_of q31]
      have HF := Lib.hid F
      clear F hdep
      go_simp
      refine HK.out _ _ ⟨?_, HF.out⟩
      rw [pk_of (show upd d_ 32 30 = true from q30), pk_of (show upd d_ 32 31 = true from q31)]
      all_goals rfl
    · have q30 : d_ 30 = true := by simp [hdep]
      rw [pk_of q30]
      have HF := Lib.hid F
      clear F hdep
      go_simp
      refine HK.out _ _ ⟨?_, HF.out⟩
      rw [pk_of (show upd d_ 33 30 = true from q30)]
      all_goals rfl
    · have q30 : d_ 30 = true := by simp [hdep]
      rw [pk_of q30]
      have HF := Lib.hid F
      clear F hdep
      go_simp
      refine HK.out _ _ ⟨?_, HF.out⟩
      rw [pk_of (show upd d_ 34 30 = true from q30)]
      all_goals rfl
    · have q30 : d_ 30 = true := by simp [hdep]
      have q33 : d_ 33 = true := by simp [hdep]
      have q34 : d_ 34 = true := by simp [hdep]
      have h2 := hs2
      rw [pk_of q30, pk_of q33, pk_of q34]
      have HF := Lib.hid F
      clear F hdep
      go_simp
      refine HK.out _ _ ⟨?_, HF.out⟩
      rw [pk_of (show upd d_ 35 30 = true from q30), pk_of (show upd d_ 35 33 = true from q33), pk_of (show upd d_ 35 34 = true from q34)]
      all_goals rfl
    · have q30 : d_ 30 = true := by simp [hdep]
      have q35 : d_ 35 = true := by simp [hdep]
      have h2 := hmn
      rw [pk_of q30, pk_of q35]
      have HF := Lib.hid F
      clear F hdep
      go_simp
      refine HK.out _ _ ⟨?_, HF.out⟩
      rw [pk_of (show upd d_ 36 30 = true from q30), pk_of (show upd d_ 36 35 = true from q35)]
      all_goals rfl
    · have q30 : d_ 30 = true := by simp [hdep]
      have q32 : d_ 32 = true := by simp [hdep]
      have q36 : d_ 36 = true := by simp [hdep]
      rw [pk_of q30, pk_of q32, pk_of q36]
      have HF := Lib.hid F
      clear F hdep
      go_simp
      refine HK.out _ _ ⟨?_, HF.out⟩
      rw [pk_of (show upd d_ 37 30 = true from q30), pk_of (show upd d_ 37 32 = true from q32), pk_of (show upd d_ 37 36 = true from q36)]
      all_goals rfl
    · have q30 : d_ 30 = true := by simp [hdep]
      have q37 : d_ 37 = true := by simp [hdep]
      rw [pk_of q30, pk_of q37]
      have HF := Lib.hid F
      clear F hdep
      go_simp
      refine HK.out _ _ ⟨?_, HF.out⟩
      rw [pk_of (show upd d_ 38 30 = true from q30), pk_of (show upd d_ 38 37 = true from q37)]
      all_goals rfl
  · rintro d_ a_ w1 hall ⟨rfl, F⟩
    have hall' : ∀ k, k < 39 → d_ k = true := hall
    have HF := Lib.hid F
    clear F
    rw [pk_of (hall' 0 (by decide)), pk_of (hall' 1 (by decide)), pk_of (hall' 2 (by decide)), pk_of (hall' 3 (by decide)), pk_of (hall' 4 (by decide)), pk_of (hall' 5 (by decide)), pk_of (hall' 6 (by decide)), pk_of (hall' 7 (by decide)), pk_of (hall' 8 (by decide)), pk_of (hall' 9 (by decide)), pk_of (hall' 10 (by decide)), pk_of (hall' 11 (by decide)), pk_of (hall' 12 (by decide)), pk_of (hall' 13 (by decide)), pk_of (hall' 14 (by decide)), pk_of (hall' 15 (by decide)), pk_of (hall' 16 (by decide)), pk_of (hall' 17 (by decide)), pk_of (hall' 18 (by decide)), pk_of (hall' 19 (by decide)), pk_of (hall' 20 (by decide)), pk_of (hall' 21 (by decide)), pk_of (hall' 22 (by decide)), pk_of (hall' 23 (by decide)), pk_of (hall' 24 (by decide)), pk_of (hall' 25 (by decide)), pk_of (hall' 26 (by decide)), pk_of (hall' 27 (by decide)), pk_of (hall' 28 (by decide)), pk_of (hall' 29 (by decide)), pk_of (hall' 30 (by decide)), pk_of (hall' 31 (by decide)), pk_of (hall' 32 (by decide)), pk_of (hall' 33 (by decide)), pk_of (hall' 34 (by decide)), pk_of (hall' 35 (by decide)), pk_of (hall' 36 (by decide)), pk_of (hall' 37 (by decide)), pk_of (hall' 38 (by decide))]
    exact HQ.out w1 HF.out
end Go.Proofs.YtbnhngfegnhaiaaGreatDoor
namespace Go.Proofs.YtbnhngfegnhaiaaGreatDoor
open Go.RowKit
set_option linter.unusedVariables false
set_option linter.unusedSimpArgs false
noncomputable def tbx29C : Code := (Tryz.f3.body.bind (fromRegion 29)).getD .skip
set_option maxRecDepth 100000 in
set_option maxHeartbeats 32000000 in
theorem tbx29 {m : Mx} {ab ac : Option Addr} {cb cc E n k p B fl : Nat} {l : List Nat} {ba oa ch b3 b16 bl : Nat} {w0 V : World} (hS : TbxT m ab cb ac cc E n k p B l (some ⟨ba, oa, none⟩) ch b3 b16 bl w0 V)
    (hfl : fl = fullN l l.length) {s0 s1 s2 s4 s5 s6 s9 s10 s12 s15 s17 s18 s20 s21 s22 s23 s24 s25 s26 s27 s28 s29 s30 s31 s32 s33 s34 s35 s36 s37 s38 s39 s40 s41 s42 s43 s44 s45 s46 s47 s48 s49 s50 s51 s52 s53 s54 s55 s56 s57 s58 s59 s60 s61 s62 s63 s64 s65 s66 s67 s68 s69 s70 s71 s72 s73 s74 s75 s76 s77 s78 s79 s80 s81 s82 s83 s84 s85 s86 s87 s88 s89 s90 s91 s92 s93 s94 s95 s96 s97 s98 s99 s100 s101 s102 s103 s104 s105 s106 s107 s108 s109 s110 s111 s112 s113 s114 s115 s116 s117 s118 s119 s120 s121 s122 s123 s124 s125 s126 s127 s128 s129 s130 s131 s132 s133 s134 s135 s136 s137 s138 s139 s140 s141 s142 s143 s144 s145 s146 s147 s148 s149 s150 s151 s152 s153 s154 s155 s156 s157 s158 s159 s160 s161 s162 s163 s164 s165 s166 s167 s168 s169 s170 s171 s172 s173 s174 s175 s176 s177 s178 s179 s180 s181 s182 s183 s184 s185 s186 s187 s188 s189 s190 s191 s192 s193 s194 s195 s196 s197 s198 s199 s200 s201 s202 s203 s204 s205 s206 s207 s208 s209 s210 s211 s212 s213 s214 s215 s216 s217 s218 s219 s220 s221 s222 s223 s224 s225 s226 s227 s228 s229 s230 s231 s232 s233 s234 s235 s236 s237 s238 s239 s240 s241 s242 s243 s244 s245 s246 s247 s248 s249 s250 s251 s252 s253 s254 s255 s256 s257 s258 s259 s260 s261 s262 s263 s264 s265 s266 s267 s268 s269 s270 s271 s272 s273 s274 s275 s276 s277 s278 s279 s280 s281 s282 s283 s284 s285 s286 s287 s288 s289 s290 s291 s292 s293 s294 s295 s296 s297 s298 s299 s300 s301 s302 s303 s304 s305 s306 s307 s308 s309 s310 s311 s312 s313 s314 s315 s316 s317 s318 s319 s320 s321 s322 : Value} :
    Code.wp Tryz.prog tbx29C (bodyPost Tryz.prog Tryz.f3 fun e w' => e = .returned (.bool true) ∧ Below w0.heap.size w0 w') { tmps := List.toArray (s0 :: s1 :: s2 :: .pointer (some ⟨b3, 0, none⟩) :: s4 :: s5 :: s6 :: .int .i64 ((E : Int)) :: .slice (some ⟨ba, oa, none⟩) n ch :: s9 :: s10 :: .int .i64 ((B : Int)) :: s12 :: .int .i64 ((n : Int)) :: .int .i64 ((k : Int)) :: s15 :: .pointer (some ⟨b16, 0, none⟩) :: s17 :: s18 :: .int .i64 ((fl : Int)) :: s20 :: s21 :: s22 :: s23 :: s24 :: s25 :: s26 :: s27 :: s28 :: s29 :: s30 :: s31 :: s32 :: s33 :: s34 :: s35 :: s36 :: s37 :: s38 :: s39 :: s40 :: s41 :: s42 :: s43 :: s44 :: s45 :: s46 :: s47 :: s48 :: s49 :: s50 :: s51 :: s52 :: s53 :: s54 :: s55 :: s56 :: s57 :: s58 :: s59 :: s60 :: s61 :: s62 :: s63 :: s64 :: s65 :: s66 :: s67 :: s68 :: s69 :: s70 :: s71 :: s72 :: s73 :: s74 :: s75 :: s76 :: s77 :: s78 :: s79 :: s80 :: s81 :: s82 :: s83 :: s84 :: s85 :: s86 :: s87 :: s88 :: s89 :: s90 :: s91 :: s92 :: s93 :: s94 :: s95 :: s96 :: s97 :: s98 :: s99 :: s100 :: s101 :: s102 :: s103 :: s104 :: s105 :: s106 :: s107 :: s108 :: s109 :: s110 :: s111 :: s112 :: s113 :: s114 :: s115 :: s116 :: s117 :: s118 :: s119 :: s120 :: s121 :: s122 :: s123 :: s124 :: s125 :: s126 :: s127 :: s128 :: s129 :: s130 :: s131 :: s132 :: s133 :: s134 :: s135 :: s136 :: s137 :: s138 :: s139 :: s140 :: s141 :: s142 :: s143 :: s144 :: s145 :: s146 :: s147 :: s148 :: s149 :: s150 :: s151 :: s152 :: s153 :: s154 :: s155 :: s156 :: s157 :: s158 :: s159 :: s160 :: s161 :: s162 :: s163 :: s164 :: s165 :: s166 :: s167 :: s168 :: s169 :: s170 :: s171 :: s172 :: s173 :: s174 :: s175 :: s176 :: s177 :: s178 :: s179 :: s180 :: s181 :: s182 :: s183 :: s184 :: s185 :: s186 :: s187 :: s188 :: s189 :: s190 :: s191 :: s192 :: s193 :: s194 :: s195 :: s196 :: s197 :: s198 :: s199 :: s200 :: s201 :: s202 :: s203 :: s204 :: s205 :: s206 :: s207 :: s208 :: s209 :: s210 :: s211 :: s212 :: s213 :: s214 :: s215 :: s216 :: s217 :: s218 :: s219 :: s220 :: s221 :: s222 :: s223 :: s224 :: s225 :: s226 :: s227 :: s228 :: s229 :: s230 :: s231 :: s232 :: s233 :: s234 :: s235 :: s236 :: s237 :: s238 :: s239 :: s240 :: s241 :: s242 :: s243 :: s244 :: s245 :: s246 :: s247 :: s248 :: s249 :: s250 :: s251 :: s252 :: s253 :: s254 :: s255 :: s256 :: s257 :: s258 :: s259 :: s260 :: s261 :: s262 :: s263 :: s264 :: s265 :: s266 :: s267 :: s268 :: s269 :: s270 :: s271 :: s272 :: s273 :: s274 :: s275 :: s276 :: s277 :: s278 :: s279 :: s280 :: s281 :: s282 :: s283 :: s284 :: s285 :: s286 :: s287 :: s288 :: s289 :: s290 :: s291 :: s292 :: s293 :: s294 :: s295 :: s296 :: s297 :: s298 :: s299 :: s300 :: s301 :: s302 :: s303 :: s304 :: s305 :: s306 :: s307 :: s308 :: s309 :: s310 :: s311 :: s312 :: s313 :: s314 :: s315 :: s316 :: s317 :: s318 :: s319 :: s320 :: s321 :: s322 :: []), defers := [] } V := by
  obtain ⟨k1, k2, k3, k4⟩ := hS.k5
  obtain ⟨S, hW, hSS⟩ := box_card hS.bo
  obtain ⟨c, hc1, hc2, hc3⟩ := box_S hS.bo hSS
  have hgk := box_gn hS.bo (j := k) (by rw [hS.ln]; exact k1)
  have htg := two_wrap_s (n := gn l k) (by omega)
  have htE := two_wrap_s (n := E) (by omega)
  have hor := or_nat c (2 ^ gn l k) hc2 (two_ltH (by omega))
  rw [hc3] at hor
  have hEp : 1 ≤ 2 ^ E := Nat.two_pow_pos E
  have hEq : 2 ^ E ≤ 2 ^ 6 := Nat.pow_le_pow_right (by omega) k3
  rw [← hfl, Int.natCast_sub hEp] at hc1
  have hle := box_len hS.bo
  rw [homes_len, hS.ln] at hle
  obtain ⟨ba', oa', ha', hcell⟩ := hS.gv.hi k (by rw [show (boxC E (homesL l) k p).homes = homesL l from rfl, homes_len, hS.ln]; exact k1)
  obtain ⟨rfl, rfl⟩ : ba = ba' ∧ oa = oa' := by simpa using ha'
  rw [show gi (boxC E (homesL l) k p).homes k = (gn l k : Int) from homes_at (by rw [hS.ln]; exact k1)] at hcell
  have HCL := Lib.hid hcell
  have HS := Lib.hid hS
  have HW := Lib.hid hW
  have HQ := Lib.hid (And.intro hSS hfl)
  have HK := Lib.hid (And.intro k1 (And.intro k2 (And.intro k3 (And.intro k4 (And.intro hgk hle)))))
  have HN := Lib.hid (And.intro htg (And.intro htE (And.intro hor (And.intro hc1 (And.intro hEp hEq)))))
  clear hS hSS hfl hW k1 k2 k3 k4 hgk htg htE hor hc1 hc2 hc3 hEp hEq hle ha' hcell
  conv => arg 2; whnf
  refine wp_seq_hid ?_
  intro K29 HK29
  have m0 : V.cell? ⟨b16, 0, none⟩ = some (.int .i64 E) := by rw [cell_of_heap HS.out.hx]; rfl
  have m1 : V.cell? ⟨b16, 1, none⟩ = some (.slice (some ⟨ba, oa, none⟩) n ch) := by rw [cell_of_heap HS.out.hx]; rfl
  have m2 : V.cell? ⟨b16, 2, none⟩ = some (.int .i64 1) := by rw [cell_of_heap HS.out.hx]; rfl
  have m3 : V.cell? ⟨b16, 3, none⟩ = some (.slice (some ⟨bl, 0, none⟩) 2 2) := by rw [cell_of_heap HS.out.hx]; rfl
  have hnl : (homesL l).length = n := by rw [homes_len, HS.out.ln]
  rw [← hnl] at m1
  have HSL := Lib.hid (where_any (ch := ch) HS.out.gv (k : Int))
  clear hnl
  go_wp2_with fail
  refine HSL.out.mono ?_
  rintro en wa ⟨rfl, hba⟩
  rw [HW.out]
  have HA := Lib.hid (And.intro (HS.out.mono hba) ((cell_stays hba HCL.out)))
  clear hba m0 m1 m2 m3 HSL HCL HS
  go_wp2_with fail
  refine HK29.out _ _ ?_
  clear HK29 K29
  refine wp_seq_hid ?_
  intro K30 HK30
  have m0 : wa.cell? ⟨b3, 0, none⟩ = some (.slice ab m.boxes.length cb) := by rw [cell_of_heap HA.out.1.bx]; rfl
  have m1 : wa.cell? ⟨b3, 1, none⟩ = some (.slice ac m.cards.length cc) := by rw [cell_of_heap HA.out.1.bx]; rfl
  have HSH := Lib.hid (fitsC11 (cb := cb) (cc := cc) (c := k) HA.out.1.ok HA.out.1.h1 HA.out.1.h2 (by rw [← HA.out.1.nE]; exact HK.out.1))
  go_wp2_with fail
  refine HSH.out.mono ?_
  rintro en wb ⟨rfl, hbb⟩
  have HB := Lib.hid (And.intro (HA.out.1.mono hbb) (cell_stays hbb HA.out.2))
  clear hbb m0 m1 HSH HA
  go_wp2_with fail
  refine HK30.out _ _ ?_
  clear HK30 K30
  refine wp_seq_hid ?_
  intro K31 HK31
  have m0 : wb.cell? ⟨b16, 0, none⟩ = some (.int .i64 E) := by rw [cell_of_heap HB.out.1.hx]; rfl
  have m1 : wb.cell? ⟨b16, 1, none⟩ = some (.slice (some ⟨ba, oa, none⟩) n ch) := by rw [cell_of_heap HB.out.1.hx]; rfl
  have m2 : wb.cell? ⟨b16, 2, none⟩ = some (.int .i64 1) := by rw [cell_of_heap HB.out.1.hx]; rfl
  have m3 : wb.cell? ⟨b16, 3, none⟩ = some (.slice (some ⟨bl, 0, none⟩) 2 2) := by rw [cell_of_heap HB.out.1.hx]; rfl
  have hnl : (homesL l).length = n := by rw [homes_len, HB.out.1.ln]
  rw [← hnl] at m1
  have HSL := Lib.hid (misplaced_any (ch := ch) HB.out.1.gv)
  clear hnl
  go_wp2_with fail
  refine HSL.out.mono ?_
  rintro en wc ⟨rfl, hbc⟩
  rw [box_misplaced HB.out.1.bo, homes_len, HB.out.1.ln]
  have HC := Lib.hid (And.intro (HB.out.1.mono hbc) (cell_stays hbc HB.out.2))
  clear hbc m0 m1 m2 m3 HSL HB
  obtain ⟨mn, hmn⟩ : ∃ mn, min (1 : Int) ((E : Int) - (n : Int)) = mn := ⟨_, rfl⟩
  rw [hmn]
  have HMN := Lib.hid hmn
  clear hmn
  have HAL := Lib.hid (And.intro (World.alloc_heap_new wc (.cells #[.int .i64 0, .int .i64 mn] 47)) (alloc_below wc (.cells #[.int .i64 0, .int .i64 mn] 47)))
  go_wp2_with fail
  refine HK31.out _ _ ?_
  clear HK31 K31
  revert HAL
  generalize wc.alloc (.cells #[.int .i64 0, .int .i64 mn] 47) = wd
  generalize hsp : wc.heap.size = sp
  intro HAL
  have hbd : Below wc.heap.size wc wd := by rw [hsp]; exact HAL.out.2
  have HD := Lib.hid (And.intro (HC.out.1.mono hbd) (And.intro (cell_stays hbd HC.out.2) HAL.out.1))
  clear hsp hbd HAL HC
  generalize hF : gn m.fits k = F
  refine wp_seq_hid ?_
  intro K32 HK32
  refine wp_seq_hid ?_
  intro K32b HK32b
  refine wpIn_wide.1 (gua32 (S := S) (E := E) (tE := 2 ^ E) (fl := fl) (c := c) (ba := ba) (oa := oa) (n := n) (ch := ch) (k := k) (g := gn l k) (tg := 2 ^ gn l k) (sp := sp) (mn := mn) (P0 := fun v => v = wd.drew) HN.out.2.1 (by have := HK.out.2.2.1; omega) HN.out.2.2.2.1 (by have := HK.out.1; omega) (by omega) HN.out.1 (by have := HK.out.2.2.2.2.1; have := HK.out.2.2.1; omega) HN.out.2.2.1 (IntWalk.i64_in _ (by have := HN.out.2.2.2.2.1; have := HN.out.2.2.2.2.2; omega)) (IntWalk.i64_in _ (by have := HK.out.2.2.2.2.2; have := HK.out.2.2.1; omega)) HMN.out rfl ?l12 ?l27 ?l32 ?hQ)
  case l12 => rintro v rfl; exact HD.out.2.1
  case l27 => rintro v rfl; rw [show (wd.drew).cell? _ = _ from cell_of_heap HD.out.2.2]; rfl
  case l32 => rintro v rfl; rw [show (wd.drew).cell? _ = _ from cell_of_heap HD.out.2.2]; rfl
  intro we hwe
  have HE : Hid (TbxT m ab cb ac cc E n k p B l (some ⟨ba, oa, none⟩) ch b3 b16 bl w0 we) := by rw [hwe]; exact HD.out.1.mono (Below.refl _ _).drew
  clear hwe HD
  refine HK32b.out _ _ ?_
  clear HK32b K32b
  go_wp2_with fail
  refine HK32.out _ _ ?_
  clear HK32 K32
  exact tbx34 HE.out HQ.out.1 HQ.out.2 hF.symm
end Go.Proofs.YtbnhngfegnhaiaaGreatDoor
namespace Go.Proofs.YtbnhngfegnhaiaaGreatDoor
open Go.RowKit
set_option linter.unusedVariables false
set_option linter.unusedSimpArgs false
noncomputable def tbx14C : Code := (Tryz.f3.body.bind (fromRegion 14)).getD .skip
/-- What is known at region 14. -/
structure TbxS (m : Mx) (ab : Option Addr) (cb : Nat) (ac : Option Addr) (cc E n k p B : Nat) (l : List Nat) (ah : Option Addr) (b3 : Nat) (w0 V : World) : Prop where
  le : Below w0.heap.size w0 V
  bx : V.heap[b3]? = some (.cells (m.arr ab cb ac cc) 25 (0, 0))
  h1 : IsBxs V ab m.boxes
  h2 : IsTns V ac m.cards
  hi : IsInts V ah (homesL l)
  ok : m.Ok
  eE : E = m.ents.length
  nE : n = m.cards.length
  ln : l.length = n
  way : l ∈ waysL E m.fits 0
  bo : BoxOk E (homesL l) k p
  bE : B = bitsN (fun e => decide (lostN m.ents.length m.fits e < countL m.ents.length m.fits 0)) m.ents.length
set_option maxRecDepth 100000 in
set_option maxHeartbeats 32000000 in
theorem tbx14 {m : Mx} {ab ac : Option Addr} {cb cc E n k p B : Nat} {l : List Nat} {ba oa ch b3 : Nat} {w0 V : World} (hS : TbxS m ab cb ac cc E n k p B l (some ⟨ba, oa, none⟩) b3 w0 V) {s1 s2 s4 s5 s10 s16 s17 s18 s19 s20 s21 s22 s23 s24 s25 s26 s27 s28 s29 s30 s31 s32 s33 s34 s35 s36 s37 s38 s39 s40 s41 s42 s43 s44 s45 s46 s47 s48 s49 s50 s51 s52 s53 s54 s55 s56 s57 s58 s59 s60 s61 s62 s63 s64 s65 s66 s67 s68 s69 s70 s71 s72 s73 s74 s75 s76 s77 s78 s79 s80 s81 s82 s83 s84 s85 s86 s87 s88 s89 s90 s91 s92 s93 s94 s95 s96 s97 s98 s99 s100 s101 s102 s103 s104 s105 s106 s107 s108 s109 s110 s111 s112 s113 s114 s115 s116 s117 s118 s119 s120 s121 s122 s123 s124 s125 s126 s127 s128 s129 s130 s131 s132 s133 s134 s135 s136 s137 s138 s139 s140 s141 s142 s143 s144 s145 s146 s147 s148 s149 s150 s151 s152 s153 s154 s155 s156 s157 s158 s159 s160 s161 s162 s163 s164 s165 s166 s167 s168 s169 s170 s171 s172 s173 s174 s175 s176 s177 s178 s179 s180 s181 s182 s183 s184 s185 s186 s187 s188 s189 s190 s191 s192 s193 s194 s195 s196 s197 s198 s199 s200 s201 s202 s203 s204 s205 s206 s207 s208 s209 s210 s211 s212 s213 s214 s215 s216 s217 s218 s219 s220 s221 s222 s223 s224 s225 s226 s227 s228 s229 s230 s231 s232 s233 s234 s235 s236 s237 s238 s239 s240 s241 s242 s243 s244 s245 s246 s247 s248 s249 s250 s251 s252 s253 s254 s255 s256 s257 s258 s259 s260 s261 s262 s263 s264 s265 s266 s267 s268 s269 s270 s271 s272 s273 s274 s275 s276 s277 s278 s279 s280 s281 s282 s283 s284 s285 s286 s287 s288 s289 s290 s291 s292 s293 s294 s295 s296 s297 s298 s299 s300 s301 s302 s303 s304 s305 s306 s307 s308 s309 s310 s311 s312 s313 s314 s315 s316 s317 s318 s319 s320 s321 s322 : Value} :
    Code.wp Tryz.prog tbx14C (bodyPost Tryz.prog Tryz.f3 fun e w' => e = .returned (.bool true) ∧ Below w0.heap.size w0 w') { tmps := List.toArray (m.v ab cb ac cc :: s1 :: s2 :: .pointer (some ⟨b3, 0, none⟩) :: s4 :: s5 :: .bool false :: .int .i64 ((E : Int)) :: .slice (some ⟨ba, oa, none⟩) n ch :: .int .i64 (0) :: s10 :: .int .i64 ((B : Int)) :: .int .i64 (0) :: .int .i64 ((n : Int)) :: .int .i64 ((k : Int)) :: .int .i64 ((p : Int)) :: s16 :: s17 :: s18 :: s19 :: s20 :: s21 :: s22 :: s23 :: s24 :: s25 :: s26 :: s27 :: s28 :: s29 :: s30 :: s31 :: s32 :: s33 :: s34 :: s35 :: s36 :: s37 :: s38 :: s39 :: s40 :: s41 :: s42 :: s43 :: s44 :: s45 :: s46 :: s47 :: s48 :: s49 :: s50 :: s51 :: s52 :: s53 :: s54 :: s55 :: s56 :: s57 :: s58 :: s59 :: s60 :: s61 :: s62 :: s63 :: s64 :: s65 :: s66 :: s67 :: s68 :: s69 :: s70 :: s71 :: s72 :: s73 :: s74 :: s75 :: s76 :: s77 :: s78 :: s79 :: s80 :: s81 :: s82 :: s83 :: s84 :: s85 :: s86 :: s87 :: s88 :: s89 :: s90 :: s91 :: s92 :: s93 :: s94 :: s95 :: s96 :: s97 :: s98 :: s99 :: s100 :: s101 :: s102 :: s103 :: s104 :: s105 :: s106 :: s107 :: s108 :: s109 :: s110 :: s111 :: s112 :: s113 :: s114 :: s115 :: s116 :: s117 :: s118 :: s119 :: s120 :: s121 :: s122 :: s123 :: s124 :: s125 :: s126 :: s127 :: s128 :: s129 :: s130 :: s131 :: s132 :: s133 :: s134 :: s135 :: s136 :: s137 :: s138 :: s139 :: s140 :: s141 :: s142 :: s143 :: s144 :: s145 :: s146 :: s147 :: s148 :: s149 :: s150 :: s151 :: s152 :: s153 :: s154 :: s155 :: s156 :: s157 :: s158 :: s159 :: s160 :: s161 :: s162 :: s163 :: s164 :: s165 :: s166 :: s167 :: s168 :: s169 :: s170 :: s171 :: s172 :: s173 :: s174 :: s175 :: s176 :: s177 :: s178 :: s179 :: s180 :: s181 :: s182 :: s183 :: s184 :: s185 :: s186 :: s187 :: s188 :: s189 :: s190 :: s191 :: s192 :: s193 :: s194 :: s195 :: s196 :: s197 :: s198 :: s199 :: s200 :: s201 :: s202 :: s203 :: s204 :: s205 :: s206 :: s207 :: s208 :: s209 :: s210 :: s211 :: s212 :: s213 :: s214 :: s215 :: s216 :: s217 :: s218 :: s219 :: s220 :: s221 :: s222 :: s223 :: s224 :: s225 :: s226 :: s227 :: s228 :: s229 :: s230 :: s231 :: s232 :: s233 :: s234 :: s235 :: s236 :: s237 :: s238 :: s239 :: s240 :: s241 :: s242 :: s243 :: s244 :: s245 :: s246 :: s247 :: s248 :: s249 :: s250 :: s251 :: s252 :: s253 :: s254 :: s255 :: s256 :: s257 :: s258 :: s259 :: s260 :: s261 :: s262 :: s263 :: s264 :: s265 :: s266 :: s267 :: s268 :: s269 :: s270 :: s271 :: s272 :: s273 :: s274 :: s275 :: s276 :: s277 :: s278 :: s279 :: s280 :: s281 :: s282 :: s283 :: s284 :: s285 :: s286 :: s287 :: s288 :: s289 :: s290 :: s291 :: s292 :: s293 :: s294 :: s295 :: s296 :: s297 :: s298 :: s299 :: s300 :: s301 :: s302 :: s303 :: s304 :: s305 :: s306 :: s307 :: s308 :: s309 :: s310 :: s311 :: s312 :: s313 :: s314 :: s315 :: s316 :: s317 :: s318 :: s319 :: s320 :: s321 :: s322 :: []), defers := [] } V := by
  obtain ⟨x0, x1, x2⟩ := alloc2 V #[.int .i64 0, .int .i64 k, .int .i64 p, .int .i64 0, .int .i64 1, .int .i64 k, .int .i64 p, .int .i64 0] #[.int .i64 E, .slice (some ⟨ba, oa, none⟩) n ch, .int .i64 1, .slice (some ⟨V.heap.size, 0, none⟩) 2 2] 37 40
  have HX := Lib.hid (And.intro x0 (And.intro x1 x2))
  clear x0 x1 x2
  have HS := Lib.hid hS
  clear hS
  conv => arg 2; whnf
  refine wp_seq_hid ?_
  intro K14 HK14
  go_wp2_with fail
  refine HK14.out _ _ ?_
  clear HK14 K14
  revert HX
  generalize (V.alloc (.cells #[.int .i64 0, .int .i64 k, .int .i64 p, .int .i64 0, .int .i64 1, .int .i64 k, .int .i64 p, .int .i64 0] 37)).alloc (.cells #[.int .i64 E, .slice (some ⟨ba, oa, none⟩) n ch, .int .i64 1, .slice (some ⟨V.heap.size, 0, none⟩) 2 2] 40) = V1
  generalize hb16 : V.heap.size + 1 = b16
  generalize hbl : V.heap.size = bl
  intro HX
  have hbV : Below V.heap.size V V1 := by rw [hbl]; exact HX.out.2.2
  have HB1 := Lib.hid hbV
  clear hbV hb16 hbl
  have HG : Hid (Given V1 (boxC E (homesL l) k p) (some ⟨ba, oa, none⟩) ch (some ⟨bl, 0, none⟩) 2) := by
    refine ⟨HS.out.hi.mono HB1.out, ?_, ?_, show 2 ≤ 30 by decide, show 2 ≤ 2 by decide⟩
    · intro i hi
      have hi2 : i = 0 ∨ i = 1 := by have : i < 2 := hi; omega
      refine ⟨_, 0, rfl, ?_⟩
      rcases hi2 with rfl | rfl <;> exact ⟨by rw [cell_of_heap HX.out.1]; rfl, by rw [cell_of_heap HX.out.1]; rfl, by rw [cell_of_heap HX.out.1]; rfl, by rw [cell_of_heap HX.out.1]; rfl⟩
    · have := HS.out.bo.h5
      show (homesL l).length ≤ 16
      omega
  have m0 : V1.cell? ⟨b16, 0, none⟩ = some (.int .i64 E) := by rw [cell_of_heap HX.out.2.1]; rfl
  have m1 : V1.cell? ⟨b16, 1, none⟩ = some (.slice (some ⟨ba, oa, none⟩) n ch) := by rw [cell_of_heap HX.out.2.1]; rfl
  have m2 : V1.cell? ⟨b16, 2, none⟩ = some (.int .i64 1) := by rw [cell_of_heap HX.out.2.1]; rfl
  have m3 : V1.cell? ⟨b16, 3, none⟩ = some (.slice (some ⟨bl, 0, none⟩) 2 2) := by rw [cell_of_heap HX.out.2.1]; rfl
  have hnl : (homesL l).length = n := by rw [homes_len, HS.out.ln]
  have HCK := Lib.hid (check_any (ch := ch) HG.out)
  have HNL := Lib.hid hnl
  refine wp_seq_hid ?_
  intro K15 HK15
  refine wp_seq_hid ?_
  intro K15b HK15b
  go_wp2_with fail
  rw [← hnl]
  refine HCK.out.mono ?_
  rintro e V2 ⟨rfl, hb2⟩
  rw [hnl, box_check HS.out.bo]
  have HB2 := Lib.hid (And.intro hb2 (HB1.out.trans (hb2.mono HB1.out.size)))
  clear hb2 HCK hnl m0 m1 m2 m3
  go_wp2_with fail
  refine HK15b.out _ _ ?_
  clear HK15b K15b
  go_wp2_with fail
  refine HK15.out _ _ ?_
  clear HK15 K15
  refine wp_seq_hid ?_
  intro K18 HK18
  go_wp2_with fail
  refine HK18.out _ _ ?_
  clear HK18 K18
  have HT : Hid (TbxT m ab cb ac cc E n k p B l (some ⟨ba, oa, none⟩) ch b3 b16 bl w0 V2) :=
    ⟨HS.out.le.trans (HB2.out.2.mono HS.out.le.size), (HB2.out.2.block _ (heap_lt HS.out.bx)).trans HS.out.bx, HS.out.h1.mono HB2.out.2, HS.out.h2.mono HB2.out.2, (HB2.out.1.block _ (heap_lt HX.out.2.1)).trans HX.out.2.1, HG.out.mono HB2.out.1, HS.out.ok, HS.out.eE, HS.out.nE, HS.out.ln, HS.out.way, HS.out.bo, HS.out.bE⟩
  clear HB2 HG HX HB1 HS
  have HK := Lib.hid HT.out.k5
  have hE6 : (E : Int) ≤ 6 := by have := HK.out.2.2.1; omega
  have hn5 : (n : Int) ≤ 5 := by have := HK.out.2.1; omega
  refine wp_seq_hid ?_
  intro K19 HK19
  go_wp2_with fail
  go_loopw [148, 19] (fun j x wr => ∃ i : Nat, i ≤ n ∧ j = .int .i64 (i : Int) ∧ x = .int .i64 (fullN l i : Nat) ∧ Hid (Below V2.heap.size V2 wr)) (fun j _ _ => n - (intOf j).toNat)
  case atStart => exact ⟨0, Nat.zero_le _, rfl, rfl, Below.refl _ _⟩
  case round =>
    obtain ⟨i, hi, rfl, rfl, HW⟩ := hrel
    rename World => wo
    by_cases hlt : i < n
    · have HH := Lib.hid (HT.out.mono HW.out)
      have hil : i < l.length := by rw [HH.out.ln]; exact hlt
      obtain ⟨ba', oa', ha', hcell⟩ := HH.out.gv.hi i (by rw [show (boxC E (homesL l) k p).homes = homesL l from rfl, homes_len]; exact hil)
      obtain ⟨rfl, rfl⟩ : ba = ba' ∧ oa = oa' := by simpa using ha'
      rw [show gi (boxC E (homesL l) k p).homes i = (gn l i : Int) from homes_at hil] at hcell
      have hgE := box_gn HH.out.bo hil
      have h62 : fullN l i < 2 ^ 62 := Nat.lt_trans (box_flt HH.out.bo (Nat.le_of_lt hil)) (Nat.pow_lt_pow_right (by omega) (by omega))
      have hone : (bits .and .i64 ((fullN l i : Int) / 2 ^ gn l i) 1 == 1) = false := by rw [and_eq_one _ _ h62, box_full HH.out.bo hil]
      have htw := two_wrap_s (n := gn l i) (by omega)
      have hor := or_nat (fullN l i) (2 ^ gn l i) h62 (two_ltH (by omega))
      rw [show fullN l i ||| 2 ^ gn l i = fullN l (i + 1) from rfl] at hor
      have hR1 : i ≠ k → whereE (boxC E (homesL l) k p) i = (((2 ^ gn l i : Nat) : Int), false, 0) := fun hik => by
        have := box_where HH.out.bo (i := i) (by rw [homes_len]; exact hil) hik
        rw [homes_at hil, Int.toNat_natCast] at this
        exact this
      obtain ⟨S, hS1, _⟩ := box_card HH.out.bo
      have HR := Lib.hid (And.intro hR1 hS1)
      clear ha' h62 hil hR1 hS1
      revert HR hor htw hone hgE hcell
      generalize hf2 : fullN l (i + 1) = fl2
      generalize fullN l i = fl
      generalize gn l i = g
      generalize 2 ^ g = tw
      intro hcell hgE hone htw hor HR
      have HF2 := Lib.hid hf2
      clear hf2
      have HCL := Lib.hid hcell
      have hg2 : (g : Int) < (E : Int) := by omega
      clear hgE
      have m0 : wo.cell? ⟨b16, 0, none⟩ = some (.int .i64 E) := by rw [cell_of_heap HH.out.hx]; rfl
      have m1 : wo.cell? ⟨b16, 1, none⟩ = some (.slice (some ⟨ba, oa, none⟩) n ch) := by rw [cell_of_heap HH.out.hx]; rfl
      have m2 : wo.cell? ⟨b16, 2, none⟩ = some (.int .i64 1) := by rw [cell_of_heap HH.out.hx]; rfl
      have m3 : wo.cell? ⟨b16, 3, none⟩ = some (.slice (some ⟨bl, 0, none⟩) 2 2) := by rw [cell_of_heap HH.out.hx]; rfl
      have hnl : (homesL l).length = n := by rw [homes_len, HH.out.ln]
      rw [← hnl] at m1
      have HSL := Lib.hid (where_any (ch := ch) HH.out.gv (i : Int))
      clear hnl
      go_wp2_with fail
      refine HSL.out.mono ?_
      rintro en wa ⟨rfl, hba⟩
      have HBB := Lib.hid (HW.out.trans (hba.mono HW.out.size))
      clear hba m0 m1 m2 m3 HSL HH hcell
      by_cases hik : i = k
      · subst hik
        rw [HR.out.2]
        go_wp2_with fail
        go_roundw
        case rel => exact ⟨i + 1, by omega, by go_num, by rw [HF2.out], HBB.out⟩
        case measure => simp [intOf]; omega
      · rw [HR.out.1 hik]
        have hik2 : ((i : Int) == (k : Int)) = false := by simp; omega
        go_wp2_with fail
        go_roundw
        case rel => exact ⟨i + 1, by omega, by go_num, by rw [HF2.out], HBB.out⟩
        case measure => simp [intOf]; omega
    · have hie : i = n := by omega
      subst hie
      go_wp2_with fail
      refine HK19.out _ _ ?_
      clear HK19
      exact tbx29 (HT.out.mono HW.out) (by rw [HT.out.ln])
end Go.Proofs.YtbnhngfegnhaiaaGreatDoor
namespace Go.Proofs.YtbnhngfegnhaiaaGreatDoor
open Go.RowKit
set_option linter.unusedVariables false
set_option linter.unusedSimpArgs false
set_option maxRecDepth 100000 in
set_option maxHeartbeats 8000000 in
theorem boxes3 {m : Mx} {ab ac : Option Addr} {cb cc who per : Nat} {w : World} (hfit : m.boxes.length ≤ 12 → m.cards.length ≤ 20 → m.Fit) (h1 : IsBxs w ab m.boxes) (h2 : IsTns w ac m.cards) (hw : who < 256) (hp : per < 256) :
    Calls Tryz.prog 3 #[m.v ab cb ac cc, .int .u8 (who : Int), .int .u8 (per : Int)] w fun e w' => e = .returned (.bool true) ∧ Below w.heap.size w w' := by
  have hab := alloc_below w (.cells (m.arr ab cb ac cc) 25)
  have HX := Lib.hid (And.intro (World.alloc_heap_new w (.cells (m.arr ab cb ac cc) 25)) (And.intro hab (And.intro (h1.mono hab) (h2.mono hab))))
  have HF := Lib.hid (And.intro hfit (And.intro hw hp))
  clear hab h1 h2 hfit hw hp
  go_enter Tryz.func3, Tryz.ntmps3
  refine wp_seq_hid ?_
  intro K0 HK0
  go_wp2_with fail
  refine HK0.out _ _ ?_
  clear HK0 K0
  revert HX
  generalize w.alloc (.cells (m.arr ab cb ac cc) 25) = w1
  generalize hb3 : w.heap.size = b3
  intro HX
  have HE := Lib.hid hb3
  have HL : Hid (Below w.heap.size w w1) := by rw [Hid, hb3]; exact HX.out.2.1
  clear hb3
  have m0 : w1.cell? ⟨b3, 0, none⟩ = some (.slice ab m.boxes.length cb) := by rw [cell_of_heap HX.out.1]; rfl
  have m1 : w1.cell? ⟨b3, 1, none⟩ = some (.slice ac m.cards.length cc) := by rw [cell_of_heap HX.out.1]; rfl
  have HAW := Lib.hid awake5
  refine wp_seq_hid ?_
  intro K1 HK1
  by_cases hbl : m.boxes.length ≤ 12
  case neg =>
    go_wp2_with fail
    refine (HAW.out w1).mono ?_
    rintro e w2 ⟨rfl, hb2⟩
    have HD : Hid (Below b3 w w2) := by rw [← HE.out]; exact HL.out.trans (hb2.mono HL.out.size)
    clear hb2
    go_wp2_with fail
    go_ret
    exact ⟨rfl, HD.out⟩
  by_cases hcl : m.cards.length ≤ 20
  case neg =>
    go_wp2_with fail
    refine (HAW.out w1).mono ?_
    rintro e w2 ⟨rfl, hb2⟩
    have HD : Hid (Below b3 w w2) := by rw [← HE.out]; exact HL.out.trans (hb2.mono HL.out.size)
    clear hb2
    go_wp2_with fail
    go_ret
    exact ⟨rfl, HD.out⟩
  have HFT := Lib.hid (HF.out.1 hbl hcl)
  go_wp2_with fail
  refine (ref4 (cb := cb) (cc := cc) HFT.out HX.out.2.2.1 HX.out.2.2.2).mono ?_
  rintro e w2 ⟨⟨b, rfl, hok⟩, hb2⟩
  have HB2 := Lib.hid (And.intro hb2 (HL.out.trans (hb2.mono HL.out.size)))
  clear hb2
  cases b
  · clear hok
    go_wp2_with fail
    refine (HAW.out w2).mono ?_
    rintro e w3 ⟨rfl, hb3⟩
    have HD : Hid (Below b3 w w3) := by rw [← HE.out]; exact HB2.out.2.trans (hb3.mono HB2.out.2.size)
    clear hb3
    go_wp2_with fail
    go_ret
    exact ⟨rfl, HD.out⟩
  have HM := Lib.hid (And.intro (hok rfl) (facts_of (hok rfl)))
  clear hok
  go_wp2_with fail
  refine HK1.out _ _ ?_
  clear HK1 K1 m0 m1
  -- the world is w2 from here
  have hst : ∀ v, Below w2.heap.size w2 v → v.heap[b3]? = some (.cells (m.arr ab cb ac cc) 25 (0, 0)) ∧ IsBxs v ab m.boxes ∧ IsTns v ac m.cards := fun v hv => by
    have h1 := HX.out.2.2.1.mono HB2.out.1
    have h2 := HX.out.2.2.2.mono HB2.out.1
    have h3 := (HB2.out.1.block _ (heap_lt HX.out.1)).trans HX.out.1
    exact ⟨(hv.block _ (heap_lt h3)).trans h3, h1.mono hv, h2.mono hv⟩
  have HST := Lib.hid hst
  clear hst
  have m0 : w2.cell? ⟨b3, 0, none⟩ = some (.slice ab m.boxes.length cb) := by rw [cell_of_heap (HST.out w2 (Below.refl _ _)).1]; rfl
  have m1 : w2.cell? ⟨b3, 1, none⟩ = some (.slice ac m.cards.length cc) := by rw [cell_of_heap (HST.out w2 (Below.refl _ _)).1]; rfl
  refine wp_seq_hid ?_
  intro K2 HK2
  go_wp2_with fail
  refine (entries6 (cb := cb) (cc := cc) HM.out.1 (HST.out w2 (Below.refl _ _)).2.1).mono ?_
  rintro e w3 ⟨⟨qe, rfl⟩, hb3⟩
  have HB3 := Lib.hid hb3
  clear hb3 m0 m1
  go_wp2_with fail
  refine HK2.out _ _ ?_
  clear HK2 K2
  have m0 : w3.cell? ⟨b3, 0, none⟩ = some (.slice ab m.boxes.length cb) := by rw [cell_of_heap (HST.out w3 HB3.out).1]; rfl
  have m1 : w3.cell? ⟨b3, 1, none⟩ = some (.slice ac m.cards.length cc) := by rw [cell_of_heap (HST.out w3 HB3.out).1]; rfl
  have HFI := Lib.hid (first7 (cb := cb) (cc := cc) HM.out.1 (HST.out w3 HB3.out).2.1 (HST.out w3 HB3.out).2.2)
  refine wp_seq_hid ?_
  intro K3 HK3
  go_wp2_with fail
  refine HFI.out.mono ?_
  rintro e w4 ⟨hf, hb4⟩
  have HB4 := Lib.hid (HB3.out.trans (hb4.mono HB3.out.size))
  clear hb4 m0 m1 HFI
  have HWB : Hid (∀ v, Below w2.heap.size w2 v → Below w.heap.size w v) := fun v hv => HB2.out.2.trans (hv.mono HB2.out.2.size)
  rcases hf with ⟨hz, rfl⟩ | ⟨hz, q, rfl, ho⟩
  · have HZ := Lib.hid hz
    clear hz
    go_wp2_with fail
    refine HK3.out _ _ ?_
    clear HK3 K3
    have m0 : w4.cell? ⟨b3, 0, none⟩ = some (.slice ab m.boxes.length cb) := by rw [cell_of_heap (HST.out w4 HB4.out).1]; rfl
    have m1 : w4.cell? ⟨b3, 1, none⟩ = some (.slice ac m.cards.length cc) := by rw [cell_of_heap (HST.out w4 HB4.out).1]; rfl
    have HLO := Lib.hid (lost8 (cb := cb) (cc := cc) HM.out.1 (HST.out w4 HB4.out).2.1 (HST.out w4 HB4.out).2.2)
    refine wp_seq_hid ?_
    intro K5 HK5
    go_wp2_with fail
    refine HLO.out.mono ?_
    rintro e w5 ⟨hl, hb5⟩
    have HB5 := Lib.hid (HB4.out.trans (hb5.mono HB4.out.size))
    have HB45 := Lib.hid hb5
    clear hb5 m0 m1 HLO
    rcases hl with ⟨_, rfl⟩ | ⟨hz, _⟩
    case inr => exact (hz HZ.out).elim
    go_wp2_with fail
    refine HK5.out _ _ ?_
    clear HK5 K5
    go_wp2_with fail
    refine (HAW.out w5).mono ?_
    rintro e w6 ⟨rfl, hb6⟩
    have HD : Hid (Below b3 w w6) := by rw [← HE.out]; exact HWB.out w6 (HB5.out.trans (hb6.mono HB5.out.size))
    clear hb6
    go_wp2_with fail
    go_ret
    exact ⟨rfl, HD.out⟩
  · have HZ := Lib.hid (And.intro hz ho)
    clear hz ho
    go_wp2_with fail
    refine HK3.out _ _ ?_
    clear HK3 K3
    have m0 : w4.cell? ⟨b3, 0, none⟩ = some (.slice ab m.boxes.length cb) := by rw [cell_of_heap (HST.out w4 HB4.out).1]; rfl
    have m1 : w4.cell? ⟨b3, 1, none⟩ = some (.slice ac m.cards.length cc) := by rw [cell_of_heap (HST.out w4 HB4.out).1]; rfl
    have HLO := Lib.hid (lost8 (cb := cb) (cc := cc) HM.out.1 (HST.out w4 HB4.out).2.1 (HST.out w4 HB4.out).2.2)
    refine wp_seq_hid ?_
    intro K5 HK5
    go_wp2_with fail
    refine HLO.out.mono ?_
    rintro e w5 ⟨hl, hb5⟩
    have HB5 := Lib.hid (HB4.out.trans (hb5.mono HB4.out.size))
    have HB45 := Lib.hid hb5
    clear hb5 m0 m1 HLO
    rcases hl with ⟨hz, _⟩ | ⟨_, rfl⟩
    case inl => exact (HZ.out.1 hz).elim
    go_wp2_with fail
    refine HK5.out _ _ ?_
    clear HK5 K5
    have HO : Hid (w5.ownsRow w3.heap.size 3 1 (.slice q.1 m.fits.length q.2) m.fits.length (intL (firstL m.ents.length m.fits 0))) := own_below HZ.out.2 HB45.out
    refine wp_seq_hid ?_
    intro K6 HK6
    go_wp2_with fail
    refine HK6.out _ _ ?_
    clear HK6 K6
    have m1 : w5.cell? ⟨b3, 1, none⟩ = some (.slice ac m.cards.length cc) := by rw [cell_of_heap (HST.out w5 HB5.out).1]; rfl
    rw [show manyB m.boxes m.boxes.length = m.ents.length from (ents_len m.boxes m.boxes.length).symm, HM.out.2.nc]
    obtain ⟨E, hE⟩ : ∃ E, E = m.ents.length := ⟨_, rfl⟩
    obtain ⟨n, hn⟩ : ∃ n, n = m.cards.length := ⟨_, rfl⟩
    obtain ⟨A, hA⟩ : ∃ A, A = bitsN (fun e => decide (lostN m.ents.length m.fits e = 0)) m.ents.length := ⟨_, rfl⟩
    obtain ⟨B, hB⟩ : ∃ B, B = bitsN (fun e => decide (lostN m.ents.length m.fits e < countL m.ents.length m.fits 0)) m.ents.length := ⟨_, rfl⟩
    rw [← hA, ← hB, ← hE, ← hn]
    rw [← hn] at m1
    have HQ := Lib.hid (And.intro hE (And.intro hn hB))
    have hB2 : B < 2 ^ E := by rw [hB, hE]; exact bitsN_lt _ _
    have hB3 : (B : Int) < (2 : Int) ^ E := by
      have h : ((B : Nat) : Int) < ((2 ^ E : Nat) : Int) := Int.ofNat_lt.2 hB2
      have h2 : ((2 ^ E : Nat) : Int) = (2 : Int) ^ E := by simp
      rw [← h2]; exact h
    have hsh : (B : Int) / 2 ^ E = 0 := Int.ediv_eq_zero_of_lt (by omega) hB3
    clear hB3
    have hE12 : (E : Int) ≤ 12 := by have := HM.out.2.e12; omega
    have hn8 : (n : Int) ≤ 8 := by have := HM.out.1.nc; omega
    have HB2' := Lib.hid hB2
    clear hE hn hA hB hB2
    refine wp_seq_hid ?_
    intro K7 HK7
    go_wp2_with fail
    refine HK7.out _ _ ?_
    clear HK7 K7 m1
    refine wp_seq_hid ?_
    intro K8 HK8
    go_wp2_with fail
    refine HK8.out _ _ ?_
    clear HK8 K8 hsh
    refine wp_seq_hid ?_
    intro K9 HK9
    by_cases hn0 : n = 0
    case pos =>
      subst hn0
      go_wp2_with fail
      refine (HAW.out w5).mono ?_
      rintro e w6 ⟨rfl, hb6⟩
      have HD : Hid (Below b3 w w6) := by rw [← HE.out]; exact HWB.out w6 (HB5.out.trans (hb6.mono HB5.out.size))
      clear hb6
      go_wp2_with fail
      go_ret
      exact ⟨rfl, HD.out⟩
    have hnz : ((n : Int) == 0) = false := by simp; omega
    by_cases hn5 : n ≤ 5
    case neg =>
      have hn6 : (5 : Int) < (n : Int) := by omega
      go_wp2_with fail
      refine (HAW.out w5).mono ?_
      rintro e w6 ⟨rfl, hb6⟩
      have HD : Hid (Below b3 w w6) := by rw [← HE.out]; exact HWB.out w6 (HB5.out.trans (hb6.mono HB5.out.size))
      clear hb6
      go_wp2_with fail
      go_ret
      exact ⟨rfl, HD.out⟩
    have hn6 : (n : Int) ≤ 5 := by omega
    by_cases hE6 : E ≤ 6
    case neg =>
      have hE7 : (6 : Int) < (E : Int) := by omega
      go_wp2_with fail
      refine (HAW.out w5).mono ?_
      rintro e w6 ⟨rfl, hb6⟩
      have HD : Hid (Below b3 w w6) := by rw [← HE.out]; exact HWB.out w6 (HB5.out.trans (hb6.mono HB5.out.size))
      clear hb6
      go_wp2_with fail
      go_ret
      exact ⟨rfl, HD.out⟩
    have hE7 : (E : Int) ≤ 6 := by omega
    go_wp2_with fail
    refine HK9.out _ _ ?_
    clear HK9 K9
    have hw1 := HF.out.2.1
    have hw2 := HF.out.2.2
    refine wp_seq_hid ?_
    intro K10 HK10
    go_wp2_with fail
    refine HK10.out _ _ ?_
    clear HK10 K10
    have hnp : 0 < n := by omega
    have hmem := first_mem (Nat.pos_of_ne_zero HZ.out.1)
    have hO := HO.out
    clear HO
    revert hmem hO
    generalize firstL m.ents.length m.fits 0 = l
    intro hmem hO
    obtain ⟨hl1, _, _⟩ := way_iff.1 (mem_ways.1 hmem)
    have hln : l.length = n := by rw [hl1, HM.out.2.nc, HQ.out.2.1]
    have hkn : who % n < n := Nat.mod_lt _ hnp
    have hbox := way_box (k := who % n) (p := per % 8) hmem (by rw [← HQ.out.1]; omega) (by rw [← hl1, hln]; omega) (by rw [← hl1, hln]; exact hkn) (Nat.mod_lt _ (by decide))
    rw [← HQ.out.1] at hmem hbox
    obtain ⟨qa, qc⟩ := q
    have hints : IsInts w5 qa (homesL l) := own_ints (cap := qc) (by
      rw [homes_len, hl1, show (homesL l).map (Value.int .i64) = intL l by simp [homesL, intL, Function.comp_def]]
      exact hO)
    obtain ⟨ba, oa, hq, _⟩ := hints (who % n) (by rw [homes_len, hln]; exact hkn)
    obtain rfl : qa = some ⟨ba, oa, none⟩ := hq
    have hS : TbxS m ab cb ac cc E n (who % n) (per % 8) B l (some ⟨ba, oa, none⟩) b3 w w5 :=
      ⟨HWB.out w5 HB5.out, (HST.out w5 HB5.out).1, (HST.out w5 HB5.out).2.1, (HST.out w5 HB5.out).2.2, hints, HM.out.1, HQ.out.1, HQ.out.2.1, hln, hmem, hbox, HQ.out.2.2⟩
    have HSS := Lib.hid hS
    clear hS hints hbox hmem hO
    rw [← HE.out] at HSS ⊢
    exact tbx14 HSS.out
end Go.Proofs.YtbnhngfegnhaiaaGreatDoor
