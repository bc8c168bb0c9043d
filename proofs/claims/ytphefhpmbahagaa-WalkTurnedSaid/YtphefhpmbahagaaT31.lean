/- Small functions: lists that are compared, looked through, cloned. -/
import Derived.Test.YtphefhpmbahagaaT30
namespace Go.Proofs.Ytphefhpmbahagaa
open Go.RowKit
set_option linter.unusedVariables false
set_option linter.unusedSimpArgs false

/-- Where a number is in a list; -1: it is not. -/
def indexFrom : List Int → Int → Nat → Int
  | [],_,_ => -1
  | x :: r,v,k => if x = v then (k : Int) else indexFrom r v (k + 1)
def indexL (l : List Int) (v : Int) : Int := indexFrom l v 0
theorem indexFrom_cons_ne {x v : Int} {r : List Int} {k : Nat} (h : x ≠ v) : indexFrom (x :: r) v k = indexFrom r v (k + 1) := by
  show (if x = v then (k : Int) else indexFrom r v (k + 1)) = _
  rw [if_neg h]
theorem indexFrom_drop {l : List Int} {v : Int} : ∀ (k : Nat),k ≤ l.length → (∀ j,j < k → gi l j ≠ v) → indexL l v = indexFrom (l.drop k) v k
  | 0,_,_ => rfl
  | k + 1,hk,h => by
    rw [indexFrom_drop k (by omega) (fun j hj => h j (by omega))]
    have hlt : k < l.length := by omega
    rw [List.drop_eq_getElem_cons hlt]
    refine indexFrom_cons_ne ?_
    have := h k (by omega)
    simpa [gi,hlt] using this
theorem indexL_hit {l : List Int} {v : Int} {k : Nat} (hk : k < l.length) (h : ∀ j,j < k → gi l j ≠ v) (hv : gi l k = v) : indexL l v = (k : Int) := by
  rw [indexFrom_drop k (by omega) h,List.drop_eq_getElem_cons hk]
  have : l[k] = v := by simpa [gi,hk] using hv
  show (if l[k] = v then (k : Int) else _) = _
  rw [if_pos this]
theorem indexL_miss {l : List Int} {v : Int} (h : ∀ j,j < l.length → gi l j ≠ v) : indexL l v = -1 := by
  rw [indexFrom_drop l.length (Nat.le_refl _) h,List.drop_length]; rfl
theorem indexL_rng (l : List Int) (v : Int) : -1 ≤ indexL l v ∧ indexL l v < l.length ∧ (0 ≤ indexL l v ↔ v ∈ l) := by
  by_cases h : v ∈ l
  · obtain ⟨i,hi,e⟩ := List.getElem_of_mem h
    have key : ∀ m,m ≤ l.length → (∀ j,j < m → gi l j ≠ v) ∨ ∃ k,k < l.length ∧ (∀ j,j < k → gi l j ≠ v) ∧ gi l k = v := by
      intro m
      induction m with
      | zero => intro _; exact .inl (fun j hj => by omega)
      | succ m ih =>
        intro hm
        rcases ih (by omega) with h1 | h1
        · by_cases h2 : gi l m = v
          · exact .inr ⟨m,by omega,h1,h2⟩
          · refine .inl (fun j hj => ?_)
            by_cases e : j = m
            · subst e; exact h2
            · exact h1 j (by omega)
        · exact .inr h1
    rcases key l.length (Nat.le_refl _) with h1 | ⟨k,hk,h1,h2⟩
    · exact (h1 i hi (by simpa [gi,hi] using e)).elim
    · rw [indexL_hit hk h1 h2]
      exact ⟨by omega,by omega,by constructor <;> intro _ <;> first | exact h | omega⟩
  · have : indexL l v = -1 := indexL_miss (fun j hj e => h (by
      have : l[j] = v := by simpa [gi,hj] using e
      rw [← this]; exact List.getElem_mem hj))
    rw [this]
    exact ⟨by omega,by omega,by constructor <;> intro h' <;> first | omega | exact (h h').elim⟩
set_option maxHeartbeats 1000000 in
theorem index76 {l : List Int} {v : Int} (hl : l.length ≤ 1000) {a : Option Addr} {cap : Nat} {w : World} (ha : IsInts w a l) :
    Calls Try.prog 76 #[.slice a l.length cap,.int .i64 v] w fun e w' => e = .returned (.int .i64 (indexL l v)) ∧ w = w' := by
  go_enter Try.func76,Try.ntmps76
  go_wp2
  go_loop [8] (fun i => ∃ k : Nat,k ≤ l.length ∧ i = .int .i64 k ∧ Hid (∀ j,j < k → gi l j ≠ v)) (fun i => l.length - (intOf i).toNat)
  case atStart => exact ⟨0,by omega,rfl,fun j hj => by omega⟩
  case round =>
    obtain ⟨k,hk,rfl,HK⟩ := hrel
    by_cases hlt : k < l.length
    · obtain ⟨b,off,rfl,hc⟩ := ha k hlt
      by_cases h1 : gi l k = v
      · have H1 := Lib.hid h1
        have hb : (v == gi l k) = true := by simp [h1]
        have HI := Lib.hid (indexL_hit hlt HK.out h1)
        clear h1
        go_wp2
        go_ret
        exact ⟨ret_int HI.out.symm,rfl⟩
      · have H1 := Lib.hid h1
        have hb : (v == gi l k) = false := by simpa using fun e => h1 e.symm
        clear h1
        go_wp2
        go_round
        case rel => exact ⟨k + 1,by omega,by go_num,fun j hj => by
          by_cases e : j = k
          · subst e; exact H1.out
          · exact HK.out j (by omega)⟩
        case measure => simp [intOf]; omega
    · obtain rfl : k = l.length := by omega
      have HI := Lib.hid (indexL_miss HK.out)
      go_wp2
      go_ret
      exact ⟨ret_int HI.out.symm,rfl⟩
set_option maxHeartbeats 1000000 in
theorem contains90 {l : List Int} {v : Int} (hl : l.length ≤ 1000) {a : Option Addr} {cap : Nat} {w : World} (ha : IsInts w a l) :
    Calls Try.prog 90 #[.slice a l.length cap,.int .i64 v] w fun e w' => e = .returned (.bool (decide (v ∈ l))) ∧ w = w' := by
  have hr := (indexL_rng l v).2.2
  have HR := Lib.hid hr
  clear hr
  go_enter Try.func90,Try.ntmps90
  go_wp2_with fail
  refine (index76 hl ha).mono ?_
  rintro e w' ⟨rfl,rfl⟩
  by_cases h : v ∈ l
  · have h2 := HR.out.2 h
    have HH := Lib.hid h
    clear h
    go_wp2_with fail
    go_ret
    exact ⟨ret_bool (by simp [HH.out]),rfl⟩
  · have h2 : ¬ 0 ≤ indexL l v := fun e => h (HR.out.1 e)
    have HH := Lib.hid (And.intro h h2)
    clear h
    go_wp2_with fail
    go_ret
    exact ⟨ret_bool (by have := HH.out.2; simp [HH.out.1]; omega),rfl⟩
set_option maxHeartbeats 1000000 in
theorem clone89 {w : World} {base : Nat} {v : Value} {l : List Int} (h : w.ownsRow base 3 1 v l.length (l.map (Value.int .i64))) (hl : l.length ≤ 16) :
    Calls Try.prog 89 #[v] w fun e w' => ∃ v',e = .returned v' ∧ w'.ownsRow w.heap.size 3 1 v' l.length (l.map (Value.int .i64)) ∧ Below w.heap.size w w' := by
  obtain ⟨i0,hi0,hz0,hz1,hz2⟩ := info_parts infoI
  rcases h.2 with ⟨rfl,h0⟩ | ⟨g,cap,cur,rfl,hbg,hh,_⟩
  · have hx : l = [] := List.eq_nil_of_length_eq_zero h0
    subst hx
    have he := Lib.run_eql_slice_nil (P := Try.prog)
    go_enter Try.func89,Try.ntmps89
    go_wp2
    go_ret
    exact ⟨_,rfl,World.ownsRow_nil w _ _ _,Below.refl _ _⟩
  · have hm := World.ownsRow_made (e := 3) (size := 1) w #[] 0 (base := w.heap.size) (Nat.le_refl _) (by simp [maxLen]) (by simp)
    obtain ⟨v',w',hr,hn,hg⟩ := append_rows (P := Try.prog) w.heap.size 26 26 3 i0 _ 1 8 Try.underlying26 hi0 hz0 hz1 hz2 rfl (by decide) _ 0 [] hm (some ⟨g,0,none⟩) l.length cap (l.map (Value.int .i64)) (by simp) (fun h0 => ⟨_,rfl,fun j u hj => by
      have hc := (h.cells (g := g) rfl) j u hj
      have e : ((⟨g,0,none⟩ : Addr).add j) = ⟨g,j,none⟩ := by unfold Addr.add; split <;> simp_all
      rw [e] at hc ⊢
      exact cell_stays ((Below.refl _ w).alloc (Nat.le_refl _) _) hc⟩) (by intro u hu; simp at hu; obtain ⟨x,_,rfl⟩ := hu; rfl) (by simp [maxLen]; omega) (by omega) (by simp)
    rw [Nat.zero_add,List.nil_append] at hn
    have HR := Lib.hid hr
    have HN := Lib.hid (And.intro hn hg)
    have he := Lib.run_eql_slice_nil (P := Try.prog)
    clear hr hn hg hm h hh hi0 hz0 hz1 hz2 hbg
    go_enter Try.func89,Try.ntmps89
    go_wp2_with (at_builtin; refine wpList_append_run rfl (.tmp 5) (.tmp 6) 26 rfl _ _ _ _ rfl rfl HR.out ?_)
    go_ret
    exact ⟨v',rfl,HN.out.1,((Below.refl _ w).alloc (Nat.le_refl _) _).grown HN.out.2 (by simp) (fun k hk => by cases hk; exact Nat.le_refl _)⟩
theorem eq_gi {l m : List Int} (hl : l.length = m.length) (h : ∀ j,j < l.length → gi l j = gi m j) : l = m := by
  refine List.ext_getElem hl (fun i h1 h2 => ?_)
  have := h i h1
  simpa [gi,h1,h2] using this
set_option maxRecDepth 100000 in
set_option maxHeartbeats 1000000 in
theorem ints_eq {l m : List Int} {a b : Option Addr} {ca cb : Nat} {w : World} (ha : IsInts w a l) (hb : IsInts w b m) (hl : l.length = m.length) (h5 : l.length ≤ 30) :
    Calls Try.prog 31 #[.slice a l.length ca,.slice b l.length cb] w fun e w' => e = .returned (.bool (decide (l = m))) ∧ Below w.heap.size w w' := by
  have HL := Lib.hid (And.intro hl (And.intro ha hb))
  have hlb : ((l.length : Int) == (l.length : Int)) = true := by simp
  clear ha hb hl
  go_enter Try.func31,Try.ntmps31
  go_wp2_with fail
  go_loopw [5] (fun i wr => ∃ k : Nat,k ≤ l.length ∧ i = .int .i64 k ∧ Hid (∀ j,j < k → gi l j = gi m j) ∧ Below w.heap.size w wr) (fun i _ => l.length - (intOf i).toNat)
  case atStart => exact ⟨0,by omega,rfl,fun j hj => by omega,Below.refl _ _⟩
  case round =>
    obtain ⟨k,hk,rfl,HK,hbr⟩ := hrel
    by_cases hlt : k < l.length
    · obtain ⟨hlm,ha,hb⟩ := HL.out
      obtain ⟨b1,o1,rfl,q1⟩ := ha.mono hbr k hlt
      obtain ⟨b2,o2,rfl,q2⟩ := hb.mono hbr k (by omega)
      have x0 := fun y : Aft wr.heap.size wr => cell_stays y.h q1
      have x1 := fun y : Aft wr.heap.size wr => cell_stays y.h q2
      clear ha hb hlm
      by_cases he : gi l k = gi m k
      · have h1 : (gi l k == gi m k) = true := by simp [he]
        have h2 : (gi l k != gi m k) = false := by simp [he]
        have HE := Lib.hid he
        clear he
        go_wp2_with fail
        refine wp_region_aft mixed (by kernel_rfl) ?_
        repeat (go_big_quiet_step (fail))
        refine wpQuiet_nil ?_
        rintro _ ⟨y,rfl⟩
        go_wp2_with fail
        go_roundw
        case rel => exact ⟨k + 1,by omega,by go_num,fun j hj => by
          by_cases e : j = k
          · subst e; exact HE.out
          · exact HK.out j (by omega),hbr.trans (y.h.mono hbr.size)⟩
        case measure => simp [intOf]; omega
      · have h1 : (gi l k == gi m k) = false := by simpa using he
        have h2 : (gi l k != gi m k) = true := by simpa using he
        have HE := Lib.hid he
        clear he
        go_wp2_with fail
        refine wp_region_aft mixed (by kernel_rfl) ?_
        repeat (go_big_quiet_step (fail))
        refine wpQuiet_nil ?_
        rintro _ ⟨y,rfl⟩
        go_wp2_with fail
        go_ret
        refine ⟨ret_bool ?_,hbr.trans (y.h.mono hbr.size)⟩
        have : l ≠ m := fun e => HE.out (by rw [e])
        simp [this]
    · obtain rfl : k = l.length := by omega
      go_wp2_with fail
      go_ret
      refine ⟨ret_bool ?_,hbr⟩
      have : l = m := eq_gi HL.out.1 HK.out
      simp [this]
set_option maxHeartbeats 1000000 in
theorem ints_ne {l m : List Int} {a b : Option Addr} {ca cb : Nat} {w : World} (hl : l.length ≠ m.length) (h5 : l.length ≤ 1000000) (h6 : m.length ≤ 1000000) :
    Calls Try.prog 31 #[.slice a l.length ca,.slice b m.length cb] w fun e w' => e = .returned (.bool (decide (l = m))) ∧ Below w.heap.size w w' := by
  have HE : Hid (decide (l = m) = false) := by rw [Hid]; simp; intro e; exact hl (by rw [e])
  have hlb : ((l.length : Int) != (m.length : Int)) = true := by simp; omega
  clear hl
  go_enter Try.func31,Try.ntmps31
  go_wp2_with fail
  go_ret
  exact ⟨ret_bool HE.out.symm,Below.refl _ _⟩
theorem ints31 {l m : List Int} {a b : Option Addr} {ca cb : Nat} {w : World} (ha : IsInts w a l) (hb : IsInts w b m) (h5 : l.length ≤ 30) (h6 : m.length ≤ 30) :
    Calls Try.prog 31 #[.slice a l.length ca,.slice b m.length cb] w fun e w' => e = .returned (.bool (decide (l = m))) ∧ Below w.heap.size w w' := by
  by_cases hl : l.length = m.length
  · rw [← hl]; exact ints_eq ha hb hl h5
  · exact ints_ne hl (by omega) (by omega)
theorem eq_gs {l m : List Spn} (hl : l.length = m.length) (h : ∀ j,j < l.length → gs l j = gs m j) : l = m := by
  refine List.ext_getElem hl (fun i h1 h2 => ?_)
  have := h i h1
  simpa [gs,h1,h2] using this
theorem eq33 (a b c e : Int) (w : World) : (Op.equalIn 10000 33 (.agg #[.int .i64 a,.int .i64 b]) (.agg #[.int .i64 c,.int .i64 e])).run Try.prog w = .ok (a == c && b == e) w := by
  have hu3 : Try.prog.underlying 3 = some (.int .i64) := by kernel_rfl
  have hs : Try.prog.stoodInHeld 33 = false := by kernel_rfl
  have hp : ∀ (x y : Int) (w : World),(part 3 #[.int .i64 x,.int .i64 y] 0).run Try.prog w = .ok (.int .i64 x) w := fun x y w => by simp [part,run_underlying hu3,Result.andThen,isAgg]
  have hp1 : ∀ (x y : Int) (w : World),(part 3 #[.int .i64 x,.int .i64 y] 1).run Try.prog w = .ok (.int .i64 y) w := fun x y w => by simp [part,run_underlying hu3,Result.andThen,isAgg]
  have he : ∀ (x y : Int) (w : World),(Op.equalIn 9999 3 (.int .i64 x) (.int .i64 y)).run Try.prog w = .ok (x == y) w := fun x y w => by
    rw [Op.equalIn]; simp [run_underlying hu3,Result.andThen]
  rw [Op.equalIn]
  simp [run_underlying Try.underlying33,Result.andThen,hs,hp,he]
  by_cases h1 : a = c <;> by_cases h2 : b = e <;> simp [h1,h2,hp1,he,Result.andThen]
theorem neq33 (s r : Spn) (w : World) : (binOp .neq 33 (.agg #[.int .i64 s.lo,.int .i64 s.hi]) (.agg #[.int .i64 r.lo,.int .i64 r.hi])).run Try.prog w = .ok (.bool (!decide (s = r))) w := by
  have h := eq33 s.lo s.hi r.lo r.hi w
  have e : (s.lo == r.lo && s.hi == r.hi) = decide (s = r) := by
    rw [Bool.eq_iff_iff]; cases s; cases r; simp
  rw [e] at h
  simp [binOp,go_sem,Op.equal,Op.maxDepth,h,Result.andThen]
theorem eql33 (s r : Spn) (w : World) : (binOp .eql 33 (.agg #[.int .i64 s.lo,.int .i64 s.hi]) (.agg #[.int .i64 r.lo,.int .i64 r.hi])).run Try.prog w = .ok (.bool (decide (s = r))) w := by
  have h := eq33 s.lo s.hi r.lo r.hi w
  have e : (s.lo == r.lo && s.hi == r.hi) = decide (s = r) := by
    rw [Bool.eq_iff_iff]; cases s; cases r; simp
  rw [e] at h
  simp [binOp,go_sem,Op.equal,Op.maxDepth,h,Result.andThen]
set_option maxRecDepth 100000 in
set_option maxHeartbeats 1000000 in
theorem spans_eq {l m : List Spn} {a b : Option Addr} {ca cb : Nat} {w : World} (ha : IsSpns w a l) (hb : IsSpns w b m) (hl : l.length = m.length) (h5 : l.length ≤ 30) :
    Calls Try.prog 22 #[.slice a l.length ca,.slice b l.length cb] w fun e w' => e = .returned (.bool (decide (l = m))) ∧ Below w.heap.size w w' := by
  have HL := Lib.hid (And.intro hl (And.intro ha hb))
  have hlb : ((l.length : Int) == (l.length : Int)) = true := by simp
  clear ha hb hl
  go_enter Try.func22,Try.ntmps22
  go_wp2_with fail
  go_loopw [5] (fun i wr => ∃ k : Nat,k ≤ l.length ∧ i = .int .i64 k ∧ Hid (∀ j,j < k → gs l j = gs m j) ∧ Below w.heap.size w wr) (fun i _ => l.length - (intOf i).toNat)
  case atStart => exact ⟨0,by omega,rfl,fun j hj => by omega,Below.refl _ _⟩
  case round =>
    obtain ⟨k,hk,rfl,HK,hbr⟩ := hrel
    by_cases hlt : k < l.length
    · obtain ⟨hlm,ha,hb⟩ := HL.out
      obtain ⟨b1,o1,rfl,q1,r1⟩ := ha.mono hbr k hlt
      obtain ⟨b2,o2,rfl,q2,r2⟩ := hb.mono hbr k (by omega)
      have x0 := fun y : Aft wr.heap.size wr => cell_stays y.h q1
      have x1 := fun y : Aft wr.heap.size wr => cell_stays y.h q2
      have x2 := fun y : Aft wr.heap.size wr => cell_stays y.h r1
      have x3 := fun y : Aft wr.heap.size wr => cell_stays y.h r2
      clear ha hb hlm q1 q2 r1 r2
      by_cases he : gs l k = gs m k
      · have hne : ∀ w,(binOp .neq 33 (.agg #[.int .i64 (gs l k).lo,.int .i64 (gs l k).hi]) (.agg #[.int .i64 (gs m k).lo,.int .i64 (gs m k).hi])).run Try.prog w = .ok (.bool false) w := fun w => by rw [neq33]; simp [he]
        have HE := Lib.hid he
        clear he
        go_wp2_with fail
        refine wp_region_aft mixed (by kernel_rfl) ?_
        repeat (go_big_quiet_step (fail))
        refine wpQuiet_nil ?_
        rintro _ ⟨y,rfl⟩
        go_wp2_with fail
        go_roundw
        case rel => exact ⟨k + 1,by omega,by go_num,fun j hj => by
          by_cases e : j = k
          · subst e; exact HE.out
          · exact HK.out j (by omega),hbr.trans (y.h.mono hbr.size)⟩
        case measure => simp [intOf]; omega
      · have hne : ∀ w,(binOp .neq 33 (.agg #[.int .i64 (gs l k).lo,.int .i64 (gs l k).hi]) (.agg #[.int .i64 (gs m k).lo,.int .i64 (gs m k).hi])).run Try.prog w = .ok (.bool true) w := fun w => by rw [neq33]; simp [he]
        have HE := Lib.hid he
        clear he
        go_wp2_with fail
        refine wp_region_aft mixed (by kernel_rfl) ?_
        repeat (go_big_quiet_step (fail))
        refine wpQuiet_nil ?_
        rintro _ ⟨y,rfl⟩
        go_wp2_with fail
        go_ret
        refine ⟨ret_bool ?_,hbr.trans (y.h.mono hbr.size)⟩
        have : l ≠ m := fun e => HE.out (by rw [e])
        simp [this]
    · obtain rfl : k = l.length := by omega
      go_wp2_with fail
      go_ret
      refine ⟨ret_bool ?_,hbr⟩
      have : l = m := eq_gs HL.out.1 HK.out
      simp [this]
set_option maxHeartbeats 1000000 in
theorem spans_ne {l m : List Spn} {a b : Option Addr} {ca cb : Nat} {w : World} (hl : l.length ≠ m.length) (h5 : l.length ≤ 1000000) (h6 : m.length ≤ 1000000) :
    Calls Try.prog 22 #[.slice a l.length ca,.slice b m.length cb] w fun e w' => e = .returned (.bool (decide (l = m))) ∧ Below w.heap.size w w' := by
  have HE : Hid (decide (l = m) = false) := by rw [Hid]; simp; intro e; exact hl (by rw [e])
  have hlb : ((l.length : Int) != (m.length : Int)) = true := by simp; omega
  clear hl
  go_enter Try.func22,Try.ntmps22
  go_wp2_with fail
  go_ret
  exact ⟨ret_bool HE.out.symm,Below.refl _ _⟩
theorem spans22 {l m : List Spn} {a b : Option Addr} {ca cb : Nat} {w : World} (ha : IsSpns w a l) (hb : IsSpns w b m) (h5 : l.length ≤ 30) (h6 : m.length ≤ 30) :
    Calls Try.prog 22 #[.slice a l.length ca,.slice b m.length cb] w fun e w' => e = .returned (.bool (decide (l = m))) ∧ Below w.heap.size w w' := by
  by_cases hl : l.length = m.length
  · rw [← hl]; exact spans_eq ha hb hl h5
  · exact spans_ne hl (by omega) (by omega)
/-! ### has,Comes,Takes,great -/
set_option maxHeartbeats 1000000 in
theorem has94 {l : List Int} {v : Int} (hl : l.length ≤ 1000) {a : Option Addr} {cap : Nat} {w : World} (ha : IsInts w a l) :
    Calls Try.prog 94 #[.slice a l.length cap,.int .i64 v] w fun e w' => e = .returned (.bool (decide (v ∈ l))) ∧ w = w' := by
  have HM : Hid ((∀ k,k < l.length → gi l k = v → v ∈ l) ∧ ((∀ j,j < l.length → gi l j ≠ v) → v ∉ l)) := by
    refine ⟨fun k hk h => ?_,fun h hm => ?_⟩
    · rw [← h]; exact gi_mem' hk
    · obtain ⟨i,hi,e⟩ := List.getElem_of_mem hm
      exact h i hi (by simpa [gi,hi] using e)
  go_enter Try.func94,Try.ntmps94
  go_wp2
  go_loop [5] (fun i => ∃ k : Nat,k ≤ l.length ∧ i = .int .i64 k ∧ Hid (∀ j,j < k → gi l j ≠ v)) (fun i => l.length - (intOf i).toNat)
  case atStart => exact ⟨0,by omega,rfl,fun j hj => by omega⟩
  case round =>
    obtain ⟨k,hk,rfl,HK⟩ := hrel
    by_cases hlt : k < l.length
    · obtain ⟨b,off,rfl,hc⟩ := ha k hlt
      by_cases h1 : gi l k = v
      · have hb : (gi l k == v) = true := by simp [h1]
        have HI := Lib.hid (HM.out.1 k hlt h1)
        clear h1
        go_wp2
        go_ret
        exact ⟨ret_bool (by simp [HI.out]),rfl⟩
      · have H1 := Lib.hid h1
        have hb : (gi l k == v) = false := by simpa using h1
        clear h1
        go_wp2
        go_round
        case rel => exact ⟨k + 1,by omega,by go_num,fun j hj => by
          by_cases e : j = k
          · subst e; exact H1.out
          · exact HK.out j (by omega)⟩
        case measure => simp [intOf]; omega
    · obtain rfl : k = l.length := by omega
      have HI := Lib.hid (HM.out.2 HK.out)
      go_wp2
      go_ret
      exact ⟨ret_bool (by simp [HI.out]),rfl⟩
/-- Which of two numbers comes first in a list. -/
def comesB : List Int → Int → Int → Bool
  | [],_,_ => false
  | x :: r,a,b => if x = a then true else if x = b then false else comesB r a b
theorem comes_drop {l : List Int} {x y : Int} {k : Nat} (hk : k < l.length) : comesB (l.drop k) x y = if gi l k = x then true else if gi l k = y then false else comesB (l.drop (k + 1)) x y := by
  rw [List.drop_eq_getElem_cons hk]
  have : l[k] = gi l k := by simp [gi,hk]
  rw [this]
  rfl
set_option maxHeartbeats 1000000 in
theorem comes39 {l : List Int} {x y : Int} (hl : l.length ≤ 1000) {a : Option Addr} {cap : Nat} {w : World} (ha : IsInts w a l) :
    Calls Try.prog 39 #[.slice a l.length cap,.int .i64 x,.int .i64 y] w fun e w' => e = .returned (.bool (comesB l x y)) ∧ w = w' := by
  have HD : Hid (∀ k,k < l.length → comesB (l.drop k) x y = if gi l k = x then true else if gi l k = y then false else comesB (l.drop (k + 1)) x y) := fun k hk => comes_drop hk
  go_enter Try.func39,Try.ntmps39
  go_wp2
  go_loop [7] (fun i => ∃ k : Nat,k ≤ l.length ∧ i = .int .i64 k ∧ Hid (comesB l x y = comesB (l.drop k) x y)) (fun i => l.length - (intOf i).toNat)
  case atStart => exact ⟨0,by omega,rfl,rfl⟩
  case round =>
    obtain ⟨k,hk,rfl,HK⟩ := hrel
    by_cases hlt : k < l.length
    · obtain ⟨b,off,rfl,hc⟩ := ha k hlt
      have HI := Lib.hid (HD.out k hlt)
      by_cases h1 : gi l k = x
      · have hb : (gi l k == x) = true := by simp [h1]
        rw [if_pos h1] at HI
        clear h1
        go_wp2
        go_ret
        exact ⟨ret_bool (by rw [HK.out,HI.out]),rfl⟩
      · have hb : (gi l k == x) = false := by simpa using h1
        rw [if_neg h1] at HI
        clear h1
        by_cases h2 : gi l k = y
        · have hb2 : (gi l k == y) = true := by simp [h2]
          rw [if_pos h2] at HI
          clear h2
          go_wp2
          go_ret
          exact ⟨ret_bool (by rw [HK.out,HI.out]),rfl⟩
        · have hb2 : (gi l k == y) = false := by simpa using h2
          rw [if_neg h2] at HI
          clear h2
          go_wp2
          go_round
          case rel => exact ⟨k + 1,by omega,by go_num,by rw [Hid,HK.out,HI.out]⟩
          case measure => simp [intOf]; omega
    · obtain rfl : k = l.length := by omega
      go_wp2
      go_ret
      exact ⟨ret_bool (by rw [HK.out,List.drop_length]; rfl),rfl⟩
/-- The time that an order takes at most. -/
def Tr.takes (t : Tr) (o : List Int) : Int := (t.at_ o o.length).2.2
set_option maxRecDepth 100000 in
set_option maxHeartbeats 1000000 in
theorem takes42 {t : Tr} {A : TrA} {w : World} (ht : IsTr w t A) (hF : t.Fit) {o : List Int} (hl : o.length ≤ 16) (ho : ∀ x ∈ o,t.view x = true) {a : Option Addr} {cap : Nat} (ha : IsInts w a o) :
    Calls Try.prog 42 #[t.v A,.slice a o.length cap] w fun e w' => e = .returned (.int .i64 (t.takes o)) ∧ Below w.heap.size w w' := by
  have hbw : Below w.heap.size w (w.alloc (.cells (t.cells A) 25)) := (Below.refl _ w).alloc (Nat.le_refl _) _
  have hq := World.alloc_heap_new w (.cells (t.cells A) 25)
  have HB := Lib.hid (And.intro hbw (And.intro hq (And.intro (ha.mono hbw) (ht.mono hbw))))
  have HF := Lib.hid (And.intro hF ho)
  have HSZ : Hid (w.heap.size ≤ (w.alloc (.cells (t.cells A) 25)).heap.size) := by simp [Hid]
  clear hbw hq ha ht hF ho
  go_enter Try.func42,Try.ntmps42
  go_upto_region 1 with fail
  revert HB HSZ
  generalize (w.alloc (.cells (t.cells A) 25)) = w1
  intro HB HSZ
  obtain ⟨k0,k1,k2,k3,k4⟩ := tr_cells HB.out.2.1
  go_wp2_with fail
  refine (rwalk56 (cap := cap) HB.out.2.2.2 HF.out.1 hl HF.out.2 HB.out.2.2.1 true).mono ?_
  rintro e w2 ⟨v,rfl,hown,hb2⟩
  have HB2 := Lib.hid (HB.out.1.trans (hb2.mono HSZ.out))
  have HV : Hid (sel true (t.at_ o o.length).2 = t.takes o) := rfl
  rw [HV.out]
  obtain ⟨av,cv,rfl,_,_⟩ := own_slice hown
  clear hown hb2
  go_wp2_with fail
  go_ret
  exact ⟨rfl,HB2.out⟩
end Go.Proofs.Ytphefhpmbahagaa
