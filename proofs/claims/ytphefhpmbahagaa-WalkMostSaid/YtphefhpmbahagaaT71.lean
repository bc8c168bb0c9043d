/- Another order, by remainders: the drawn region and the walk of other. -/
import Derived.Test.YtphefhpmbahagaaT8
namespace Go.Proofs.Ytphefhpmbahagaa
open Go.RowKit
set_option linter.unusedVariables false
set_option linter.unusedSimpArgs false

def IsPerm (n : Nat) (o : List Int) : Prop := o.length = n ∧ o.Nodup ∧ ∀ x ∈ o, 0 ≤ x ∧ x < n
theorem perm_of {n : Nat} {a b : List Int} (h : a.Perm b) (hb : IsPerm n b) : IsPerm n a :=
  ⟨by rw [h.length_eq]; exact hb.1, h.nodup_iff.2 hb.2.1, fun x hx => hb.2.2 x (h.mem_iff.1 hx)⟩
theorem perm_pick {n : Nat} {own free : List Int} {k : Nat} (hk : k < free.length) (h : IsPerm n (own ++ free)) : IsPerm n ((own ++ [gi free k]) ++ free.eraseIdx k) := by
  refine perm_of ?_ h
  rw [List.append_assoc]
  refine List.Perm.append_left own ?_
  have e : gi free k = free[k] := by simp [gi, hk]
  rw [e]
  rw [List.eraseIdx_eq_take_drop_succ]
  have h : free = free.take k ++ free[k] :: free.drop (k + 1) := by
    conv => lhs; rw [← List.take_append_drop k free, List.drop_eq_getElem_cons hk]
  have h2 := (List.perm_middle (a := free[k]) (l₁ := free.take k) (l₂ := free.drop (k + 1))).symm
  rw [← h] at h2
  exact h2
theorem perm_range (n : Nat) : IsPerm n ((List.range n).map fun (k : Nat) => (k : Int)) := by
  refine ⟨by simp, ?_, fun x hx => ?_⟩
  · unfold List.Nodup
    rw [List.pairwise_map]
    exact List.nodup_range.imp (fun h e => h (by omega))
  · rw [List.mem_map] at hx
    obtain ⟨k, hk, rfl⟩ := hx
    have : k < n := by simpa using hk
    omega
theorem made_ints (n : Nat) : madeCells #[.int .i64 0] n = intArr (List.replicate n 0) := by
  apply Array.ext
  · simp [madeCells, intArr]
  · intro i h1 h2
    simp [madeCells, intArr, Nat.mod_one]
/-- Bytes that are handed in. -/
def IsU8 (w : World) (a : Option Addr) (n : Nat) : Prop := ∀ i, i < n → ∃ b off, a = some ⟨b, off, none⟩ ∧ ∃ x : Int, 0 ≤ x ∧ x ≤ 255 ∧ w.cell? ⟨b, off + i, none⟩ = some (.int .u8 x)
theorem IsU8.mono {w w' : World} {a : Option Addr} {n : Nat} (h : IsU8 w a n) (hb : Below w.heap.size w w') : IsU8 w' a n := fun i hi => by
  obtain ⟨b, off, e, x, h0, h1, hc⟩ := h i hi
  exact ⟨b, off, e, x, h0, h1, cell_stays hb hc⟩
/-- What lies in memory while cards are picked. -/
structure PkW (n fb : Nat) (own free : List Int) (ao : Option Addr) (co : Nat) (w0 w : World) : Prop where
  below : Below w0.heap.size w0 w
  old : w0.heap.size ≤ fb
  free : ∃ cur : Array Value, w.heap[fb]? = some (.cells cur 3 (0, 0)) ∧ cur.size = n ∧ ∀ i, i < free.length → cur[i]? = some (.int .i64 (gi free i))
  own : w.ownsRow (fb + 1) 3 1 (.slice ao own.length co) own.length (own.map (Value.int .i64))
theorem PkW.mono {n fb : Nat} {own free : List Int} {ao : Option Addr} {co : Nat} {w0 w w' : World} (h : PkW n fb own free ao co w0 w) (hb : Below w.heap.size w w') : PkW n fb own free ao co w0 w' := by
  obtain ⟨cur, h1, h2⟩ := h.free
  exact ⟨h.below.trans (hb.mono h.below.size), h.old, ⟨cur, (hb.block _ (heap_lt h1)).trans h1, h2⟩, own_below h.own hb⟩
theorem PkW.lt {n fb : Nat} {own free : List Int} {ao : Option Addr} {co : Nat} {w0 w : World} (h : PkW n fb own free ao co w0 w) : fb < w.heap.size := by
  obtain ⟨cur, h1, _⟩ := h.free
  exact heap_lt h1
theorem pick_own {n fb : Nat} {own free : List Int} {ao : Option Addr} {co ms : Nat} {x : Int} {w0 w : World} (h : PkW n fb own free ao co w0 w) (hms : w.heap[ms]? = some (.cells #[.int .i64 x] 3 (0, 0))) (hl : own.length ≤ 16) :
    ∃ (r1 : Option Addr × Nat) (w' : World), (Builtin.append_ #[26, 26] 26 #[.slice ao own.length co, .slice (some ⟨ms, 0, none⟩) 1 1]).run Try.prog w = .ok (.slice r1.1 (own.length + 1) r1.2) w' ∧ PkW n fb (own ++ [x]) free r1.1 r1.2 w0 w' := by
  obtain ⟨i0, hi0, hz0, hz1, hz2⟩ := info_parts infoI
  have hlt := h.lt
  obtain ⟨v', w', hr, hn, hg, _⟩ := append_keep (P := Try.prog) (w := w) (fb + 1) 26 26 3 i0 _ 8 Try.underlying26 hi0 hz0 hz1 hz2 rfl _ _ _ h.own ⟨ms, 0, none⟩ (.int .i64 x) (by rw [cell_of_heap hms]; rfl) rfl (by simp [maxLen]; omega) (by omega) (by omega)
  obtain ⟨a', c', rfl, _⟩ := own_slice hn
  obtain ⟨cur, h1, h2⟩ := h.free
  have hold := h.old
  refine ⟨(a', c'), w', hr, ⟨h.below.grown hg (by have := h.below.size; omega) (fun k hk => by have := (h.own.lt k hk).1; omega), hold, ⟨cur, (hg.block fb hlt (fun e => by have := (h.own.lt fb e.symm).1; omega)).trans h1, h2⟩, ?_⟩⟩
  have e : (own ++ [x]).length = own.length + 1 := by simp
  have e2 : (own ++ [x]).map (Value.int .i64) = own.map (Value.int .i64) ++ [.int .i64 x] := by simp
  rw [e, e2]
  exact hn
theorem gi_erase {l : List Int} {k i : Nat} : gi (l.eraseIdx k) i = if i < k then gi l i else gi l (i + 1) := by
  unfold gi
  simp only [List.getD_eq_getElem?_getD, List.getElem?_eraseIdx]
  split <;> rfl
theorem pick_free {n fb : Nat} {own free : List Int} {ao : Option Addr} {co k : Nat} {at_ : Option Addr} {w0 w : World} (h : PkW n fb own free ao co w0 w) (hk : k < free.length) (hn : free.length ≤ n) (hat : (if n = k + 1 then some (⟨fb, 0, none⟩ : Addr) else some ⟨fb, k + 1, none⟩) = at_) :
    ∃ (r2 : Option Addr × Nat) (w' : World), (Builtin.append_ #[26, 26] 26 #[.slice (some ⟨fb, 0, none⟩) k n, .slice at_ (free.length - (k + 1)) (n - (k + 1))]).run Try.prog w = .ok (.slice r2.1 (free.length - 1) r2.2) w' ∧ (PkW n fb own (free.eraseIdx k) ao co w0 w' ∧ r2 = (some ⟨fb, 0, none⟩, n)) := by
  obtain ⟨i0, hi0, hz0, hz1, hz2⟩ := info_parts infoI
  obtain ⟨cur, h1, h2, h3⟩ := h.free
  obtain ⟨ad, hadr, had⟩ : ∃ ad : Addr, at_ = some ad ∧ (k + 1 < free.length → ad = ⟨fb, k + 1, none⟩) := by
    by_cases e : n = k + 1
    · rw [if_pos e] at hat
      exact ⟨_, hat.symm, fun h => by omega⟩
    · rw [if_neg e] at hat
      exact ⟨_, hat.symm, fun _ => rfl⟩
  subst hadr
  have hsz : i0.size = 1 := hz1
  have hnl : ((free.drop (k + 1)).map (Value.int .i64)).length = free.length - (k + 1) := by simp
  have hr := run_append_room (P := Try.prog) w 26 26 3 i0 Try.underlying26 hi0 fb k n cur h1 ad (free.length - (k + 1)) (n - (k + 1)) ((free.drop (k + 1)).map (Value.int .i64)) (by rw [hnl, hsz, Nat.mul_one]) (fun j u hj => by
      have hjl : j < free.length - (k + 1) := by have := (List.getElem?_eq_some_iff.1 hj).1; simpa using this
      rw [had (by omega)]
      have e2 : ((⟨fb, k + 1, none⟩ : Addr).add j) = ⟨fb, k + 1 + j, none⟩ := by unfold Addr.add; split <;> simp_all
      rw [e2, cell_of_heap h1, h3 (k + 1 + j) (by omega)]
      rw [List.getElem?_map, List.getElem?_drop] at hj
      have hb : k + 1 + j < free.length := by omega
      simp [hb] at hj
      rw [← hj]
      simp [gi, hb]) (by intro u hu; rw [List.mem_map] at hu; obtain ⟨x, _, rfl⟩ := hu; rfl) (by omega) (by rw [hnl, hsz, h2]; omega)
  have e1 : k + (free.length - (k + 1)) = free.length - 1 := by omega
  rw [e1] at hr
  refine ⟨(some ⟨fb, 0, none⟩, n), _, hr, ⟨?_, ?_, ?_, ?_⟩, rfl⟩
  · exact h.below.trans ⟨rfl, rfl, rfl, by simp, fun q hq => setRow_other w fb q _ (by have := h.old; omega)⟩
  · exact h.old
  · refine ⟨_, setRow_heap w fb cur _ 3 (0, 0) h1, ?_, fun i hi => ?_⟩
    · rw [hsz]
      simp [hnl, h2]
      omega
    · rw [hsz, Nat.mul_one]
      have hil : i < free.length - 1 := by rw [List.length_eraseIdx_of_lt hk] at hi; exact hi
      rw [List.getElem?_toArray, gi_erase]
      by_cases hik : i < k
      · rw [if_pos hik, List.append_assoc, List.getElem?_append_left (by simp [h2]; omega), List.getElem?_take, if_pos hik]
        simpa using h3 i (by omega)
      · rw [if_neg hik, List.append_assoc, List.getElem?_append_right (by simp [h2]; omega), List.getElem?_append_left (by simp [h2]; omega)]
        rw [List.getElem?_map, List.getElem?_drop]
        have e5 : k + 1 + (i - (cur.toList.take k).length) = i + 1 := by simp [h2]; omega
        rw [e5]
        have hb : i + 1 < free.length := by omega
        simp [gi, hb]
  · exact own_blocks h.own (fun g hg => setRow_other w fb g _ (by have := (h.own.lt g hg).1; omega))
theorem rangeL_gi {n k : Nat} (h : k < n) : gi ((List.range n).map fun (i : Nat) => (i : Int)) k = (k : Int) := by simp [gi, h]
structure pick14F (ao : Option Addr) (j : Nat) (co : Nat) (fb : Nat) (ln : Nat) (cf : Nat) (k : Nat) (x : Int) (at_ : Option Addr) (S0 : World → Prop) (S1 : Nat → World → Prop) (S2 : Nat → Option Addr × Nat → World → Prop) (S3 : Nat → Option Addr × Nat → Option Addr × Nat → World → Prop) (d : Nat → Bool) (x40 x41 x42 x43 x44 x45 x46 x47 x48 x49 x50 x51 x52 x53 x54 x5 x6 : Value) (ms : Nat) (r1 : Option Addr × Nat) (r2 : Option Addr × Nat) (w : World) : Prop where
  q3 : d 3 = true → d 1 = true ∧ d 2 = true
  q4 : d 4 = true → d 3 = true
  q5 : d 5 = true → d 4 = true
  q6 : d 6 = true → d 0 = true ∧ d 5 = true
  q9 : d 9 = true → d 7 = true ∧ d 8 = true
  q12 : d 12 = true → d 11 = true
  q13 : d 13 = true → d 10 = true ∧ d 12 = true
  q14 : d 14 = true → d 6 = true ∧ d 9 = true ∧ d 13 = true
  q15 : d 15 = true → d 0 = true ∧ d 1 = true ∧ d 2 = true ∧ d 3 = true ∧ d 4 = true ∧ d 5 = true ∧ d 6 = true ∧ d 14 = true
  q16 : d 16 = true → d 0 = true ∧ d 1 = true ∧ d 2 = true ∧ d 3 = true ∧ d 4 = true ∧ d 5 = true ∧ d 6 = true ∧ d 7 = true ∧ d 8 = true ∧ d 9 = true ∧ d 10 = true ∧ d 11 = true ∧ d 12 = true ∧ d 13 = true ∧ d 14 = true ∧ d 15 = true
  f0 : d 0 = true → x40 = .slice ao j co
  f1 : d 1 = true → x41 = .slice (some ⟨fb, 0, none⟩) ln cf
  f2 : d 2 = true → x42 = .int .i64 k
  f3 : d 3 = true → x43 = .pointer (some ⟨fb, k, none⟩)
  f4 : d 4 = true → x44 = .int .i64 x
  f5 : d 5 = true → x45 = .slice (some ⟨ms, 0, none⟩) 1 1
  f6 : d 6 = true → x46 = .slice r1.1 (j + 1) r1.2
  f7 : d 7 = true → x47 = .slice (some ⟨fb, 0, none⟩) ln cf
  f8 : d 8 = true → x48 = .int .i64 k
  f9 : d 9 = true → x49 = .slice (some ⟨fb, 0, none⟩) k cf
  f10 : d 10 = true → x50 = .slice (some ⟨fb, 0, none⟩) ln cf
  f11 : d 11 = true → x51 = .int .i64 k
  f12 : d 12 = true → x52 = .int .i64 ((k : Int) + 1)
  f13 : d 13 = true → x53 = .slice at_ (ln - (k + 1)) (cf - (k + 1))
  f14 : d 14 = true → x54 = .slice r2.1 (ln - 1) r2.2
  f15 : d 15 = true → x5 = .slice r1.1 (j + 1) r1.2
  f16 : d 16 = true → x6 = .slice r2.1 (ln - 1) r2.2
  g15 : d 15 = false → .slice ao j co = x5
  g16 : d 16 = false → .slice (some ⟨fb, 0, none⟩) ln cf = x6
  st0 : d 5 = false → S0 w
  st1 : d 5 = true → d 6 = false → S1 ms w
  st2 : d 6 = true → d 14 = false → S2 ms r1 w
  st3 : d 14 = true → S3 ms r1 r2 w
noncomputable def pick14C : Code := (Try.f37.body.bind (regionAt 14)).getD .skip
set_option maxRecDepth 100000 in
set_option maxHeartbeats 4000000 in
theorem pick14 {ao : Option Addr} {j : Nat} {co : Nat} {fb : Nat} {ln : Nat} {cf : Nat} {k : Nat} {x : Int} {at_ : Option Addr} {S0 : World → Prop} {S1 : Nat → World → Prop} {S2 : Nat → Option Addr × Nat → World → Prop} {S3 : Nat → Option Addr × Nat → Option Addr × Nat → World → Prop} {Q : Exit → Act → World → Prop} {W1 : World} (hk : k < ln) (hln : ln ≤ 16) (hcf : ln ≤ cf) (hcf2 : cf ≤ 16) (hat : (if cf = k + 1 then some (⟨fb, 0, none⟩ : Addr) else some ⟨fb, k + 1, none⟩) = at_) (h0 : S0 W1.drew)
    (kl4 : Hid (∀ (w : World), (S0 w) → w.cell? ⟨fb, k, none⟩ = some (.int .i64 x)))
    (kc5 : Hid (∀ (w : World), S0 w → S1 w.heap.size (w.alloc (.cells #[.int .i64 x] 3))))
    (kc6 : Hid (∀ (ms : Nat) (w : World), S1 ms w → ∃ (r1 : Option Addr × Nat) (w' : World), (Builtin.append_ #[26, 26] 26 #[.slice ao j co, .slice (some ⟨ms, 0, none⟩) 1 1]).run Try.prog w = .ok (.slice r1.1 (j + 1) r1.2) w' ∧ S2 ms r1 w'))
    (kc14 : Hid (∀ (ms : Nat) (r1 : Option Addr × Nat) (w : World), S2 ms r1 w → ∃ (r2 : Option Addr × Nat) (w' : World), (Builtin.append_ #[26, 26] 26 #[.slice (some ⟨fb, 0, none⟩) k cf, .slice at_ (ln - (k + 1)) (cf - (k + 1))]).run Try.prog w = .ok (.slice r2.1 (ln - 1) r2.2) w' ∧ S3 ms r1 r2 w'))
    {s0 s1 s2 s3 s4 s7 s8 s10 s11 s12 s13 s14 s15 s16 s17 s18 s19 s20 s21 s22 s23 s24 s25 s26 s27 s28 s29 s30 s31 s32 s33 s34 s35 s36 s37 s38 s39 s40 s41 s42 s43 s44 s45 s46 s47 s48 s49 s50 s51 s52 s53 s54 s55 s56 : Value} {dd : List Deferred}
    (hQ : ∀ (ms : Nat) (r1 : Option Addr × Nat) (r2 : Option Addr × Nat) (w' : World), S3 ms r1 r2 w' → Q .normal { tmps := #[s0, s1, s2, s3, s4, .slice r1.1 (j + 1) r1.2, .slice r2.1 (ln - 1) r2.2, s7, s8, .int .i64 k, s10, s11, s12, s13, s14, s15, s16, s17, s18, s19, s20, s21, s22, s23, s24, s25, s26, s27, s28, s29, s30, s31, s32, s33, s34, s35, s36, s37, s38, s39, .slice ao j co, .slice (some ⟨fb, 0, none⟩) ln cf, .int .i64 k, .pointer (some ⟨fb, k, none⟩), .int .i64 x, .slice (some ⟨ms, 0, none⟩) 1 1, .slice r1.1 (j + 1) r1.2, .slice (some ⟨fb, 0, none⟩) ln cf, .int .i64 k, .slice (some ⟨fb, 0, none⟩) k cf, .slice (some ⟨fb, 0, none⟩) ln cf, .int .i64 k, .int .i64 ((k : Int) + 1), .slice at_ (ln - (k + 1)) (cf - (k + 1)), .slice r2.1 (ln - 1) r2.2, s55, s56], defers := dd } w') :
    Code.wpIn (wideAt none) 0 Try.prog pick14C Q { tmps := #[s0, s1, s2, s3, s4, .slice ao j co, .slice (some ⟨fb, 0, none⟩) ln cf, s7, s8, .int .i64 k, s10, s11, s12, s13, s14, s15, s16, s17, s18, s19, s20, s21, s22, s23, s24, s25, s26, s27, s28, s29, s30, s31, s32, s33, s34, s35, s36, s37, s38, s39, s40, s41, s42, s43, s44, s45, s46, s47, s48, s49, s50, s51, s52, s53, s54, s55, s56], defers := dd } W1 := by
  have HQ := Lib.hid hQ
  clear hQ
  conv => arg 4; whnf
  refine wpIn_region_invG mixed (by kernel_rfl) (fun d_ a_ w' => ∃ (x40 : Value) (x41 : Value) (x42 : Value) (x43 : Value) (x44 : Value) (x45 : Value) (x46 : Value) (x47 : Value) (x48 : Value) (x49 : Value) (x50 : Value) (x51 : Value) (x52 : Value) (x53 : Value) (x54 : Value) (x5 : Value) (x6 : Value) (ms : Nat) (r1 : Option Addr × Nat) (r2 : Option Addr × Nat), a_ = { tmps := #[s0, s1, s2, s3, s4, x5, x6, s7, s8, .int .i64 k, s10, s11, s12, s13, s14, s15, s16, s17, s18, s19, s20, s21, s22, s23, s24, s25, s26, s27, s28, s29, s30, s31, s32, s33, s34, s35, s36, s37, s38, s39, x40, x41, x42, x43, x44, x45, x46, x47, x48, x49, x50, x51, x52, x53, x54, s55, s56], defers := dd } ∧ pick14F ao j co fb ln cf k x at_ S0 S1 S2 S3 d_ x40 x41 x42 x43 x44 x45 x46 x47 x48 x49 x50 x51 x52 x53 x54 x5 x6 ms r1 r2 w') ?_ ?_ ?_
  · refine ⟨s40, s41, s42, s43, s44, s45, s46, s47, s48, s49, s50, s51, s52, s53, s54, (.slice ao j co), (.slice (some ⟨fb, 0, none⟩) ln cf), 0, default, default, rfl, ?_⟩
    constructor <;> first | rfl | (intro _; rfl) | (intro h; cases h; done) | (intro _; exact h0) | exact h0
  · refine ⟨?_, ?_, ?_, ?_, ?_, ?_, ?_, ?_, ?_, ?_, ?_, ?_, ?_, ?_, ?_, ?_, ?_, trivial⟩
    all_goals
      rintro d_ a_ w1 K hd_ hdep ⟨x40, x41, x42, x43, x44, x45, x46, x47, x48, x49, x50, x51, x52, x53, x54, x5, x6, ms, r1, r2, rfl, F⟩ HK
      simp [Region.binds] at hdep
    · have n15_ : d_ 15 = false := by
        cases e_ : d_ 15 with
        | false => rfl
        | true => have h2 := (F.q15 e_).1; rw [show d_ 0 = false from hd_] at h2; cases h2
      have g15_ := F.g15 n15_
      subst g15_
      have HF : Hid (pick14F ao j co fb ln cf k x at_ S0 S1 S2 S3 (upd d_ 0) (.slice ao j co) x41 x42 x43 x44 x45 x46 x47 x48 x49 x50 x51 x52 x53 x54 (.slice ao j co) x6 ms r1 r2 w1) := ⟨F.q3, F.q4, F.q5, fun h => ⟨rfl, (F.q6 h).2⟩, F.q9, F.q12, F.q13, F.q14, fun h => ⟨rfl, (F.q15 h).2.1, (F.q15 h).2.2.1, (F.q15 h).2.2.2.1, (F.q15 h).2.2.2.2.1, (F.q15 h).2.2.2.2.2.1, (F.q15 h).2.2.2.2.2.2.1, (F.q15 h).2.2.2.2.2.2.2⟩, fun h => ⟨rfl, (F.q16 h).2.1, (F.q16 h).2.2.1, (F.q16 h).2.2.2.1, (F.q16 h).2.2.2.2.1, (F.q16 h).2.2.2.2.2.1, (F.q16 h).2.2.2.2.2.2.1, (F.q16 h).2.2.2.2.2.2.2.1, (F.q16 h).2.2.2.2.2.2.2.2.1, (F.q16 h).2.2.2.2.2.2.2.2.2.1, (F.q16 h).2.2.2.2.2.2.2.2.2.2.1, (F.q16 h).2.2.2.2.2.2.2.2.2.2.2.1, (F.q16 h).2.2.2.2.2.2.2.2.2.2.2.2.1, (F.q16 h).2.2.2.2.2.2.2.2.2.2.2.2.2.1, (F.q16 h).2.2.2.2.2.2.2.2.2.2.2.2.2.2.1, (F.q16 h).2.2.2.2.2.2.2.2.2.2.2.2.2.2.2⟩, fun _ => rfl, F.f1, F.f2, F.f3, F.f4, F.f5, F.f6, F.f7, F.f8, F.f9, F.f10, F.f11, F.f12, F.f13, F.f14, F.f15, F.f16, F.g15, F.g16, F.st0, F.st1, F.st2, F.st3⟩
      clear F
      go_simp
      exact HK.out _ _ ⟨_, _, _, _, _, _, _, _, _, _, _, _, _, _, _, _, _, _, _, _, rfl, HF.out⟩
    · have n16_ : d_ 16 = false := by
        cases e_ : d_ 16 with
        | false => rfl
        | true => have h2 := (F.q16 e_).2.1; rw [show d_ 1 = false from hd_] at h2; cases h2
      have g16_ := F.g16 n16_
      subst g16_
      have HF : Hid (pick14F ao j co fb ln cf k x at_ S0 S1 S2 S3 (upd d_ 1) x40 (.slice (some ⟨fb, 0, none⟩) ln cf) x42 x43 x44 x45 x46 x47 x48 x49 x50 x51 x52 x53 x54 x5 (.slice (some ⟨fb, 0, none⟩) ln cf) ms r1 r2 w1) := ⟨fun h => ⟨rfl, (F.q3 h).2⟩, F.q4, F.q5, F.q6, F.q9, F.q12, F.q13, F.q14, fun h => ⟨(F.q15 h).1, rfl, (F.q15 h).2.2.1, (F.q15 h).2.2.2.1, (F.q15 h).2.2.2.2.1, (F.q15 h).2.2.2.2.2.1, (F.q15 h).2.2.2.2.2.2.1, (F.q15 h).2.2.2.2.2.2.2⟩, fun h => ⟨(F.q16 h).1, rfl, (F.q16 h).2.2.1, (F.q16 h).2.2.2.1, (F.q16 h).2.2.2.2.1, (F.q16 h).2.2.2.2.2.1, (F.q16 h).2.2.2.2.2.2.1, (F.q16 h).2.2.2.2.2.2.2.1, (F.q16 h).2.2.2.2.2.2.2.2.1, (F.q16 h).2.2.2.2.2.2.2.2.2.1, (F.q16 h).2.2.2.2.2.2.2.2.2.2.1, (F.q16 h).2.2.2.2.2.2.2.2.2.2.2.1, (F.q16 h).2.2.2.2.2.2.2.2.2.2.2.2.1, (F.q16 h).2.2.2.2.2.2.2.2.2.2.2.2.2.1, (F.q16 h).2.2.2.2.2.2.2.2.2.2.2.2.2.2.1, (F.q16 h).2.2.2.2.2.2.2.2.2.2.2.2.2.2.2⟩, F.f0, fun _ => rfl, F.f2, F.f3, F.f4, F.f5, F.f6, F.f7, F.f8, F.f9, F.f10, F.f11, F.f12, F.f13, F.f14, F.f15, F.f16, F.g15, F.g16, F.st0, F.st1, F.st2, F.st3⟩
      clear F
      go_simp
      exact HK.out _ _ ⟨_, _, _, _, _, _, _, _, _, _, _, _, _, _, _, _, _, _, _, _, rfl, HF.out⟩
    · have HF : Hid (pick14F ao j co fb ln cf k x at_ S0 S1 S2 S3 (upd d_ 2) x40 x41 (.int .i64 k) x43 x44 x45 x46 x47 x48 x49 x50 x51 x52 x53 x54 x5 x6 ms r1 r2 w1) := ⟨fun h => ⟨(F.q3 h).1, rfl⟩, F.q4, F.q5, F.q6, F.q9, F.q12, F.q13, F.q14, fun h => ⟨(F.q15 h).1, (F.q15 h).2.1, rfl, (F.q15 h).2.2.2.1, (F.q15 h).2.2.2.2.1, (F.q15 h).2.2.2.2.2.1, (F.q15 h).2.2.2.2.2.2.1, (F.q15 h).2.2.2.2.2.2.2⟩, fun h => ⟨(F.q16 h).1, (F.q16 h).2.1, rfl, (F.q16 h).2.2.2.1, (F.q16 h).2.2.2.2.1, (F.q16 h).2.2.2.2.2.1, (F.q16 h).2.2.2.2.2.2.1, (F.q16 h).2.2.2.2.2.2.2.1, (F.q16 h).2.2.2.2.2.2.2.2.1, (F.q16 h).2.2.2.2.2.2.2.2.2.1, (F.q16 h).2.2.2.2.2.2.2.2.2.2.1, (F.q16 h).2.2.2.2.2.2.2.2.2.2.2.1, (F.q16 h).2.2.2.2.2.2.2.2.2.2.2.2.1, (F.q16 h).2.2.2.2.2.2.2.2.2.2.2.2.2.1, (F.q16 h).2.2.2.2.2.2.2.2.2.2.2.2.2.2.1, (F.q16 h).2.2.2.2.2.2.2.2.2.2.2.2.2.2.2⟩, F.f0, F.f1, fun _ => rfl, F.f3, F.f4, F.f5, F.f6, F.f7, F.f8, F.f9, F.f10, F.f11, F.f12, F.f13, F.f14, F.f15, F.f16, F.g15, F.g16, F.st0, F.st1, F.st2, F.st3⟩
      clear F
      go_simp
      exact HK.out _ _ ⟨_, _, _, _, _, _, _, _, _, _, _, _, _, _, _, _, _, _, _, _, rfl, HF.out⟩
    · obtain rfl := F.f1 (by simp [hdep])
      obtain rfl := F.f2 (by simp [hdep])
      have HF : Hid (pick14F ao j co fb ln cf k x at_ S0 S1 S2 S3 (upd d_ 3) x40 (.slice (some ⟨fb, 0, none⟩) ln cf) (.int .i64 k) (.pointer (some ⟨fb, k, none⟩)) x44 x45 x46 x47 x48 x49 x50 x51 x52 x53 x54 x5 x6 ms r1 r2 w1) := ⟨fun _ => ⟨(show _ from (by simp [hdep] : d_ 1 = true)), (show _ from (by simp [hdep] : d_ 2 = true))⟩, fun h => rfl, F.q5, F.q6, F.q9, F.q12, F.q13, F.q14, fun h => ⟨(F.q15 h).1, (F.q15 h).2.1, (F.q15 h).2.2.1, rfl, (F.q15 h).2.2.2.2.1, (F.q15 h).2.2.2.2.2.1, (F.q15 h).2.2.2.2.2.2.1, (F.q15 h).2.2.2.2.2.2.2⟩, fun h => ⟨(F.q16 h).1, (F.q16 h).2.1, (F.q16 h).2.2.1, rfl, (F.q16 h).2.2.2.2.1, (F.q16 h).2.2.2.2.2.1, (F.q16 h).2.2.2.2.2.2.1, (F.q16 h).2.2.2.2.2.2.2.1, (F.q16 h).2.2.2.2.2.2.2.2.1, (F.q16 h).2.2.2.2.2.2.2.2.2.1, (F.q16 h).2.2.2.2.2.2.2.2.2.2.1, (F.q16 h).2.2.2.2.2.2.2.2.2.2.2.1, (F.q16 h).2.2.2.2.2.2.2.2.2.2.2.2.1, (F.q16 h).2.2.2.2.2.2.2.2.2.2.2.2.2.1, (F.q16 h).2.2.2.2.2.2.2.2.2.2.2.2.2.2.1, (F.q16 h).2.2.2.2.2.2.2.2.2.2.2.2.2.2.2⟩, F.f0, F.f1, F.f2, fun _ => rfl, F.f4, F.f5, F.f6, F.f7, F.f8, F.f9, F.f10, F.f11, F.f12, F.f13, F.f14, F.f15, F.f16, F.g15, F.g16, F.st0, F.st1, F.st2, F.st3⟩
      clear F
      go_simp
      exact HK.out _ _ ⟨_, _, _, _, _, _, _, _, _, _, _, _, _, _, _, _, _, _, _, _, rfl, HF.out⟩
    · have hst : S0 w1 := by
        have n_ : d_ 5 = false := by
          cases e_ : d_ 5 with
          | false => rfl
          | true => have h2 := (F.q5 e_); rw [show d_ 4 = false from hd_] at h2; cases h2
        exact (F.st0 n_)
      have kk := kl4.out w1 hst
      clear hst
      obtain rfl := F.f3 (by simp [hdep])
      have HF : Hid (pick14F ao j co fb ln cf k x at_ S0 S1 S2 S3 (upd d_ 4) x40 x41 x42 (.pointer (some ⟨fb, k, none⟩)) (.int .i64 x) x45 x46 x47 x48 x49 x50 x51 x52 x53 x54 x5 x6 ms r1 r2 w1) := ⟨F.q3, fun _ => (show _ from (by simp [hdep] : d_ 3 = true)), fun h => rfl, F.q6, F.q9, F.q12, F.q13, F.q14, fun h => ⟨(F.q15 h).1, (F.q15 h).2.1, (F.q15 h).2.2.1, (F.q15 h).2.2.2.1, rfl, (F.q15 h).2.2.2.2.2.1, (F.q15 h).2.2.2.2.2.2.1, (F.q15 h).2.2.2.2.2.2.2⟩, fun h => ⟨(F.q16 h).1, (F.q16 h).2.1, (F.q16 h).2.2.1, (F.q16 h).2.2.2.1, rfl, (F.q16 h).2.2.2.2.2.1, (F.q16 h).2.2.2.2.2.2.1, (F.q16 h).2.2.2.2.2.2.2.1, (F.q16 h).2.2.2.2.2.2.2.2.1, (F.q16 h).2.2.2.2.2.2.2.2.2.1, (F.q16 h).2.2.2.2.2.2.2.2.2.2.1, (F.q16 h).2.2.2.2.2.2.2.2.2.2.2.1, (F.q16 h).2.2.2.2.2.2.2.2.2.2.2.2.1, (F.q16 h).2.2.2.2.2.2.2.2.2.2.2.2.2.1, (F.q16 h).2.2.2.2.2.2.2.2.2.2.2.2.2.2.1, (F.q16 h).2.2.2.2.2.2.2.2.2.2.2.2.2.2.2⟩, F.f0, F.f1, F.f2, F.f3, fun _ => rfl, F.f5, F.f6, F.f7, F.f8, F.f9, F.f10, F.f11, F.f12, F.f13, F.f14, F.f15, F.f16, F.g15, F.g16, F.st0, F.st1, F.st2, F.st3⟩
      clear F
      go_simp
      exact HK.out _ _ ⟨_, _, _, _, _, _, _, _, _, _, _, _, _, _, _, _, _, _, _, _, rfl, HF.out⟩
    · have hS := F.st0  hd_
      obtain rfl := F.f4 (by simp [hdep])
      have hres := kc5.out w1 hS
      have HF : Hid (pick14F ao j co fb ln cf k x at_ S0 S1 S2 S3 (upd d_ 5) x40 x41 x42 x43 (.int .i64 x) ((.slice (some ⟨w1.heap.size, 0, none⟩) 1 1)) x46 x47 x48 x49 x50 x51 x52 x53 x54 x5 x6 w1.heap.size r1 r2 (w1.alloc (.cells #[.int .i64 x] 3))) := ⟨F.q3, F.q4, fun _ => (show _ from (by simp [hdep] : d_ 4 = true)), fun h => ⟨(F.q6 h).1, rfl⟩, F.q9, F.q12, F.q13, F.q14, fun h => ⟨(F.q15 h).1, (F.q15 h).2.1, (F.q15 h).2.2.1, (F.q15 h).2.2.2.1, (F.q15 h).2.2.2.2.1, rfl, (F.q15 h).2.2.2.2.2.2.1, (F.q15 h).2.2.2.2.2.2.2⟩, fun h => ⟨(F.q16 h).1, (F.q16 h).2.1, (F.q16 h).2.2.1, (F.q16 h).2.2.2.1, (F.q16 h).2.2.2.2.1, rfl, (F.q16 h).2.2.2.2.2.2.1, (F.q16 h).2.2.2.2.2.2.2.1, (F.q16 h).2.2.2.2.2.2.2.2.1, (F.q16 h).2.2.2.2.2.2.2.2.2.1, (F.q16 h).2.2.2.2.2.2.2.2.2.2.1, (F.q16 h).2.2.2.2.2.2.2.2.2.2.2.1, (F.q16 h).2.2.2.2.2.2.2.2.2.2.2.2.1, (F.q16 h).2.2.2.2.2.2.2.2.2.2.2.2.2.1, (F.q16 h).2.2.2.2.2.2.2.2.2.2.2.2.2.2.1, (F.q16 h).2.2.2.2.2.2.2.2.2.2.2.2.2.2.2⟩, F.f0, F.f1, F.f2, F.f3, F.f4, fun _ => rfl, F.f6, F.f7, F.f8, F.f9, F.f10, F.f11, F.f12, F.f13, F.f14, F.f15, F.f16, F.g15, F.g16, fun h => (by simp [upd] at h), fun _ _ => hres, fun h _ => (by have h2 : d_ 5 = true := (F.q6 h).2; rw [show d_ 5 = false from hd_] at h2; cases h2), fun h => (by have h2 : d_ 5 = true := (F.q6 (F.q14 h).1).2; rw [show d_ 5 = false from hd_] at h2; cases h2)⟩
      clear F hS hres
      go_simp
      exact HK.out _ _ ⟨_, _, _, _, _, _, _, _, _, _, _, _, _, _, _, _, _, _, _, _, rfl, HF.out⟩
    · have hS := F.st1 (by simp [hdep] : d_ 5 = true) hd_
      obtain rfl := F.f0 (by simp [hdep])
      obtain rfl := F.f5 (by simp [hdep])
      obtain ⟨v_, w_, hr, hres⟩ := kc6.out ms w1 hS
      rw [if_pos (by rfl)]
      refine wpIn_append_run (.tmp 40) (.tmp 45) 26 rfl _ _ _ _ rfl rfl hr ?_
      exact HK.out _ _ ⟨_, _, _, _, _, _, _, _, _, _, _, _, _, _, _, _, _, ms, v_, r2, rfl, ⟨F.q3, F.q4, F.q5, fun _ => ⟨(show _ from (by simp [hdep] : d_ 0 = true)), (show _ from (by simp [hdep] : d_ 5 = true))⟩, F.q9, F.q12, F.q13, fun h => ⟨rfl, (F.q14 h).2.1, (F.q14 h).2.2⟩, fun h => ⟨(F.q15 h).1, (F.q15 h).2.1, (F.q15 h).2.2.1, (F.q15 h).2.2.2.1, (F.q15 h).2.2.2.2.1, (F.q15 h).2.2.2.2.2.1, rfl, (F.q15 h).2.2.2.2.2.2.2⟩, fun h => ⟨(F.q16 h).1, (F.q16 h).2.1, (F.q16 h).2.2.1, (F.q16 h).2.2.2.1, (F.q16 h).2.2.2.2.1, (F.q16 h).2.2.2.2.2.1, rfl, (F.q16 h).2.2.2.2.2.2.2.1, (F.q16 h).2.2.2.2.2.2.2.2.1, (F.q16 h).2.2.2.2.2.2.2.2.2.1, (F.q16 h).2.2.2.2.2.2.2.2.2.2.1, (F.q16 h).2.2.2.2.2.2.2.2.2.2.2.1, (F.q16 h).2.2.2.2.2.2.2.2.2.2.2.2.1, (F.q16 h).2.2.2.2.2.2.2.2.2.2.2.2.2.1, (F.q16 h).2.2.2.2.2.2.2.2.2.2.2.2.2.2.1, (F.q16 h).2.2.2.2.2.2.2.2.2.2.2.2.2.2.2⟩, F.f0, F.f1, F.f2, F.f3, F.f4, F.f5, fun _ => rfl, F.f7, F.f8, F.f9, F.f10, F.f11, F.f12, F.f13, F.f14, fun h => (by have h2 : d_ 6 = true := (F.q15 h).2.2.2.2.2.2.1; rw [show d_ 6 = false from hd_] at h2; cases h2), F.f16, F.g15, F.g16, fun h => (by have h2 : d_ 5 = false := h; rw [(by simp [hdep] : d_ 5 = true)] at h2; cases h2), fun _ h => (by simp [upd] at h), fun _ _ => hres, fun h => (by have h2 : d_ 6 = true := (F.q14 h).1; rw [show d_ 6 = false from hd_] at h2; cases h2)⟩⟩
    · have n16_ : d_ 16 = false := by
        cases e_ : d_ 16 with
        | false => rfl
        | true => have h2 := (F.q16 e_).2.2.2.2.2.2.2.1; rw [show d_ 7 = false from hd_] at h2; cases h2
      have g16_ := F.g16 n16_
      subst g16_
      have HF : Hid (pick14F ao j co fb ln cf k x at_ S0 S1 S2 S3 (upd d_ 7) x40 x41 x42 x43 x44 x45 x46 (.slice (some ⟨fb, 0, none⟩) ln cf) x48 x49 x50 x51 x52 x53 x54 x5 (.slice (some ⟨fb, 0, none⟩) ln cf) ms r1 r2 w1) := ⟨F.q3, F.q4, F.q5, F.q6, fun h => ⟨rfl, (F.q9 h).2⟩, F.q12, F.q13, F.q14, F.q15, fun h => ⟨(F.q16 h).1, (F.q16 h).2.1, (F.q16 h).2.2.1, (F.q16 h).2.2.2.1, (F.q16 h).2.2.2.2.1, (F.q16 h).2.2.2.2.2.1, (F.q16 h).2.2.2.2.2.2.1, rfl, (F.q16 h).2.2.2.2.2.2.2.2.1, (F.q16 h).2.2.2.2.2.2.2.2.2.1, (F.q16 h).2.2.2.2.2.2.2.2.2.2.1, (F.q16 h).2.2.2.2.2.2.2.2.2.2.2.1, (F.q16 h).2.2.2.2.2.2.2.2.2.2.2.2.1, (F.q16 h).2.2.2.2.2.2.2.2.2.2.2.2.2.1, (F.q16 h).2.2.2.2.2.2.2.2.2.2.2.2.2.2.1, (F.q16 h).2.2.2.2.2.2.2.2.2.2.2.2.2.2.2⟩, F.f0, F.f1, F.f2, F.f3, F.f4, F.f5, F.f6, fun _ => rfl, F.f8, F.f9, F.f10, F.f11, F.f12, F.f13, F.f14, F.f15, F.f16, F.g15, F.g16, F.st0, F.st1, F.st2, F.st3⟩
      clear F
      go_simp
      exact HK.out _ _ ⟨_, _, _, _, _, _, _, _, _, _, _, _, _, _, _, _, _, _, _, _, rfl, HF.out⟩
    · have HF : Hid (pick14F ao j co fb ln cf k x at_ S0 S1 S2 S3 (upd d_ 8) x40 x41 x42 x43 x44 x45 x46 x47 (.int .i64 k) x49 x50 x51 x52 x53 x54 x5 x6 ms r1 r2 w1) := ⟨F.q3, F.q4, F.q5, F.q6, fun h => ⟨(F.q9 h).1, rfl⟩, F.q12, F.q13, F.q14, F.q15, fun h => ⟨(F.q16 h).1, (F.q16 h).2.1, (F.q16 h).2.2.1, (F.q16 h).2.2.2.1, (F.q16 h).2.2.2.2.1, (F.q16 h).2.2.2.2.2.1, (F.q16 h).2.2.2.2.2.2.1, (F.q16 h).2.2.2.2.2.2.2.1, rfl, (F.q16 h).2.2.2.2.2.2.2.2.2.1, (F.q16 h).2.2.2.2.2.2.2.2.2.2.1, (F.q16 h).2.2.2.2.2.2.2.2.2.2.2.1, (F.q16 h).2.2.2.2.2.2.2.2.2.2.2.2.1, (F.q16 h).2.2.2.2.2.2.2.2.2.2.2.2.2.1, (F.q16 h).2.2.2.2.2.2.2.2.2.2.2.2.2.2.1, (F.q16 h).2.2.2.2.2.2.2.2.2.2.2.2.2.2.2⟩, F.f0, F.f1, F.f2, F.f3, F.f4, F.f5, F.f6, F.f7, fun _ => rfl, F.f9, F.f10, F.f11, F.f12, F.f13, F.f14, F.f15, F.f16, F.g15, F.g16, F.st0, F.st1, F.st2, F.st3⟩
      clear F
      go_simp
      exact HK.out _ _ ⟨_, _, _, _, _, _, _, _, _, _, _, _, _, _, _, _, _, _, _, _, rfl, HF.out⟩
    · obtain rfl := F.f7 (by simp [hdep])
      obtain rfl := F.f8 (by simp [hdep])
      have HF : Hid (pick14F ao j co fb ln cf k x at_ S0 S1 S2 S3 (upd d_ 9) x40 x41 x42 x43 x44 x45 x46 (.slice (some ⟨fb, 0, none⟩) ln cf) (.int .i64 k) (.slice (some ⟨fb, 0, none⟩) k cf) x50 x51 x52 x53 x54 x5 x6 ms r1 r2 w1) := ⟨F.q3, F.q4, F.q5, F.q6, fun _ => ⟨(show _ from (by simp [hdep] : d_ 7 = true)), (show _ from (by simp [hdep] : d_ 8 = true))⟩, F.q12, F.q13, fun h => ⟨(F.q14 h).1, rfl, (F.q14 h).2.2⟩, F.q15, fun h => ⟨(F.q16 h).1, (F.q16 h).2.1, (F.q16 h).2.2.1, (F.q16 h).2.2.2.1, (F.q16 h).2.2.2.2.1, (F.q16 h).2.2.2.2.2.1, (F.q16 h).2.2.2.2.2.2.1, (F.q16 h).2.2.2.2.2.2.2.1, (F.q16 h).2.2.2.2.2.2.2.2.1, rfl, (F.q16 h).2.2.2.2.2.2.2.2.2.2.1, (F.q16 h).2.2.2.2.2.2.2.2.2.2.2.1, (F.q16 h).2.2.2.2.2.2.2.2.2.2.2.2.1, (F.q16 h).2.2.2.2.2.2.2.2.2.2.2.2.2.1, (F.q16 h).2.2.2.2.2.2.2.2.2.2.2.2.2.2.1, (F.q16 h).2.2.2.2.2.2.2.2.2.2.2.2.2.2.2⟩, F.f0, F.f1, F.f2, F.f3, F.f4, F.f5, F.f6, F.f7, F.f8, fun _ => rfl, F.f10, F.f11, F.f12, F.f13, F.f14, F.f15, F.f16, F.g15, F.g16, F.st0, F.st1, F.st2, F.st3⟩
      clear F
      have hkc : (k : Int) ≤ (cf : Int) := by omega
      go_simp
      exact HK.out _ _ ⟨_, _, _, _, _, _, _, _, _, _, _, _, _, _, _, _, _, _, _, _, rfl, HF.out⟩
    · have n16_ : d_ 16 = false := by
        cases e_ : d_ 16 with
        | false => rfl
        | true => have h2 := (F.q16 e_).2.2.2.2.2.2.2.2.2.2.1; rw [show d_ 10 = false from hd_] at h2; cases h2
      have g16_ := F.g16 n16_
      subst g16_
      have HF : Hid (pick14F ao j co fb ln cf k x at_ S0 S1 S2 S3 (upd d_ 10) x40 x41 x42 x43 x44 x45 x46 x47 x48 x49 (.slice (some ⟨fb, 0, none⟩) ln cf) x51 x52 x53 x54 x5 (.slice (some ⟨fb, 0, none⟩) ln cf) ms r1 r2 w1) := ⟨F.q3, F.q4, F.q5, F.q6, F.q9, F.q12, fun h => ⟨rfl, (F.q13 h).2⟩, F.q14, F.q15, fun h => ⟨(F.q16 h).1, (F.q16 h).2.1, (F.q16 h).2.2.1, (F.q16 h).2.2.2.1, (F.q16 h).2.2.2.2.1, (F.q16 h).2.2.2.2.2.1, (F.q16 h).2.2.2.2.2.2.1, (F.q16 h).2.2.2.2.2.2.2.1, (F.q16 h).2.2.2.2.2.2.2.2.1, (F.q16 h).2.2.2.2.2.2.2.2.2.1, rfl, (F.q16 h).2.2.2.2.2.2.2.2.2.2.2.1, (F.q16 h).2.2.2.2.2.2.2.2.2.2.2.2.1, (F.q16 h).2.2.2.2.2.2.2.2.2.2.2.2.2.1, (F.q16 h).2.2.2.2.2.2.2.2.2.2.2.2.2.2.1, (F.q16 h).2.2.2.2.2.2.2.2.2.2.2.2.2.2.2⟩, F.f0, F.f1, F.f2, F.f3, F.f4, F.f5, F.f6, F.f7, F.f8, F.f9, fun _ => rfl, F.f11, F.f12, F.f13, F.f14, F.f15, F.f16, F.g15, F.g16, F.st0, F.st1, F.st2, F.st3⟩
      clear F
      go_simp
      exact HK.out _ _ ⟨_, _, _, _, _, _, _, _, _, _, _, _, _, _, _, _, _, _, _, _, rfl, HF.out⟩
    · have HF : Hid (pick14F ao j co fb ln cf k x at_ S0 S1 S2 S3 (upd d_ 11) x40 x41 x42 x43 x44 x45 x46 x47 x48 x49 x50 (.int .i64 k) x52 x53 x54 x5 x6 ms r1 r2 w1) := ⟨F.q3, F.q4, F.q5, F.q6, F.q9, fun h => rfl, F.q13, F.q14, F.q15, fun h => ⟨(F.q16 h).1, (F.q16 h).2.1, (F.q16 h).2.2.1, (F.q16 h).2.2.2.1, (F.q16 h).2.2.2.2.1, (F.q16 h).2.2.2.2.2.1, (F.q16 h).2.2.2.2.2.2.1, (F.q16 h).2.2.2.2.2.2.2.1, (F.q16 h).2.2.2.2.2.2.2.2.1, (F.q16 h).2.2.2.2.2.2.2.2.2.1, (F.q16 h).2.2.2.2.2.2.2.2.2.2.1, rfl, (F.q16 h).2.2.2.2.2.2.2.2.2.2.2.2.1, (F.q16 h).2.2.2.2.2.2.2.2.2.2.2.2.2.1, (F.q16 h).2.2.2.2.2.2.2.2.2.2.2.2.2.2.1, (F.q16 h).2.2.2.2.2.2.2.2.2.2.2.2.2.2.2⟩, F.f0, F.f1, F.f2, F.f3, F.f4, F.f5, F.f6, F.f7, F.f8, F.f9, F.f10, fun _ => rfl, F.f12, F.f13, F.f14, F.f15, F.f16, F.g15, F.g16, F.st0, F.st1, F.st2, F.st3⟩
      clear F
      go_simp
      exact HK.out _ _ ⟨_, _, _, _, _, _, _, _, _, _, _, _, _, _, _, _, _, _, _, _, rfl, HF.out⟩
    · obtain rfl := F.f11 (by simp [hdep])
      have HF : Hid (pick14F ao j co fb ln cf k x at_ S0 S1 S2 S3 (upd d_ 12) x40 x41 x42 x43 x44 x45 x46 x47 x48 x49 x50 (.int .i64 k) (.int .i64 ((k : Int) + 1)) x53 x54 x5 x6 ms r1 r2 w1) := ⟨F.q3, F.q4, F.q5, F.q6, F.q9, fun _ => (show _ from (by simp [hdep] : d_ 11 = true)), fun h => ⟨(F.q13 h).1, rfl⟩, F.q14, F.q15, fun h => ⟨(F.q16 h).1, (F.q16 h).2.1, (F.q16 h).2.2.1, (F.q16 h).2.2.2.1, (F.q16 h).2.2.2.2.1, (F.q16 h).2.2.2.2.2.1, (F.q16 h).2.2.2.2.2.2.1, (F.q16 h).2.2.2.2.2.2.2.1, (F.q16 h).2.2.2.2.2.2.2.2.1, (F.q16 h).2.2.2.2.2.2.2.2.2.1, (F.q16 h).2.2.2.2.2.2.2.2.2.2.1, (F.q16 h).2.2.2.2.2.2.2.2.2.2.2.1, rfl, (F.q16 h).2.2.2.2.2.2.2.2.2.2.2.2.2.1, (F.q16 h).2.2.2.2.2.2.2.2.2.2.2.2.2.2.1, (F.q16 h).2.2.2.2.2.2.2.2.2.2.2.2.2.2.2⟩, F.f0, F.f1, F.f2, F.f3, F.f4, F.f5, F.f6, F.f7, F.f8, F.f9, F.f10, F.f11, fun _ => rfl, F.f13, F.f14, F.f15, F.f16, F.g15, F.g16, F.st0, F.st1, F.st2, F.st3⟩
      clear F
      have hwr : IntKind.i64.wrap ((k : Int) + 1) = (k : Int) + 1 := by rw [IntKind.wrap_i64]; omega
      go_simp
      exact HK.out _ _ ⟨_, _, _, _, _, _, _, _, _, _, _, _, _, _, _, _, _, _, _, _, rfl, HF.out⟩
    · obtain rfl := F.f10 (by simp [hdep])
      obtain rfl := F.f12 (by simp [hdep])
      have HF : Hid (pick14F ao j co fb ln cf k x at_ S0 S1 S2 S3 (upd d_ 13) x40 x41 x42 x43 x44 x45 x46 x47 x48 x49 (.slice (some ⟨fb, 0, none⟩) ln cf) x51 (.int .i64 ((k : Int) + 1)) (.slice at_ (ln - (k + 1)) (cf - (k + 1))) x54 x5 x6 ms r1 r2 w1) := ⟨F.q3, F.q4, F.q5, F.q6, F.q9, F.q12, fun _ => ⟨(show _ from (by simp [hdep] : d_ 10 = true)), (show _ from (by simp [hdep] : d_ 12 = true))⟩, fun h => ⟨(F.q14 h).1, (F.q14 h).2.1, rfl⟩, F.q15, fun h => ⟨(F.q16 h).1, (F.q16 h).2.1, (F.q16 h).2.2.1, (F.q16 h).2.2.2.1, (F.q16 h).2.2.2.2.1, (F.q16 h).2.2.2.2.2.1, (F.q16 h).2.2.2.2.2.2.1, (F.q16 h).2.2.2.2.2.2.2.1, (F.q16 h).2.2.2.2.2.2.2.2.1, (F.q16 h).2.2.2.2.2.2.2.2.2.1, (F.q16 h).2.2.2.2.2.2.2.2.2.2.1, (F.q16 h).2.2.2.2.2.2.2.2.2.2.2.1, (F.q16 h).2.2.2.2.2.2.2.2.2.2.2.2.1, rfl, (F.q16 h).2.2.2.2.2.2.2.2.2.2.2.2.2.2.1, (F.q16 h).2.2.2.2.2.2.2.2.2.2.2.2.2.2.2⟩, F.f0, F.f1, F.f2, F.f3, F.f4, F.f5, F.f6, F.f7, F.f8, F.f9, F.f10, F.f11, F.f12, fun _ => rfl, F.f14, F.f15, F.f16, F.g15, F.g16, F.st0, F.st1, F.st2, F.st3⟩
      clear F
      have hk1 : (k : Int) + 1 ≤ (ln : Int) := by omega
      have hk2 : ((k : Int) + 1).toNat = k + 1 := by omega
      go_simp
      exact HK.out _ _ ⟨_, _, _, _, _, _, _, _, _, _, _, _, _, _, _, _, _, _, _, _, rfl, HF.out⟩
    · have hS := F.st2 (by simp [hdep] : d_ 6 = true) hd_
      obtain rfl := F.f9 (by simp [hdep])
      obtain rfl := F.f13 (by simp [hdep])
      obtain ⟨v_, w_, hr, hres⟩ := kc14.out ms r1 w1 hS
      rw [if_pos (by rfl)]
      refine wpIn_append_run (.tmp 49) (.tmp 53) 26 rfl _ _ _ _ rfl rfl hr ?_
      exact HK.out _ _ ⟨_, _, _, _, _, _, _, _, _, _, _, _, _, _, _, _, _, ms, r1, v_, rfl, ⟨F.q3, F.q4, F.q5, F.q6, F.q9, F.q12, F.q13, fun _ => ⟨(show _ from (by simp [hdep] : d_ 6 = true)), (show _ from (by simp [hdep] : d_ 9 = true)), (show _ from (by simp [hdep] : d_ 13 = true))⟩, fun h => ⟨(F.q15 h).1, (F.q15 h).2.1, (F.q15 h).2.2.1, (F.q15 h).2.2.2.1, (F.q15 h).2.2.2.2.1, (F.q15 h).2.2.2.2.2.1, (F.q15 h).2.2.2.2.2.2.1, rfl⟩, fun h => ⟨(F.q16 h).1, (F.q16 h).2.1, (F.q16 h).2.2.1, (F.q16 h).2.2.2.1, (F.q16 h).2.2.2.2.1, (F.q16 h).2.2.2.2.2.1, (F.q16 h).2.2.2.2.2.2.1, (F.q16 h).2.2.2.2.2.2.2.1, (F.q16 h).2.2.2.2.2.2.2.2.1, (F.q16 h).2.2.2.2.2.2.2.2.2.1, (F.q16 h).2.2.2.2.2.2.2.2.2.2.1, (F.q16 h).2.2.2.2.2.2.2.2.2.2.2.1, (F.q16 h).2.2.2.2.2.2.2.2.2.2.2.2.1, (F.q16 h).2.2.2.2.2.2.2.2.2.2.2.2.2.1, rfl, (F.q16 h).2.2.2.2.2.2.2.2.2.2.2.2.2.2.2⟩, F.f0, F.f1, F.f2, F.f3, F.f4, F.f5, F.f6, F.f7, F.f8, F.f9, F.f10, F.f11, F.f12, F.f13, fun _ => rfl, F.f15, fun h => (by have h2 : d_ 14 = true := (F.q16 h).2.2.2.2.2.2.2.2.2.2.2.2.2.2.1; rw [show d_ 14 = false from hd_] at h2; cases h2), F.g15, F.g16, fun h => (by have h2 : d_ 5 = false := h; rw [(F.q6 (by simp [hdep] : d_ 6 = true)).2] at h2; cases h2), fun _ h => (by have h2 : d_ 6 = false := h; rw [(by simp [hdep] : d_ 6 = true)] at h2; cases h2), fun _ h => (by simp [upd] at h), fun _ => hres⟩⟩
    · obtain rfl := F.f6 (by simp [hdep])
      have HF : Hid (pick14F ao j co fb ln cf k x at_ S0 S1 S2 S3 (upd d_ 15) x40 x41 x42 x43 x44 x45 (.slice r1.1 (j + 1) r1.2) x47 x48 x49 x50 x51 x52 x53 x54 (.slice r1.1 (j + 1) r1.2) x6 ms r1 r2 w1) := ⟨F.q3, F.q4, F.q5, F.q6, F.q9, F.q12, F.q13, F.q14, fun _ => ⟨(show _ from (by simp [hdep] : d_ 0 = true)), (show _ from (by simp [hdep] : d_ 1 = true)), (show _ from (by simp [hdep] : d_ 2 = true)), (show _ from (by simp [hdep] : d_ 3 = true)), (show _ from (by simp [hdep] : d_ 4 = true)), (show _ from (by simp [hdep] : d_ 5 = true)), (show _ from (by simp [hdep] : d_ 6 = true)), (show _ from (by simp [hdep] : d_ 14 = true))⟩, fun h => ⟨(F.q16 h).1, (F.q16 h).2.1, (F.q16 h).2.2.1, (F.q16 h).2.2.2.1, (F.q16 h).2.2.2.2.1, (F.q16 h).2.2.2.2.2.1, (F.q16 h).2.2.2.2.2.2.1, (F.q16 h).2.2.2.2.2.2.2.1, (F.q16 h).2.2.2.2.2.2.2.2.1, (F.q16 h).2.2.2.2.2.2.2.2.2.1, (F.q16 h).2.2.2.2.2.2.2.2.2.2.1, (F.q16 h).2.2.2.2.2.2.2.2.2.2.2.1, (F.q16 h).2.2.2.2.2.2.2.2.2.2.2.2.1, (F.q16 h).2.2.2.2.2.2.2.2.2.2.2.2.2.1, (F.q16 h).2.2.2.2.2.2.2.2.2.2.2.2.2.2.1, rfl⟩, F.f0, F.f1, F.f2, F.f3, F.f4, F.f5, F.f6, F.f7, F.f8, F.f9, F.f10, F.f11, F.f12, F.f13, F.f14, fun _ => rfl, F.f16, fun h => (by simp [upd] at h), F.g16, F.st0, F.st1, F.st2, F.st3⟩
      clear F
      go_simp
      exact HK.out _ _ ⟨_, _, _, _, _, _, _, _, _, _, _, _, _, _, _, _, _, _, _, _, rfl, HF.out⟩
    · obtain rfl := F.f14 (by simp [hdep])
      have HF : Hid (pick14F ao j co fb ln cf k x at_ S0 S1 S2 S3 (upd d_ 16) x40 x41 x42 x43 x44 x45 x46 x47 x48 x49 x50 x51 x52 x53 (.slice r2.1 (ln - 1) r2.2) x5 (.slice r2.1 (ln - 1) r2.2) ms r1 r2 w1) := ⟨F.q3, F.q4, F.q5, F.q6, F.q9, F.q12, F.q13, F.q14, F.q15, fun _ => ⟨(show _ from (by simp [hdep] : d_ 0 = true)), (show _ from (by simp [hdep] : d_ 1 = true)), (show _ from (by simp [hdep] : d_ 2 = true)), (show _ from (by simp [hdep] : d_ 3 = true)), (show _ from (by simp [hdep] : d_ 4 = true)), (show _ from (by simp [hdep] : d_ 5 = true)), (show _ from (by simp [hdep] : d_ 6 = true)), (show _ from (by simp [hdep] : d_ 7 = true)), (show _ from (by simp [hdep] : d_ 8 = true)), (show _ from (by simp [hdep] : d_ 9 = true)), (show _ from (by simp [hdep] : d_ 10 = true)), (show _ from (by simp [hdep] : d_ 11 = true)), (show _ from (by simp [hdep] : d_ 12 = true)), (show _ from (by simp [hdep] : d_ 13 = true)), (show _ from (by simp [hdep] : d_ 14 = true)), (show _ from (by simp [hdep] : d_ 15 = true))⟩, F.f0, F.f1, F.f2, F.f3, F.f4, F.f5, F.f6, F.f7, F.f8, F.f9, F.f10, F.f11, F.f12, F.f13, F.f14, F.f15, fun _ => rfl, F.g15, fun h => (by simp [upd] at h), F.st0, F.st1, F.st2, F.st3⟩
      clear F
      go_simp
      exact HK.out _ _ ⟨_, _, _, _, _, _, _, _, _, _, _, _, _, _, _, _, _, _, _, _, rfl, HF.out⟩
  · rintro d_ a_ w1 hall ⟨x40, x41, x42, x43, x44, x45, x46, x47, x48, x49, x50, x51, x52, x53, x54, x5, x6, ms, r1, r2, rfl, F⟩
    have hall' : ∀ k, k < 17 → d_ k = true := hall
    obtain rfl := F.f0 (hall' 0 (by decide))
    obtain rfl := F.f1 (hall' 1 (by decide))
    obtain rfl := F.f2 (hall' 2 (by decide))
    obtain rfl := F.f3 (hall' 3 (by decide))
    obtain rfl := F.f4 (hall' 4 (by decide))
    obtain rfl := F.f5 (hall' 5 (by decide))
    obtain rfl := F.f6 (hall' 6 (by decide))
    obtain rfl := F.f7 (hall' 7 (by decide))
    obtain rfl := F.f8 (hall' 8 (by decide))
    obtain rfl := F.f9 (hall' 9 (by decide))
    obtain rfl := F.f10 (hall' 10 (by decide))
    obtain rfl := F.f11 (hall' 11 (by decide))
    obtain rfl := F.f12 (hall' 12 (by decide))
    obtain rfl := F.f13 (hall' 13 (by decide))
    obtain rfl := F.f14 (hall' 14 (by decide))
    obtain rfl := F.f15 (hall' 15 (by decide))
    obtain rfl := F.f16 (hall' 16 (by decide))
    have hst := F.st3 (hall' 14 (by decide))
    exact HQ.out ms r1 r2 w1 hst
set_option maxRecDepth 100000 in
set_option maxHeartbeats 8000000 in
theorem other37c {n : Nat} {ab : Option Addr} {lb cb : Nat} {w : World} (hn : n ≤ 16) (hu : IsU8 w ab lb) (hlb : lb ≤ 9223372036854775807) :
    Calls Try.prog 37 #[.int .i64 (n : Int), .slice ab lb cb] w fun e w' => ∃ own ao co, e = .returned (.slice ao own.length co) ∧ IsPerm n own ∧ (∃ B, w'.ownsRow B 3 1 (.slice ao own.length co) own.length (own.map (Value.int .i64))) ∧ Below w.heap.size w w' := by
  obtain ⟨i0, hi0, hi1, hi2, hi3⟩ := info_parts infoI
  have hmk : ∀ w, (Instr.makeSlice 26 (.int .i64 (n : Int)) (.int .i64 (n : Int))).run Try.prog w = .ok (.slice (some ⟨w.heap.size, 0, none⟩) n n) (w.alloc (.cells (intArr (List.replicate n 0)) 3)) := by
    intro w
    have h := run_make (P := Try.prog) (w := w) 26 3 i0 _ Try.underlying26 hi0 hi1 .i64 .i64 (n : Int) (n : Int) (by omega) (by omega) (by rw [hi3]; omega) (by omega)
    rw [← made_ints]
    simpa [hi2, Value.cells] using h
  have HH := Lib.hid hu
  have hb1 : Below w.heap.size w (w.alloc (.cells (intArr (List.replicate n 0)) 3)) := (Below.refl _ w).alloc (Nat.le_refl _) _
  have q1 := World.alloc_heap_new w (.cells (intArr (List.replicate n 0)) 3)
  have HW1 := Lib.hid (And.intro hb1 q1)
  clear hu hi0 hi1 hi2 hi3 hb1 q1
  go_enter Try.func37, Try.ntmps37
  refine wp_seq_hid ?_
  intro K1 HK1
  go_wp2_with fail
  refine HK1.out _ _ ?_
  refine wp_seq_hid ?_
  intro K2 HK2
  go_wp2_with fail
  refine HK2.out _ _ ?_
  refine wp_seq_hid ?_
  intro K3 HK3
  go_wp2_with fail
  refine HK3.out _ _ ?_
  clear HK1 HK2 HK3
  refine wp_seq_hid ?_
  intro K4 HK4
  go_wp2_with fail
  revert HW1
  generalize hW1 : w.alloc (.cells (intArr (List.replicate n 0)) 3) = W1
  clear hW1
  intro HW1
  go_loopw [7, 14, 16, 17, 18, 19, 20, 21] (fun _ i _ _ _ _ _ _ wr => ∃ k : Nat, k ≤ n ∧ i = .int .i64 k ∧ Hid (Below w.heap.size w wr) ∧ Hid (∃ cur : Array Value, wr.heap[w.heap.size]? = some (.cells cur 3 (0, 0)) ∧ cur.size = n ∧ ∀ i, i < k → cur[i]? = some (.int .i64 (i : Nat)))) (fun _ i _ _ _ _ _ _ _ => n - (intOf i).toNat)
  case atStart => exact ⟨0, by omega, rfl, HW1.out.1, ⟨_, HW1.out.2, by simp [intArr], fun i hi => by omega⟩⟩
  case round =>
    obtain ⟨k, hk, rfl, HB, HC⟩ := hrel
    obtain ⟨cur, c1, c2, c3⟩ := HC.out
    by_cases hlt : k < n
    · have ca : ∃ u, wr.cell? ⟨w.heap.size, k, none⟩ = some u := by
        rw [cell_of_heap c1]
        exact ⟨_, Array.getElem?_eq_getElem (by omega)⟩
      obtain ⟨u, ca⟩ := ca
      have fa : wr.frozen? ⟨w.heap.size, k, none⟩ = false := frozen_of_heap c1
      have HX := Lib.hid (And.intro c1 (And.intro c2 c3))
      clear c1 c2 c3 HC
      go_wp2_with fail
      go_roundw
      case rel => exact ⟨k + 1, by omega, by go_num, HB.out.setCell (Nat.le_refl _) _, ⟨_, heap_setCell_at HX.out.1 _, by simp [HX.out.2.1], fun i hi => by
        rw [Array.getElem?_setIfInBounds]
        by_cases e : k = i
        · subst e; simp [HX.out.2.1, hlt]
        · rw [if_neg e]; exact HX.out.2.2 i (by omega)⟩⟩
      case measure => simp [intOf]; omega
    · obtain rfl : n = k := by omega
      have HX := Lib.hid (And.intro c1 (And.intro c2 c3))
      clear c1 c2 c3 HC
      have HU := Lib.hid (HH.out.mono HB.out)
      have HPK : Hid (PkW n w.heap.size [] ((List.range n).map fun (i : Nat) => (i : Int)) none 0 w wr) := ⟨HB.out, Nat.le_refl _, ⟨cur, HX.out.1, HX.out.2.1, fun i hi => by
        have hi' : i < n := by simpa using hi
        rw [rangeL_gi hi']; exact HX.out.2.2 i hi'⟩, World.ownsRow_nil _ _ _ _⟩
      go_wp2_with fail
      refine HK4.out _ _ ?_
      refine wp_seq_hid ?_
      intro K5 HK5
      go_wp2_with fail
      clear HX HB HW1
      go_loopw [5, 6, 8, 9, 23, 24, 25, 26, 27, 28, 29, 30, 31, 32, 33, 34, 35, 36, 37, 38, 39, 40, 41, 42, 43, 44, 45, 46, 47, 48, 49, 50, 51, 52, 53, 54, 55] (fun o f _ _ i _ _ _ _ _ _ _ _ _ _ _ _ _ _ _ _ _ _ _ _ _ _ _ _ _ _ _ _ _ _ _ _ wr => ∃ (j : Nat) (own free : List Int) (ao' : Option Addr) (co' : Nat), j ≤ n ∧ i = .int .i64 j ∧ own.length = j ∧ free.length + j = n ∧ o = .slice ao' own.length co' ∧ f = .slice (some ⟨w.heap.size, 0, none⟩) free.length n ∧ Hid (IsPerm n (own ++ free)) ∧ Hid (PkW n w.heap.size own free ao' co' w wr)) (fun _ _ _ _ i _ _ _ _ _ _ _ _ _ _ _ _ _ _ _ _ _ _ _ _ _ _ _ _ _ _ _ _ _ _ _ _ _ => n - (intOf i).toNat)
      case atStart => exact ⟨0, [], (List.range n).map fun (i : Nat) => (i : Int), none, 0, by omega, rfl, rfl, by simp, rfl, by simp, by simpa [Hid] using perm_range n, HPK.out⟩
      case round =>
        obtain ⟨j, own, free, ao', co', hj, rfl, hol, hfl, rfl, rfl, HPM, HPK⟩ := hrel
        have HU2 := Lib.hid (HH.out.mono HPK.out.below)
        by_cases hlt : j < n
        · subst hol
          by_cases hz : lb = 0
          · subst hz
            have hf0 : 0 < free.length := by omega
            go_wp2_with fail
            refine wpIn_wide.1 (pick14 (ao := ao') (j := own.length) (co := co') (fb := w.heap.size) (ln := free.length) (cf := n) (k := 0) (x := gi free 0)
              (S0 := fun v => PkW n w.heap.size own free ao' co' w v ∧ Below wr.heap.size wr v)
              (S1 := fun ms v => (PkW n w.heap.size own free ao' co' w v) ∧ v.heap[ms]? = some (.cells #[.int .i64 (gi free 0)] 3 (0, 0)))
              (S2 := fun ms r1 v => PkW n w.heap.size (own ++ [gi free 0]) free r1.1 r1.2 w v)
              (S3 := fun ms r1 r2 v => PkW n w.heap.size (own ++ [gi free 0]) (free.eraseIdx 0) r1.1 r1.2 w v ∧ r2 = (some ⟨w.heap.size, 0, none⟩, n))
              (by omega) (by omega) (by omega) (by omega) rfl ?h0 ?l4 ?c5 ?c6 ?c14 ?hQ)
            case h0 => exact ⟨HPK.out.mono (Below.refl _ wr).drew, (Below.refl _ wr).drew⟩
            case l4 =>
              intro v h
              obtain ⟨cur, h1, _, h3⟩ := h.1.free
              rw [cell_of_heap h1]
              exact h3 0 (by omega)
            case c5 => exact fun v h => ⟨h.1.mono ((Below.refl _ v).alloc (Nat.le_refl _) _), World.alloc_heap_new _ _⟩
            case c6 => exact fun ms v h => pick_own h.1 h.2 (by omega)
            case c14 => exact fun ms r1 v h => pick_free h (by omega) (by omega) rfl
            case hQ =>
              rintro ms r1 r2 v ⟨h1, rfl⟩
              have H1 := Lib.hid h1
              have HP2 := Lib.hid (perm_pick (k := 0) (by omega) HPM.out)
              have hel : (free.eraseIdx 0).length = free.length - 1 := List.length_eraseIdx_of_lt (by omega)
              have hol : (own ++ [gi free 0]).length = own.length + 1 := by simp
              clear h1
              go_wp2_with fail
              go_roundw
              case rel => exact ⟨own.length + 1, own ++ [gi free 0], free.eraseIdx 0, r1.1, r1.2, by omega, by go_num, hol, by omega, by rw [hol], by rw [hel], HP2.out, H1.out⟩
              case measure => simp [intOf]; omega
          · have hlb0 : 0 < lb := by omega
            obtain ⟨q, hq⟩ : ∃ q : Nat, own.length % lb = q := ⟨_, rfl⟩
            have hql : q < lb := by rw [← hq]; exact Nat.mod_lt _ hlb0
            have hmod : ((own.length : Int) % (lb : Int)) = (q : Int) := by rw [← hq]; exact (Int.natCast_emod _ _).symm
            obtain ⟨bb, off, rfl, xb, x0, x1, hcell⟩ := HU2.out q hql
            have hf0 : 0 < free.length := by omega
            obtain ⟨kx, hkx⟩ := Int.eq_ofNat_of_zero_le (Int.emod_nonneg xb (show (free.length : Int) ≠ 0 by omega))
            have hkl : kx < free.length := by have := Int.emod_lt_of_pos xb (show (0 : Int) < (free.length : Int) by omega); omega
            have HQ := Lib.hid hq
            clear hq
            go_wp2_with fail
            rw [hkx]
            refine wpIn_wide.1 (pick14 (ao := ao') (j := own.length) (co := co') (fb := w.heap.size) (ln := free.length) (cf := n) (k := kx) (x := gi free kx)
              (S0 := fun v => PkW n w.heap.size own free ao' co' w v ∧ Below wr.heap.size wr v)
              (S1 := fun ms v => (PkW n w.heap.size own free ao' co' w v) ∧ v.heap[ms]? = some (.cells #[.int .i64 (gi free kx)] 3 (0, 0)))
              (S2 := fun ms r1 v => PkW n w.heap.size (own ++ [gi free kx]) free r1.1 r1.2 w v)
              (S3 := fun ms r1 r2 v => PkW n w.heap.size (own ++ [gi free kx]) (free.eraseIdx kx) r1.1 r1.2 w v ∧ r2 = (some ⟨w.heap.size, 0, none⟩, n))
              (by omega) (by omega) (by omega) (by omega) rfl ?h0 ?l4 ?c5 ?c6 ?c14 ?hQ)
            case h0 => exact ⟨HPK.out.mono (Below.refl _ wr).drew, (Below.refl _ wr).drew⟩
            case l4 =>
              intro v h
              obtain ⟨cur, h1, _, h3⟩ := h.1.free
              rw [cell_of_heap h1]
              exact h3 kx (by omega)
            case c5 => exact fun v h => ⟨h.1.mono ((Below.refl _ v).alloc (Nat.le_refl _) _), World.alloc_heap_new _ _⟩
            case c6 => exact fun ms v h => pick_own h.1 h.2 (by omega)
            case c14 => exact fun ms r1 v h => pick_free h (by omega) (by omega) rfl
            case hQ =>
              rintro ms r1 r2 v ⟨h1, rfl⟩
              have H1 := Lib.hid h1
              have HP2 := Lib.hid (perm_pick (k := kx) (by omega) HPM.out)
              have hel : (free.eraseIdx kx).length = free.length - 1 := List.length_eraseIdx_of_lt (by omega)
              have hol : (own ++ [gi free kx]).length = own.length + 1 := by simp
              clear h1
              go_wp2_with fail
              go_roundw
              case rel => exact ⟨own.length + 1, own ++ [gi free kx], free.eraseIdx kx, r1.1, r1.2, by omega, by go_num, hol, by omega, by rw [hol], by rw [hel], HP2.out, H1.out⟩
              case measure => simp [intOf]; omega
        · have hjn : j = n := by omega
          have hf0 : free = [] := List.eq_nil_of_length_eq_zero (by omega)
          subst hf0
          have hperm : IsPerm n own := by have := HPM.out; rw [List.append_nil] at this; exact this
          have HF := Lib.hid (And.intro hperm (And.intro HPK.out.own HPK.out.below))
          clear hperm
          go_wp2_with fail
          refine HK5.out _ _ ?_
          go_wp2_with fail
          go_ret
          exact ⟨own, ao', co', rfl, HF.out.1, ⟨_, HF.out.2.1⟩, HF.out.2.2⟩
theorem other37 {n : Nat} {ab : Option Addr} {lb cb : Nat} {w : World} (hn : n ≤ 16) (hu : IsU8 w ab lb) (hlb : lb ≤ 9223372036854775807) :
    Calls Try.prog 37 #[.int .i64 (n : Int), .slice ab lb cb] w fun e w' => ∃ own ao co, e = .returned (.slice ao own.length co) ∧ IsPerm n own ∧ IsInts w' ao own ∧ Below w.heap.size w w' :=
  (other37c hn hu hlb).mono fun e w' ⟨own, ao, co, h1, h2, ⟨B, h3⟩, h4⟩ => ⟨own, ao, co, h1, h2, own_ints h3, h4⟩
end Go.Proofs.Ytphefhpmbahagaa
