/- Gives once more: what it returns is new. Lists gathered by append, handed on and returned; the drawn region of the reference's slots. What the laws need to know of the cheapest plan: plain law. What is truly given: plain law. StockTrue's drawn regions; a row of ints of one's own. StockTrue from region 8 on. StockTrue's walk. The row's last step where the call leaves a world of which only what lay there before is known. Presses and formes that are handed in, opened. Words that are handed in, opened. -/
import Derived.Test.YtjkhclijmcmdjaaC15
import Derived.Below
import Derived.ChangeSame
import Derived.ProofKit
import Derived.Test.YtjkhclijmcmdjaaProg
import Derived.Deep.Slices
import Derived.Deep.Fields
import Derived.Lib.SmallJoins
import Derived.Carry
import Derived.OpenShut
namespace Go.Proofs.Ytjkhclijmcmdjaa
open Go.RowKit
set_option linter.unusedVariables false
set_option linter.unusedSimpArgs false
set_option maxRecDepth 100000 in
set_option maxHeartbeats 4000000 in
theorem gives15n {p : Prs} {A : PrsA} {f : Fme} {a : Option Addr} {c : Nat} {w : World} (hP : IsPrs w p A) (hS : p.Small) (hf : IsInts w a f.slots) (hl : f.slots.length ≤ 1000) :
    Calls Try.prog 15 #[p.v A, f.v a c] w fun e w' => ∃ av cv, e = .returned (.tuple #[.slice av (givesE p f).1.length cv, .int .i64 (givesE p f).2]) ∧ IsSpns w' av (givesE p f).1 ∧ (∀ b o, av = some ⟨b, o, none⟩ → w.heap.size ≤ b) ∧ Below w.heap.size w w' := by
  have HX := Lib.hid (alloc3 w (p.arr A) (f.arr a c) #[.int .i64 0] 27 29 34)
  have HF := Lib.hid (And.intro (hP.mono (alloc3 w (p.arr A) (f.arr a c) #[.int .i64 0] 27 29 34).2.2.2) (hf.mono (alloc3 w (p.arr A) (f.arr a c) #[.int .i64 0] 27 29 34).2.2.2))
  have HS := Lib.hid hS
  clear hP hf hS
  refine calls_of_wp_x Try.func15 rfl ?_
  simp only [Try.ntmps15, List.size_toArray, List.length_cons, List.length_nil, Nat.reduceAdd, Nat.reduceSub, Array.replicate_succ, Array.replicate_zero, List.push_toArray, List.append_toArray, List.nil_append, List.cons_append]
  conv => arg 2; whnf
  refine wp_seq_hid ?_
  intro K0 HK0
  go_wp2_with fail
  refine HK0.out _ _ ?_
  clear HK0 K0
  revert HX HF
  generalize ((w.alloc (.cells (p.arr A) 27)).alloc (.cells (f.arr a c) 29)).alloc (.cells #[.int .i64 0] 34) = w1
  generalize hbe : w.heap.size + 2 = be
  generalize hbf : w.heap.size + 1 = bf
  generalize hbp : w.heap.size = bp
  intro HX HF
  have HBE : Hid (bp ≤ be) := by show bp ≤ be; omega
  clear hbe hbp hbf
  refine wp_seq_hid ?_
  intro K1 HK1
  go_wp2_with fail
  refine HK1.out _ _ ?_
  clear HK1 K1
  obtain ⟨m0, m1, m2, m3, m4, m5, m6, m7, m8, m9⟩ := prs_cells HX.out.1
  cases hv : p.valid with
  | false =>
    go_wp2_with fail
    refine (open_no HF.out.1 HS.out hv).mono ?_
    rintro e w2 ⟨rfl, hb⟩
    have HB := Lib.hid hb
    clear hb
    go_wp2_with fail
    have hq := (HB.out.block _ (heap_lt HX.out.2.2.1)).trans HX.out.2.2.1
    have hE : p.openE (fmeOk p f) = 1 := by unfold Prs.openE; rw [hv]; rfl
    have HE : givesE p f = ([], 1) := by unfold givesE; simp only; rw [hE]; rfl
    have hlt := heap_lt HX.out.1
    have hsz := HB.out.size
    refine door_no hq (res_t34 rfl _ rfl (by rw [cell_of_heap (caught_heap hq)]; rfl)) ⟨none, 0, by rw [HE]; rfl, by rw [HE]; exact fun i hi => by simp at hi, (fun b o h => by cases h), caught_below (HX.out.2.2.2.trans (HB.out.mono (by omega))) HBE.out (by omega)⟩
  | true =>
    have HV := Lib.hid hv
    refine wp_seq_hid ?_
    intro K2 HK2
    go_wp2_with fail
    refine (open_yes HF.out.1 HS.out hv).mono ?_
    rintro e w2 ⟨bq, rfl, hPR, hbq, hb⟩
    have HB := Lib.hid (And.intro hb (And.intro hPR (HF.out.2.mono hb)))
    clear hb hPR hbq hv m0 m1 m2 m3 m4 m5 m6 m7 m8 m9
    go_wp2_with fail
    refine HK2.out _ _ ?_
    clear HK2 K2
    obtain ⟨m0, m1, m2, m3, m4, m5, m6, m7, m8, m9⟩ := (prs_cells HX.out.1).mono HB.out.1
    have hqf := (HB.out.1.block _ (heap_lt HX.out.2.1)).trans HX.out.2.1
    have x0 : w2.cell? ⟨bf, 0, none⟩ = some (.slice a f.slots.length c) := by rw [cell_of_heap hqf]; rfl
    have x1 : w2.cell? ⟨bf, 1, none⟩ = some (.int .i64 f.times) := by rw [cell_of_heap hqf]; rfl
    clear hqf
    have C44 := isForme44 (p := p) (A := A) (c := c) HB.out.2.2 hl
    cases hok : fmeOk p f with
    | false =>
      rw [hok] at C44
      have H44 := Lib.hid C44
      clear C44
      go_wp2_with fail
      refine H44.out.mono ?_
      rintro e w3 ⟨rfl, hb3⟩
      have HB3 := Lib.hid (HB.out.1.trans (hb3.mono HB.out.1.size))
      clear hb3 m0 m1 m2 m3 m4 m5 m6 m7 m8 m9 x0 x1
      go_wp2_with fail
      refine (need_no _ _).mono ?_
      rintro e w4 ⟨rfl, rfl⟩
      go_wp2_with fail
      have hq := (HB3.out.block _ (heap_lt HX.out.2.2.1)).trans HX.out.2.2.1
      have hE : p.openE (fmeOk p f) = 2 := by unfold Prs.openE; rw [HV.out, hok]; rfl
      have HE : givesE p f = ([], 2) := by unfold givesE; simp only; rw [hE]; rfl
      have hlt := heap_lt HX.out.1
      have hsz := HB3.out.size
      refine door_no hq (res_t34 rfl _ rfl (by rw [cell_of_heap (caught_heap hq)]; rfl)) ⟨none, 0, by rw [HE]; rfl, by rw [HE]; exact fun i hi => by simp at hi, (fun b o h => by cases h), caught_below (HX.out.2.2.2.trans (HB3.out.mono (by omega))) HBE.out (by omega)⟩
    | true =>
      rw [hok] at C44
      have H44 := Lib.hid C44
      have HOK := Lib.hid hok
      clear C44 hok
      refine wp_seq_hid ?_
      intro K3 HK3
      go_wp2_with fail
      refine H44.out.mono ?_
      rintro e w3 ⟨rfl, hb3⟩
      have HB3 := Lib.hid (And.intro (HB.out.1.trans (hb3.mono HB.out.1.size)) (And.intro (HB.out.2.1.mono hb3) (HB.out.2.2.mono hb3)))
      clear hb3 m0 m1 m2 m3 m4 m5 m6 m7 m8 m9 x0 x1
      go_wp2_with fail
      refine (need_yes _ _).mono ?_
      rintro e w4 ⟨rfl, rfl⟩
      go_wp2_with fail
      refine HK3.out _ _ ?_
      clear HK3 K3
      have hw4 := (wanted_of HV.out).2
      have m6 := cell_stays HB3.out.1 (prs_cells HX.out.1).c6
      have hr := make33 (n := 0) (m := p.wanted.length) (by omega) (by omega) w3
      have hr' : (Instr.makeSlice 33 (.int .i64 0) (.int .i64 (p.wanted.length : Int))).run Try.prog w3 = .ok (.slice (some ⟨w3.heap.size, 0, none⟩) 0 p.wanted.length) (w3.alloc (.cells (madeCells #[.int .i64 0, .int .i64 0] (p.wanted.length * 2)) 23)) := hr
      have hb4 : Below w3.heap.size w3 (w3.alloc (.cells (madeCells #[.int .i64 0, .int .i64 0] (p.wanted.length * 2)) 23)) := (Below.refl _ _).alloc (Nat.le_refl _) _
      have ho4 : (w3.alloc (.cells (madeCells #[.int .i64 0, .int .i64 0] (p.wanted.length * 2)) 23)).ownsRow w3.heap.size 23 2 (.slice (some ⟨w3.heap.size, 0, none⟩) 0 p.wanted.length) 0 [] :=
        World.ownsRow_made (e := 23) (size := 2) w3 _ p.wanted.length (base := w3.heap.size) (Nat.le_refl _) (by simp [maxLen]; omega) (by simp [madeCells])
      have HO4 := Lib.hid (And.intro ho4 hb4)
      have m6' := cell_stays hb4 m6
      clear hr hb4 ho4
      refine wp_seq_hid ?_
      intro K4 HK4
      go_wp2_with fail
      refine HK4.out _ _ ?_
      clear HK4 K4 hr' m6
      revert HO4
      generalize (w3.alloc (.cells (madeCells #[.int .i64 0, .int .i64 0] (p.wanted.length * 2)) 23)) = v4 at m6'
      intro HO4
      refine wp_seq_hid ?_
      intro K5 HK5
      go_wp2_with fail
      clear m6'
      go_loopw [7, 22] (fun o i wr => ∃ (k : Nat) (v : Value), k ≤ p.wanted.length ∧ i = .int .i64 k ∧ o = v ∧ Hid (wr.ownsRow w3.heap.size 23 2 v (gvL p f k).length (spV (gvL p f k))) ∧ Hid (Below w3.heap.size w3 wr)) (fun _ i _ => p.wanted.length - (intOf i).toNat)
      case atStart => exact ⟨0, _, by omega, rfl, rfl, HO4.out.1, HO4.out.2⟩
      case round =>
        obtain ⟨k, v, hk, rfl, rfl, HO, HW⟩ := hrel
        by_cases hlt : k < p.wanted.length
        · have hq := ((HB3.out.1.trans (HW.out.mono HB3.out.1.size)).block _ (heap_lt HX.out.2.1)).trans HX.out.2.1
          have x0 : wr.cell? ⟨bf, 0, none⟩ = some (.slice a f.slots.length c) := by rw [cell_of_heap hq]; rfl
          have x1 : wr.cell? ⟨bf, 1, none⟩ = some (.int .i64 f.times) := by rw [cell_of_heap hq]; rfl
          clear hq
          have HC := Lib.hid (gives45 (p := p) (A := A) (c := c) (v := k) (HB3.out.2.1.mono HW.out) (spoil_of HV.out) (HB3.out.2.2.mono HW.out) (fmeR_of HOK.out hlt))
          go_wp2_with fail
          refine HC.out.mono ?_
          rintro e w5 ⟨rfl, hb⟩
          have hsz := HW.out.size
          obtain ⟨v', w', hr, hown, hbw, hge⟩ := append_spn (W := w3) (w := w5) (B := w3.heap.size) (HW.out.trans (hb.mono hsz)) (Nat.le_trans hsz hb.size) (by rw [gvL_len]; omega) (own_below HO.out hb) (p.gives f k)
          have HRUN := Lib.hid hr
          have HOWN : Hid (w'.ownsRow w3.heap.size 23 2 v' (gvL p f (k + 1)).length (spV (gvL p f (k + 1)))) := by rw [Hid, gvL_succ]; exact hown
          have HB5 := Lib.hid hbw
          clear hb hr hown hbw hge x0 x1 hsz
          go_wp2_with (at_builtin; refine wpList_append_run rfl (.tmp 25) (.tmp 30) 33 rfl _ _ _ _ rfl rfl HRUN.out ?_)
          go_wp2_with fail
          go_roundw
          case rel => exact ⟨k + 1, v', by omega, by go_num, rfl, HOWN.out, HB5.out⟩
          case measure => simp [intOf]; omega
        · have hke : k = p.wanted.length := by omega
          have hown := HO.out
          rw [hke] at hown
          obtain ⟨av, cv, rfl, _⟩ := own_slice hown
          have hown2 := ownsRow_setCell_other (a := ⟨be, 0, none⟩) hown (fun e => by
            have h1 : w3.heap.size ≤ be := (hown.lt _ e).1
            have h2 := heap_lt HX.out.2.2.1
            have h3 := HB3.out.1.size
            omega) (.int .i64 0)
          have HI := Lib.hid (own_spns hown2)
          have HNW : Hid (∀ b o, av = some ⟨b, o, none⟩ → w3.heap.size ≤ b) := fun b o e => (hown2.lt b (by rw [e]; rfl)).1
          have HKE := Lib.hid hke
          have hq := ((HB3.out.1.trans (HW.out.mono HB3.out.1.size)).block _ (heap_lt HX.out.2.2.1)).trans HX.out.2.2.1
          have HQ := Lib.hid hq
          have c0 : wr.cell? ⟨be, 0, none⟩ = some (.int .i64 0) := by rw [cell_of_heap hq]; rfl
          have f0 : wr.frozen? ⟨be, 0, none⟩ = false := frozen_of_heap hq
          clear hown hown2 hke hq
          go_wp2_with fail
          refine HK5.out _ _ ?_
          go_wp2_with fail
          have h5 := heap_setCell_at (k := 0) HQ.out (.int .i64 0)
          have hlx := heap_lt HX.out.1
          have hE : p.openE (fmeOk p f) = 0 := by unfold Prs.openE; rw [HV.out, HOK.out]; rfl
          have HE : givesE p f = (gvL p f p.wanted.length, 0) := by unfold givesE; simp only; rw [if_pos hE]; rfl
          refine door_ok (res_t34 rfl _ rfl (by rw [cell_of_heap h5]; rfl)) ⟨av, cv, by rw [HE]; rfl, ?_, ?_, ?_⟩
          · rw [HE]; exact HI.out
          · intro b o e
            have h1 := HNW.out b o e
            have h2 := HB3.out.1.size
            omega
          · exact (HX.out.2.2.2.trans ((HB3.out.1.trans (HW.out.mono HB3.out.1.size)).mono (by omega))).setCell (p := ⟨be, _, none⟩) HBE.out _
end Go.Proofs.Ytjkhclijmcmdjaa
namespace Go.Proofs.Ytjkhclijmcmdjaa
open Go.RowKit
set_option linter.unusedVariables false
set_option linter.unusedSimpArgs false
/-- Numbers that lie in memory of their own stay. -/
theorem WyPost.ints {B B' : Nat} {l l0 : List (List Int)} {A A' : World} {vo v' : Value} {n : Nat} {vp : Value} {xs : List Value} (h : WyPost B l A vo v' A') (hr : RowsAt A B vo l0) (hp : A.ownsRow B' 3 1 vp n xs) : A'.ownsRow B' 3 1 vp n xs := by
  obtain ⟨vs, h1, _⟩ := hr
  refine own_blocks hp (fun g hg => h.grown.block g (hp.lt g hg).2 (fun e => own_apart hp h1 (by decide) g hg e.symm))
end Go.Proofs.Ytjkhclijmcmdjaa
namespace Go.Proofs.Ytjkhclijmcmdjaa
set_option linter.unusedVariables false
set_option linter.unusedSimpArgs false
theorem open_ok {p : Prs} (hV : p.valid = true) {b : Bool} : p.openE b = if b then 0 else 2 := by
  unfold Prs.openE
  cases b <;> simp [hV]
theorem planOk_of {p : Prs} {l : List Fme} (h : planOk p l = true) : (l.length : Int) ≤ p.formes ∧ ∀ f ∈ l, fmeOk p f = true := by
  unfold planOk at h
  simpa using h
theorem sure_plan {p : Prs} {l : List Fme} (h : p.Sure l) : planOk p l = true := by
  unfold planOk
  simpa using ⟨h.1, h.2.1⟩
theorem check_plan {p : Prs} (hV : p.valid = true) {l : List Fme} (h : planOk p l = true) : checkE p l = (0, 0) ∧ p.few l = none ∨ ∃ v : Nat, checkE p l = ((v : Int), 10) ∧ p.few l = some v := by
  unfold checkE
  rw [open_ok hV, h]
  cases hf : p.few l with
  | none => left; simp
  | some v => right; exact ⟨v, by simp, rfl⟩
/-- What a check says of a list: it is a plan that surely gives what is wanted, or it is not. -/
theorem check_cases {p : Prs} (hV : p.valid = true) (l : List Fme) : (checkE p l = (0, 0) ∧ p.Sure l) ∨ (∃ x : Int, checkE p l = (x, 10) ∧ planOk p l = true ∧ ¬ p.Sure l) ∨ (checkE p l = (0, 2) ∧ planOk p l = false ∧ ¬ p.Sure l) := by
  by_cases h : planOk p l = true
  · rcases check_plan hV h with ⟨h1, h2⟩ | ⟨v, h1, h2⟩
    · exact .inl ⟨h1, (planOk_of h).1, (planOk_of h).2, h2⟩
    · exact .inr (.inl ⟨v, h1, h, fun hs => by rw [hs.2.2] at h2; cases h2⟩)
  · have h' : planOk p l = false := by simpa using h
    refine .inr (.inr ⟨?_, h', fun hs => h (sure_plan hs)⟩)
    unfold checkE
    rw [open_ok hV, h']
    simp
end Go.Proofs.Ytjkhclijmcmdjaa
namespace Go.Proofs.Ytjkhclijmcmdjaa
set_option linter.unusedVariables false
set_option linter.unusedSimpArgs false
theorem truth_span {p : Prs} (S : Spoil p) {t s b : Int} (ht : 0 ≤ t ∧ t ≤ 1048576) (hs : 0 ≤ s ∧ s ≤ 6) (hb : 0 ≤ b ∧ b ≤ 65535) :
    (0 ≤ t * p.slo / 100 ∧ t * p.slo / 100 ≤ (t * p.shi + 99) / 100 ∧ (t * p.shi + 99) / 100 ≤ t) ∧
    0 ≤ b % ((t * p.shi + 99) / 100 - t * p.slo / 100 + 1) ∧ b % ((t * p.shi + 99) / 100 - t * p.slo / 100 + 1) ≤ (t * p.shi + 99) / 100 - t * p.slo / 100 ∧
    s * (t - (t * p.shi + 99) / 100) ≤ s * (t - (t * p.slo / 100 + b % ((t * p.shi + 99) / 100 - t * p.slo / 100 + 1))) ∧ s * (t - (t * p.slo / 100 + b % ((t * p.shi + 99) / 100 - t * p.slo / 100 + 1))) ≤ s * (t - t * p.slo / 100) ∧
    0 ≤ s * (t - (t * p.shi + 99) / 100) ∧ s * (t - t * p.slo / 100) ≤ 6291456 := by
  have hlo := S.lo
  have hhi := S.hi
  have e1 : 0 ≤ t * p.slo := Int.mul_nonneg ht.1 hlo
  have e2 : t * p.slo ≤ t * p.shi := Int.mul_le_mul_of_nonneg_left S.le ht.1
  have e3 : t * p.shi ≤ t * 50 := Int.mul_le_mul_of_nonneg_left hhi ht.1
  have a1 : 0 ≤ t * p.slo / 100 := by omega
  have a2 : t * p.slo / 100 ≤ (t * p.shi + 99) / 100 := by omega
  have a3 : (t * p.shi + 99) / 100 ≤ t := by omega
  generalize t * p.slo / 100 = f at *
  generalize (t * p.shi + 99) / 100 = m at *
  have hm1 := Int.emod_nonneg b (show m - f + 1 ≠ 0 by omega)
  have hm2 := Int.emod_lt_of_pos b (show 0 < m - f + 1 by omega)
  generalize b % (m - f + 1) = r at *
  have c1 : s * (t - m) ≤ s * (t - (f + r)) := Int.mul_le_mul_of_nonneg_left (by omega) hs.1
  have c2 : s * (t - (f + r)) ≤ s * (t - f) := Int.mul_le_mul_of_nonneg_left (by omega) hs.1
  have c3 : 0 ≤ s * (t - m) := Int.mul_nonneg hs.1 (by omega)
  have c4 : s * (t - f) ≤ 6 * (t - f) := Int.mul_le_mul_of_nonneg_right hs.2 (by omega)
  refine ⟨⟨a1, a2, a3⟩, hm1, by omega, c1, c2, c3, by omega⟩
/-- What a plan surely gives, but that for the first views one forme more counts. -/
def Prs.leastTo (p : Prs) (l : List Fme) (k v u : Nat) : Int := if u < v then p.least (l.take (k + 1)) u else p.least (l.take k) u
theorem least_app (p : Prs) (l m : List Fme) (v : Nat) : p.least (l ++ m) v = p.least l v + p.least m v := by
  unfold Prs.least
  rw [List.map_append]
  generalize l.map (fun f => (p.gives f v).lo) = x
  generalize m.map (fun f => (p.gives f v).lo) = y
  induction x with
  | nil => show sumL y = 0 + sumL y; omega
  | cons a r ih =>
    rw [List.cons_append]
    show a + sumL (r ++ y) = a + sumL r + sumL y
    omega
theorem least_took {p : Prs} {l : List Fme} {k : Nat} (h : k < l.length) (v : Nat) : p.least (l.take (k + 1)) v = p.least (l.take k) v + gi (gf l k).slots v * (p.good (gf l k).times).lo := by
  have e : l.take (k + 1) = l.take k ++ [gf l k] := by
    rw [List.take_add_one, List.getElem?_eq_getElem h]
    simp [gf, h]
  rw [e, least_app, least_one]
/-- Rows that are added up: what is truly given, and what is surely given. -/
structure SumOk (p : Prs) (l : List Fme) (k v : Nat) (S L : List Int) : Prop where
  slen : S.length = p.wanted.length
  llen : L.length = p.wanted.length
  lval : ∀ u, u < p.wanted.length → gi L u = p.leastTo l k v u
  low : ∀ u, u < p.wanted.length → 0 ≤ gi L u ∧ gi L u ≤ gi S u ∧ gi S u ≤ ((k : Int) + 1) * 6291456
  old : ∀ u, v ≤ u → u < p.wanted.length → gi S u ≤ (k : Int) * 6291456
theorem gi_set {l : List Int} {i : Nat} (h : i < l.length) (x : Int) : gi (l.set i x) i = x := by
  unfold gi; rw [List.getD_eq_getElem?_getD, List.getElem?_set]; simp [h]
theorem gi_set_ne {l : List Int} {i j : Nat} (h : i ≠ j) (x : Int) : gi (l.set i x) j = gi l j := by
  unfold gi; rw [List.getD_eq_getElem?_getD, List.getElem?_set, if_neg h, ← List.getD_eq_getElem?_getD]
structure SumStart (p : Prs) (l : List Fme) (k : Nat) (S L : List Int) : Prop where
  slen : S.length = p.wanted.length
  llen : L.length = p.wanted.length
  lval : ∀ u, u < p.wanted.length → gi L u = p.least (l.take k) u
  low : ∀ u, u < p.wanted.length → 0 ≤ gi L u ∧ gi L u ≤ gi S u ∧ gi S u ≤ (k : Int) * 6291456
theorem SumStart.zero (p : Prs) (l : List Fme) : SumStart p l 0 (List.replicate p.wanted.length 0) (List.replicate p.wanted.length 0) :=
  ⟨by simp, by simp, fun u _ => by rw [gi_rep]; rfl, fun u _ => by rw [gi_rep]; omega⟩
theorem SumStart.open {p : Prs} {l : List Fme} {k : Nat} {S L : List Int} (h : SumStart p l k S L) : SumOk p l k 0 S L :=
  ⟨h.slen, h.llen, fun u hu => by rw [h.lval u hu]; unfold Prs.leastTo; rw [if_neg (by omega)], fun u hu => by have := h.low u hu; rw [Int.add_mul]; omega, fun u _ hu => (h.low u hu).2.2⟩
theorem SumOk.shut {p : Prs} {l : List Fme} {k : Nat} {S L : List Int} (h : SumOk p l k p.wanted.length S L) : SumStart p l (k + 1) S L :=
  ⟨h.slen, h.llen, fun u hu => by rw [h.lval u hu]; unfold Prs.leastTo; rw [if_pos hu], fun u hu => by have := h.low u hu; rw [show ((k + 1 : Nat) : Int) = (k : Int) + 1 by omega]; exact this⟩
/-- One view more. -/
theorem SumOk.step {p : Prs} {l : List Fme} {k v : Nat} {S L : List Int} {n : Int} (h : SumOk p l k v S L) (hk : k < l.length) (hv : v < p.wanted.length) (h0 : 0 ≤ gi (gf l k).slots v * (p.good (gf l k).times).lo) (h1 : gi (gf l k).slots v * (p.good (gf l k).times).lo ≤ n) (h2 : n ≤ 6291456) :
    SumOk p l k (v + 1) (S.set v (gi S v + n)) (L.set v (gi L v + gi (gf l k).slots v * (p.good (gf l k).times).lo)) := by
  have hlv := h.low v hv
  have hS := h.old v (Nat.le_refl v) hv
  refine ⟨by rw [List.length_set, h.slen], by rw [List.length_set, h.llen], fun u hu => ?_, fun u hu => ?_, fun u h1 hu => by rw [gi_set_ne (by omega)]; exact h.old u (by omega) hu⟩
  · by_cases e : v = u
    · subst e
      rw [gi_set (by rw [h.llen]; exact hv), h.lval v hv]
      unfold Prs.leastTo
      rw [if_neg (by omega), if_pos (by omega), least_took hk]
    · rw [gi_set_ne e, h.lval u hu]
      unfold Prs.leastTo
      by_cases hl : u < v
      · rw [if_pos hl, if_pos (by omega)]
      · rw [if_neg hl, if_neg (by omega)]
  · by_cases e : v = u
    · subst e
      rw [gi_set (by rw [h.llen]; exact hv), gi_set (by rw [h.slen]; exact hv), Int.add_mul]
      omega
    · rw [gi_set_ne e, gi_set_ne e]
      exact h.low u hu
/-- What the check says, once more. -/
theorem check_true {p : Prs} (hV : p.valid = true) (l : List Fme) : (checkE p l = (0, 2) ∧ planOk p l = false) ∨ (planOk p l = true ∧ ((checkE p l = (0, 0) ∧ ∀ v, v < p.wanted.length → gi p.wanted v ≤ p.least l v) ∨
    ∃ s : Nat, checkE p l = ((s : Int), 10) ∧ s < p.wanted.length ∧ p.least l s < gi p.wanted s ∧ ∀ v, v < s → gi p.wanted v ≤ p.least l v)) := by
  by_cases hp : planOk p l = true
  · right
    refine ⟨hp, ?_⟩
    rcases check_plan hV hp with ⟨h1, h2⟩ | ⟨s, h1, h2⟩
    · exact .inl ⟨h1, few_no.1 h2⟩
    · right
      unfold Prs.few at h2
      rw [List.find?_range_eq_some] at h2
      obtain ⟨a, b, c⟩ := h2
      refine ⟨s, h1, by simpa using b, by simpa using a, fun v hv => by simpa using c v hv⟩
  · left
    rcases check_cases hV l with ⟨h1, h2⟩ | ⟨x, h1, h2, _⟩ | ⟨h1, h2, _⟩
    · exact absurd (sure_plan h2) hp
    · exact absurd h2 hp
    · exact ⟨h1, h2⟩
end Go.Proofs.Ytjkhclijmcmdjaa
namespace Go.Proofs.Ytjkhclijmcmdjaa
open Go.RowKit
set_option linter.unusedVariables false
set_option linter.unusedSimpArgs false
/-- Words that are handed in. -/
def IsU16 (w : World) (a : Option Addr) (n : Nat) : Prop := ∀ i, i < n → ∃ b off, a = some ⟨b, off, none⟩ ∧ ∃ x : Int, 0 ≤ x ∧ x ≤ 65535 ∧ w.cell? ⟨b, off + i, none⟩ = some (.int .u16 x)
theorem IsU16.mono {w w' : World} {a : Option Addr} {n : Nat} (h : IsU16 w a n) (hb : Below w.heap.size w w') : IsU16 w' a n := fun i hi => by
  obtain ⟨b, off, e, x, h0, h1, hc⟩ := h i hi
  exact ⟨b, off, e, x, h0, h1, cell_stays hb hc⟩
/-- A row of ints of one's own. -/
structure IRow (g : Nat) (l : List Int) (w : World) : Prop where
  row : ∃ cur : Array Value, w.heap[g]? = some (.cells cur 3 (0, 0)) ∧ ∀ i, i < l.length → cur[i]? = some (.int .i64 (gi l i))
theorem IRow.mono {g : Nat} {l : List Int} {w w' : World} (h : IRow g l w) (hb : Below w.heap.size w w') : IRow g l w' := by
  obtain ⟨cur, h1, h2⟩ := h.row
  exact ⟨cur, (hb.block _ (heap_lt h1)).trans h1, h2⟩
theorem IRow.cell {g : Nat} {l : List Int} {w : World} (h : IRow g l w) {i : Nat} (hi : i < l.length) : w.cell? ⟨g, i, none⟩ = some (.int .i64 (gi l i)) := by
  obtain ⟨cur, h1, h2⟩ := h.row
  rw [cell_of_heap h1]; exact h2 i hi
theorem IRow.lt {g : Nat} {l : List Int} {w : World} (h : IRow g l w) : g < w.heap.size := by
  obtain ⟨cur, h1, h2⟩ := h.row
  exact heap_lt h1
theorem IRow.other {g b k : Nat} {l : List Int} {w : World} {x : Value} (h : IRow g l w) (hne : b ≠ g) : IRow g l (w.setCell ⟨b, k, none⟩ x) := by
  obtain ⟨cur, h1, h2⟩ := h.row
  exact ⟨cur, (Below.heap_setCell _ _ _ _ (Ne.symm hne)).trans h1, h2⟩
theorem IRow.put {g : Nat} {l : List Int} {w : World} (h : IRow g l w) {i : Nat} (hi : i < l.length) (x : Int) :
    (∃ u, w.cell? ⟨g, i, none⟩ = some u) ∧ w.frozen? ⟨g, i, none⟩ = false ∧ IRow g (l.set i x) (w.setCell ⟨g, i, none⟩ (.int .i64 x)) := by
  have c1 := h.cell hi
  obtain ⟨cur, h1, h2⟩ := h.row
  refine ⟨⟨_, c1⟩, frozen_of_heap h1, _, heap_setCell_at (k := i) h1 _, fun j hj => ?_⟩
  rw [List.length_set] at hj
  have hsz : i < cur.size := (Array.getElem?_eq_some_iff.1 (h2 i hi)).1
  by_cases e : i = j
  · subst e
    rw [gi_set hi, Array.getElem?_setIfInBounds, if_pos rfl, if_pos hsz]
  · rw [gi_set_ne e, Array.getElem?_setIfInBounds, if_neg e]; exact h2 j hj
theorem IRow.made {g n : Nat} {w : World} (h : w.heap[g]? = some (.cells (madeCells #[.int .i64 0] n) 3 (0, 0))) : IRow g (List.replicate n 0) w := by
  refine ⟨_, h, fun i hi => ?_⟩
  obtain ⟨b, o, e, hc⟩ := made_ints (by rw [Nat.mul_one]; exact h) i hi
  cases e
  rw [cell_of_heap h, Nat.zero_add] at hc
  exact hc
structure tru8F (bx : Nat) (n : Nat) (cw : Nat) (aw : Option Addr) (S0 : Bool → Nat → World → Prop) (S1 : Bool → Nat → Nat → World → Prop) (d : Nat → Bool) (x68 x69 x70 x71 x72 x73 x74 x75 x9 x10 : Value) (ms : Nat) (g1 : Nat) (w : World) : Prop where
  q1 : d 1 = true → d 0 = true
  q2 : d 2 = true → d 1 = true
  q3 : d 3 = true → d 2 = true
  q5 : d 5 = true → d 4 = true
  q6 : d 6 = true → d 5 = true
  q7 : d 7 = true → d 6 = true
  q8 : d 8 = true → d 0 = true ∧ d 1 = true ∧ d 2 = true ∧ d 3 = true
  q9 : d 9 = true → d 0 = true ∧ d 1 = true ∧ d 2 = true ∧ d 3 = true ∧ d 4 = true ∧ d 5 = true ∧ d 6 = true ∧ d 7 = true ∧ d 8 = true
  f0 : d 0 = true → x68 = .pointer (some ⟨bx, 6, none⟩)
  f1 : d 1 = true → x69 = .slice aw n cw
  f2 : d 2 = true → x70 = .int .i64 (n : Int)
  f3 : d 3 = true → x71 = .slice (some ⟨g1, 0, none⟩) n n
  f4 : d 4 = true → x72 = .pointer (some ⟨bx, 6, none⟩)
  f5 : d 5 = true → x73 = .slice aw n cw
  f6 : d 6 = true → x74 = .int .i64 (n : Int)
  f7 : d 7 = true → x75 = .slice (some ⟨ms, 0, none⟩) n n
  f8 : d 8 = true → x9 = .slice (some ⟨g1, 0, none⟩) n n
  f9 : d 9 = true → x10 = .slice (some ⟨ms, 0, none⟩) n n
  st0 : d 3 = false → S0 (d 7) ms w
  st1 : d 3 = true → S1 (d 7) ms g1 w
  mz : d 7 = false → ms = 0
noncomputable def tru8C : Code := (Try.f6.body.bind (regionAt 8)).getD .skip
set_option maxRecDepth 100000 in
set_option maxHeartbeats 4000000 in
theorem tru8 {bx : Nat} {n : Nat} {cw : Nat} {aw : Option Addr} {S0 : Bool → Nat → World → Prop} {S1 : Bool → Nat → Nat → World → Prop} {Q : Exit → Act → World → Prop} {W1 : World} (hn : n ≤ 1000) (h0 : S0 false 0 W1.drew)
    (kl1 : Hid (∀ (fs : Bool) (ms : Nat) (w : World), (S0 fs ms w) → w.cell? ⟨bx, 6, none⟩ = some (.slice aw n cw)))
    (kc3 : Hid (∀ (fs : Bool) (ms : Nat) (w : World), S0 fs ms w → ∃ (g1 : Nat) (w' : World), (Instr.makeSlice 24 (.int .i64 (n : Int)) (.int .i64 (n : Int))).run Try.prog w = .ok (.slice (some ⟨g1, 0, none⟩) n n) w' ∧ S1 fs ms g1 w'))
    (kl5 : Hid (∀ (fs : Bool) (ms : Nat) (g1 : Nat) (w : World), (S0 fs ms w ∨ S1 fs ms g1 w) → w.cell? ⟨bx, 6, none⟩ = some (.slice aw n cw)))
    (ks0 : Hid (∀ (w : World), S0 false 0 w → S0 true w.heap.size (w.alloc (.cells (madeCells #[.int .i64 0] n) 3))))
    (ks1 : Hid (∀ (g1 : Nat) (w : World), S1 false 0 g1 w → S1 true w.heap.size g1 (w.alloc (.cells (madeCells #[.int .i64 0] n) 3))))
    {s0 s1 s2 s4 s5 s6 s7 s8 s9 s10 s11 s12 s13 s14 s15 s16 s17 s18 s19 s20 s21 s22 s23 s24 s25 s26 s27 s28 s29 s30 s31 s32 s33 s34 s35 s36 s37 s38 s39 s40 s41 s42 s43 s44 s45 s46 s47 s48 s49 s50 s51 s52 s53 s54 s55 s56 s57 s58 s59 s60 s61 s62 s63 s64 s65 s66 s67 s68 s69 s70 s71 s72 s73 s74 s75 s76 s77 s78 s79 s80 s81 s82 s83 s84 s85 s86 s87 s88 s89 s90 s91 s92 s93 s94 s95 s96 s97 s98 s99 s100 s101 s102 s103 s104 s105 s106 s107 s108 s109 s110 s111 s112 s113 s114 s115 s116 s117 s118 s119 s120 s121 s122 s123 s124 s125 s126 s127 s128 s129 s130 s131 s132 s133 s134 s135 s136 s137 s138 s139 s140 s141 s142 s143 s144 s145 s146 s147 s148 s149 s150 s151 s152 s153 s154 s155 s156 s157 s158 s159 s160 s161 s162 s163 s164 s165 s166 s167 s168 s169 s170 s171 s172 s173 s174 s175 s176 s177 s178 s179 s180 s181 s182 s183 s184 s185 s186 s187 s188 s189 s190 s191 s192 s193 s194 s195 s196 s197 s198 s199 s200 s201 s202 s203 s204 s205 s206 s207 s208 s209 s210 s211 s212 s213 s214 s215 s216 s217 s218 s219 s220 s221 s222 s223 s224 s225 s226 s227 s228 s229 s230 s231 s232 s233 s234 s235 s236 s237 s238 s239 s240 s241 s242 s243 s244 s245 s246 s247 s248 s249 s250 s251 s252 s253 s254 s255 s256 s257 s258 s259 s260 s261 s262 s263 s264 s265 s266 s267 s268 s269 s270 s271 s272 s273 s274 s275 : Value} {dd : List Deferred}
    (hQ : ∀ (ms : Nat) (g1 : Nat) (w' : World), S1 true ms g1 w' → Q .normal { tmps := List.toArray (s0 :: s1 :: s2 :: .pointer (some ⟨bx, 0, none⟩) :: s4 :: s5 :: s6 :: s7 :: s8 :: .slice (some ⟨g1, 0, none⟩) n n :: .slice (some ⟨ms, 0, none⟩) n n :: s11 :: s12 :: s13 :: s14 :: s15 :: s16 :: s17 :: s18 :: s19 :: s20 :: s21 :: s22 :: s23 :: s24 :: s25 :: s26 :: s27 :: s28 :: s29 :: s30 :: s31 :: s32 :: s33 :: s34 :: s35 :: s36 :: s37 :: s38 :: s39 :: s40 :: s41 :: s42 :: s43 :: s44 :: s45 :: s46 :: s47 :: s48 :: s49 :: s50 :: s51 :: s52 :: s53 :: s54 :: s55 :: s56 :: s57 :: s58 :: s59 :: s60 :: s61 :: s62 :: s63 :: s64 :: s65 :: s66 :: s67 :: .pointer (some ⟨bx, 6, none⟩) :: .slice aw n cw :: .int .i64 (n : Int) :: .slice (some ⟨g1, 0, none⟩) n n :: .pointer (some ⟨bx, 6, none⟩) :: .slice aw n cw :: .int .i64 (n : Int) :: .slice (some ⟨ms, 0, none⟩) n n :: s76 :: s77 :: s78 :: s79 :: s80 :: s81 :: s82 :: s83 :: s84 :: s85 :: s86 :: s87 :: s88 :: s89 :: s90 :: s91 :: s92 :: s93 :: s94 :: s95 :: s96 :: s97 :: s98 :: s99 :: s100 :: s101 :: s102 :: s103 :: s104 :: s105 :: s106 :: s107 :: s108 :: s109 :: s110 :: s111 :: s112 :: s113 :: s114 :: s115 :: s116 :: s117 :: s118 :: s119 :: s120 :: s121 :: s122 :: s123 :: s124 :: s125 :: s126 :: s127 :: s128 :: s129 :: s130 :: s131 :: s132 :: s133 :: s134 :: s135 :: s136 :: s137 :: s138 :: s139 :: s140 :: s141 :: s142 :: s143 :: s144 :: s145 :: s146 :: s147 :: s148 :: s149 :: s150 :: s151 :: s152 :: s153 :: s154 :: s155 :: s156 :: s157 :: s158 :: s159 :: s160 :: s161 :: s162 :: s163 :: s164 :: s165 :: s166 :: s167 :: s168 :: s169 :: s170 :: s171 :: s172 :: s173 :: s174 :: s175 :: s176 :: s177 :: s178 :: s179 :: s180 :: s181 :: s182 :: s183 :: s184 :: s185 :: s186 :: s187 :: s188 :: s189 :: s190 :: s191 :: s192 :: s193 :: s194 :: s195 :: s196 :: s197 :: s198 :: s199 :: s200 :: s201 :: s202 :: s203 :: s204 :: s205 :: s206 :: s207 :: s208 :: s209 :: s210 :: s211 :: s212 :: s213 :: s214 :: s215 :: s216 :: s217 :: s218 :: s219 :: s220 :: s221 :: s222 :: s223 :: s224 :: s225 :: s226 :: s227 :: s228 :: s229 :: s230 :: s231 :: s232 :: s233 :: s234 :: s235 :: s236 :: s237 :: s238 :: s239 :: s240 :: s241 :: s242 :: s243 :: s244 :: s245 :: s246 :: s247 :: s248 :: s249 :: s250 :: s251 :: s252 :: s253 :: s254 :: s255 :: s256 :: s257 :: s258 :: s259 :: s260 :: s261 :: s262 :: s263 :: s264 :: s265 :: s266 :: s267 :: s268 :: s269 :: s270 :: s271 :: s272 :: s273 :: s274 :: s275 :: []), defers := dd } w') :
    Code.wpIn (wideAt none) 0 Try.prog tru8C Q { tmps := List.toArray (s0 :: s1 :: s2 :: .pointer (some ⟨bx, 0, none⟩) :: s4 :: s5 :: s6 :: s7 :: s8 :: s9 :: s10 :: s11 :: s12 :: s13 :: s14 :: s15 :: s16 :: s17 :: s18 :: s19 :: s20 :: s21 :: s22 :: s23 :: s24 :: s25 :: s26 :: s27 :: s28 :: s29 :: s30 :: s31 :: s32 :: s33 :: s34 :: s35 :: s36 :: s37 :: s38 :: s39 :: s40 :: s41 :: s42 :: s43 :: s44 :: s45 :: s46 :: s47 :: s48 :: s49 :: s50 :: s51 :: s52 :: s53 :: s54 :: s55 :: s56 :: s57 :: s58 :: s59 :: s60 :: s61 :: s62 :: s63 :: s64 :: s65 :: s66 :: s67 :: s68 :: s69 :: s70 :: s71 :: s72 :: s73 :: s74 :: s75 :: s76 :: s77 :: s78 :: s79 :: s80 :: s81 :: s82 :: s83 :: s84 :: s85 :: s86 :: s87 :: s88 :: s89 :: s90 :: s91 :: s92 :: s93 :: s94 :: s95 :: s96 :: s97 :: s98 :: s99 :: s100 :: s101 :: s102 :: s103 :: s104 :: s105 :: s106 :: s107 :: s108 :: s109 :: s110 :: s111 :: s112 :: s113 :: s114 :: s115 :: s116 :: s117 :: s118 :: s119 :: s120 :: s121 :: s122 :: s123 :: s124 :: s125 :: s126 :: s127 :: s128 :: s129 :: s130 :: s131 :: s132 :: s133 :: s134 :: s135 :: s136 :: s137 :: s138 :: s139 :: s140 :: s141 :: s142 :: s143 :: s144 :: s145 :: s146 :: s147 :: s148 :: s149 :: s150 :: s151 :: s152 :: s153 :: s154 :: s155 :: s156 :: s157 :: s158 :: s159 :: s160 :: s161 :: s162 :: s163 :: s164 :: s165 :: s166 :: s167 :: s168 :: s169 :: s170 :: s171 :: s172 :: s173 :: s174 :: s175 :: s176 :: s177 :: s178 :: s179 :: s180 :: s181 :: s182 :: s183 :: s184 :: s185 :: s186 :: s187 :: s188 :: s189 :: s190 :: s191 :: s192 :: s193 :: s194 :: s195 :: s196 :: s197 :: s198 :: s199 :: s200 :: s201 :: s202 :: s203 :: s204 :: s205 :: s206 :: s207 :: s208 :: s209 :: s210 :: s211 :: s212 :: s213 :: s214 :: s215 :: s216 :: s217 :: s218 :: s219 :: s220 :: s221 :: s222 :: s223 :: s224 :: s225 :: s226 :: s227 :: s228 :: s229 :: s230 :: s231 :: s232 :: s233 :: s234 :: s235 :: s236 :: s237 :: s238 :: s239 :: s240 :: s241 :: s242 :: s243 :: s244 :: s245 :: s246 :: s247 :: s248 :: s249 :: s250 :: s251 :: s252 :: s253 :: s254 :: s255 :: s256 :: s257 :: s258 :: s259 :: s260 :: s261 :: s262 :: s263 :: s264 :: s265 :: s266 :: s267 :: s268 :: s269 :: s270 :: s271 :: s272 :: s273 :: s274 :: s275 :: []), defers := dd } W1 := by
  have HQ := Lib.hid hQ
  clear hQ
  conv => arg 4; whnf
  refine wpIn_region_invG mixed (by kernel_rfl) (fun d_ a_ w' => ∃ (x68 : Value) (x69 : Value) (x70 : Value) (x71 : Value) (x72 : Value) (x73 : Value) (x74 : Value) (x75 : Value) (x9 : Value) (x10 : Value) (ms : Nat) (g1 : Nat), a_ = { tmps := List.toArray (s0 :: s1 :: s2 :: .pointer (some ⟨bx, 0, none⟩) :: s4 :: s5 :: s6 :: s7 :: s8 :: x9 :: x10 :: s11 :: s12 :: s13 :: s14 :: s15 :: s16 :: s17 :: s18 :: s19 :: s20 :: s21 :: s22 :: s23 :: s24 :: s25 :: s26 :: s27 :: s28 :: s29 :: s30 :: s31 :: s32 :: s33 :: s34 :: s35 :: s36 :: s37 :: s38 :: s39 :: s40 :: s41 :: s42 :: s43 :: s44 :: s45 :: s46 :: s47 :: s48 :: s49 :: s50 :: s51 :: s52 :: s53 :: s54 :: s55 :: s56 :: s57 :: s58 :: s59 :: s60 :: s61 :: s62 :: s63 :: s64 :: s65 :: s66 :: s67 :: x68 :: x69 :: x70 :: x71 :: x72 :: x73 :: x74 :: x75 :: s76 :: s77 :: s78 :: s79 :: s80 :: s81 :: s82 :: s83 :: s84 :: s85 :: s86 :: s87 :: s88 :: s89 :: s90 :: s91 :: s92 :: s93 :: s94 :: s95 :: s96 :: s97 :: s98 :: s99 :: s100 :: s101 :: s102 :: s103 :: s104 :: s105 :: s106 :: s107 :: s108 :: s109 :: s110 :: s111 :: s112 :: s113 :: s114 :: s115 :: s116 :: s117 :: s118 :: s119 :: s120 :: s121 :: s122 :: s123 :: s124 :: s125 :: s126 :: s127 :: s128 :: s129 :: s130 :: s131 :: s132 :: s133 :: s134 :: s135 :: s136 :: s137 :: s138 :: s139 :: s140 :: s141 :: s142 :: s143 :: s144 :: s145 :: s146 :: s147 :: s148 :: s149 :: s150 :: s151 :: s152 :: s153 :: s154 :: s155 :: s156 :: s157 :: s158 :: s159 :: s160 :: s161 :: s162 :: s163 :: s164 :: s165 :: s166 :: s167 :: s168 :: s169 :: s170 :: s171 :: s172 :: s173 :: s174 :: s175 :: s176 :: s177 :: s178 :: s179 :: s180 :: s181 :: s182 :: s183 :: s184 :: s185 :: s186 :: s187 :: s188 :: s189 :: s190 :: s191 :: s192 :: s193 :: s194 :: s195 :: s196 :: s197 :: s198 :: s199 :: s200 :: s201 :: s202 :: s203 :: s204 :: s205 :: s206 :: s207 :: s208 :: s209 :: s210 :: s211 :: s212 :: s213 :: s214 :: s215 :: s216 :: s217 :: s218 :: s219 :: s220 :: s221 :: s222 :: s223 :: s224 :: s225 :: s226 :: s227 :: s228 :: s229 :: s230 :: s231 :: s232 :: s233 :: s234 :: s235 :: s236 :: s237 :: s238 :: s239 :: s240 :: s241 :: s242 :: s243 :: s244 :: s245 :: s246 :: s247 :: s248 :: s249 :: s250 :: s251 :: s252 :: s253 :: s254 :: s255 :: s256 :: s257 :: s258 :: s259 :: s260 :: s261 :: s262 :: s263 :: s264 :: s265 :: s266 :: s267 :: s268 :: s269 :: s270 :: s271 :: s272 :: s273 :: s274 :: s275 :: []), defers := dd } ∧ tru8F bx n cw aw S0 S1 d_ x68 x69 x70 x71 x72 x73 x74 x75 x9 x10 ms g1 w') ?_ ?_ ?_
  · refine ⟨s68, s69, s70, s71, s72, s73, s74, s75, s9, s10, 0, 0, rfl, ?_⟩
    constructor <;> first | rfl | (intro _; rfl) | (intro h; cases h; done) | (intro _; exact h0) | exact h0
  · refine ⟨?_, ?_, ?_, ?_, ?_, ?_, ?_, ?_, ?_, ?_, trivial⟩
    all_goals
      rintro d_ a_ w1 K hd_ hdep ⟨x68, x69, x70, x71, x72, x73, x74, x75, x9, x10, ms, g1, rfl, F⟩ HK
      simp [Region.binds] at hdep
    · have HF : Hid (tru8F bx n cw aw S0 S1 (upd d_ 0) (.pointer (some ⟨bx, 6, none⟩)) x69 x70 x71 x72 x73 x74 x75 x9 x10 ms g1 w1) := ⟨fun h => rfl, F.q2, F.q3, F.q5, F.q6, F.q7, fun h => ⟨rfl, (F.q8 h).2.1, (F.q8 h).2.2.1, (F.q8 h).2.2.2⟩, fun h => ⟨rfl, (F.q9 h).2.1, (F.q9 h).2.2.1, (F.q9 h).2.2.2.1, (F.q9 h).2.2.2.2.1, (F.q9 h).2.2.2.2.2.1, (F.q9 h).2.2.2.2.2.2.1, (F.q9 h).2.2.2.2.2.2.2.1, (F.q9 h).2.2.2.2.2.2.2.2⟩, fun _ => rfl, F.f1, F.f2, F.f3, F.f4, F.f5, F.f6, F.f7, F.f8, F.f9, F.st0, F.st1, F.mz⟩
      clear F
      go_simp
      exact HK.out _ _ ⟨_, _, _, _, _, _, _, _, _, _, _, _, rfl, HF.out⟩
    · have hst : S0 (d_ 7) ms w1 := by
        have n_ : d_ 3 = false := by
          cases e_ : d_ 3 with
          | false => rfl
          | true => have h2 := (F.q2 (F.q3 e_)); rw [show d_ 1 = false from hd_] at h2; cases h2
        exact (F.st0 n_)
      have kk := kl1.out (d_ 7) ms w1 hst
      clear hst
      obtain rfl := F.f0 (by simp [hdep])
      have HF : Hid (tru8F bx n cw aw S0 S1 (upd d_ 1) (.pointer (some ⟨bx, 6, none⟩)) (.slice aw n cw) x70 x71 x72 x73 x74 x75 x9 x10 ms g1 w1) := ⟨fun _ => (show _ from (by simp [hdep] : d_ 0 = true)), fun h => rfl, F.q3, F.q5, F.q6, F.q7, fun h => ⟨(F.q8 h).1, rfl, (F.q8 h).2.2.1, (F.q8 h).2.2.2⟩, fun h => ⟨(F.q9 h).1, rfl, (F.q9 h).2.2.1, (F.q9 h).2.2.2.1, (F.q9 h).2.2.2.2.1, (F.q9 h).2.2.2.2.2.1, (F.q9 h).2.2.2.2.2.2.1, (F.q9 h).2.2.2.2.2.2.2.1, (F.q9 h).2.2.2.2.2.2.2.2⟩, F.f0, fun _ => rfl, F.f2, F.f3, F.f4, F.f5, F.f6, F.f7, F.f8, F.f9, F.st0, F.st1, F.mz⟩
      clear F
      go_simp
      exact HK.out _ _ ⟨_, _, _, _, _, _, _, _, _, _, _, _, rfl, HF.out⟩
    · obtain rfl := F.f1 (by simp [hdep])
      have HF : Hid (tru8F bx n cw aw S0 S1 (upd d_ 2) x68 (.slice aw n cw) (.int .i64 (n : Int)) x71 x72 x73 x74 x75 x9 x10 ms g1 w1) := ⟨F.q1, fun _ => (show _ from (by simp [hdep] : d_ 1 = true)), fun h => rfl, F.q5, F.q6, F.q7, fun h => ⟨(F.q8 h).1, (F.q8 h).2.1, rfl, (F.q8 h).2.2.2⟩, fun h => ⟨(F.q9 h).1, (F.q9 h).2.1, rfl, (F.q9 h).2.2.2.1, (F.q9 h).2.2.2.2.1, (F.q9 h).2.2.2.2.2.1, (F.q9 h).2.2.2.2.2.2.1, (F.q9 h).2.2.2.2.2.2.2.1, (F.q9 h).2.2.2.2.2.2.2.2⟩, F.f0, F.f1, fun _ => rfl, F.f3, F.f4, F.f5, F.f6, F.f7, F.f8, F.f9, F.st0, F.st1, F.mz⟩
      clear F
      go_simp
      exact HK.out _ _ ⟨_, _, _, _, _, _, _, _, _, _, _, _, rfl, HF.out⟩
    · have hS := F.st0  hd_
      obtain rfl := F.f2 (by simp [hdep])
      obtain ⟨v_, w_, hr, hres⟩ := kc3.out (d_ 7) ms w1 hS
      have HF := Lib.hid F
      clear F hS
      go_simp
      exact HK.out _ _ ⟨_, _, _, _, _, _, _, _, _, _, ms, v_, rfl, ⟨HF.out.q1, HF.out.q2, fun _ => (show _ from (by simp [hdep] : d_ 2 = true)), HF.out.q5, HF.out.q6, HF.out.q7, fun h => ⟨(HF.out.q8 h).1, (HF.out.q8 h).2.1, (HF.out.q8 h).2.2.1, rfl⟩, fun h => ⟨(HF.out.q9 h).1, (HF.out.q9 h).2.1, (HF.out.q9 h).2.2.1, rfl, (HF.out.q9 h).2.2.2.2.1, (HF.out.q9 h).2.2.2.2.2.1, (HF.out.q9 h).2.2.2.2.2.2.1, (HF.out.q9 h).2.2.2.2.2.2.2.1, (HF.out.q9 h).2.2.2.2.2.2.2.2⟩, HF.out.f0, HF.out.f1, HF.out.f2, fun _ => rfl, HF.out.f4, HF.out.f5, HF.out.f6, HF.out.f7, fun h => (by have h2 : d_ 3 = true := (HF.out.q8 h).2.2.2; rw [show d_ 3 = false from hd_] at h2; cases h2), HF.out.f9, fun h => (by simp [upd] at h), fun _ => hres, HF.out.mz⟩⟩
    · have HF : Hid (tru8F bx n cw aw S0 S1 (upd d_ 4) x68 x69 x70 x71 (.pointer (some ⟨bx, 6, none⟩)) x73 x74 x75 x9 x10 ms g1 w1) := ⟨F.q1, F.q2, F.q3, fun h => rfl, F.q6, F.q7, F.q8, fun h => ⟨(F.q9 h).1, (F.q9 h).2.1, (F.q9 h).2.2.1, (F.q9 h).2.2.2.1, rfl, (F.q9 h).2.2.2.2.2.1, (F.q9 h).2.2.2.2.2.2.1, (F.q9 h).2.2.2.2.2.2.2.1, (F.q9 h).2.2.2.2.2.2.2.2⟩, F.f0, F.f1, F.f2, F.f3, fun _ => rfl, F.f5, F.f6, F.f7, F.f8, F.f9, F.st0, F.st1, F.mz⟩
      clear F
      go_simp
      exact HK.out _ _ ⟨_, _, _, _, _, _, _, _, _, _, _, _, rfl, HF.out⟩
    · have hst : S0 (d_ 7) ms w1 ∨ S1 (d_ 7) ms g1 w1 := by
        cases e1 : d_ 3 with
        | false => exact .inl ((F.st0 e1))
        | true =>
          exact .inr ((F.st1 e1))
      have kk := kl5.out (d_ 7) ms g1 w1 hst
      clear hst
      obtain rfl := F.f4 (by simp [hdep])
      have HF : Hid (tru8F bx n cw aw S0 S1 (upd d_ 5) x68 x69 x70 x71 (.pointer (some ⟨bx, 6, none⟩)) (.slice aw n cw) x74 x75 x9 x10 ms g1 w1) := ⟨F.q1, F.q2, F.q3, fun _ => (show _ from (by simp [hdep] : d_ 4 = true)), fun h => rfl, F.q7, F.q8, fun h => ⟨(F.q9 h).1, (F.q9 h).2.1, (F.q9 h).2.2.1, (F.q9 h).2.2.2.1, (F.q9 h).2.2.2.2.1, rfl, (F.q9 h).2.2.2.2.2.2.1, (F.q9 h).2.2.2.2.2.2.2.1, (F.q9 h).2.2.2.2.2.2.2.2⟩, F.f0, F.f1, F.f2, F.f3, F.f4, fun _ => rfl, F.f6, F.f7, F.f8, F.f9, F.st0, F.st1, F.mz⟩
      clear F
      go_simp
      exact HK.out _ _ ⟨_, _, _, _, _, _, _, _, _, _, _, _, rfl, HF.out⟩
    · obtain rfl := F.f5 (by simp [hdep])
      have HF : Hid (tru8F bx n cw aw S0 S1 (upd d_ 6) x68 x69 x70 x71 x72 (.slice aw n cw) (.int .i64 (n : Int)) x75 x9 x10 ms g1 w1) := ⟨F.q1, F.q2, F.q3, F.q5, fun _ => (show _ from (by simp [hdep] : d_ 5 = true)), fun h => rfl, F.q8, fun h => ⟨(F.q9 h).1, (F.q9 h).2.1, (F.q9 h).2.2.1, (F.q9 h).2.2.2.1, (F.q9 h).2.2.2.2.1, (F.q9 h).2.2.2.2.2.1, rfl, (F.q9 h).2.2.2.2.2.2.2.1, (F.q9 h).2.2.2.2.2.2.2.2⟩, F.f0, F.f1, F.f2, F.f3, F.f4, F.f5, fun _ => rfl, F.f7, F.f8, F.f9, F.st0, F.st1, F.mz⟩
      clear F
      go_simp
      exact HK.out _ _ ⟨_, _, _, _, _, _, _, _, _, _, _, _, rfl, HF.out⟩
    · obtain rfl := F.f6 (by simp [hdep])
      have HF : Hid (tru8F bx n cw aw S0 S1 (upd d_ 7) x68 x69 x70 x71 x72 x73 (.int .i64 (n : Int)) (.slice (some ⟨w1.heap.size, 0, none⟩) n n) x9 x10 w1.heap.size g1 (w1.alloc (.cells (madeCells #[.int .i64 0] n) 3))) := ⟨F.q1, F.q2, F.q3, F.q5, F.q6, fun _ => (show _ from (by simp [hdep] : d_ 6 = true)), F.q8, fun h => ⟨(F.q9 h).1, (F.q9 h).2.1, (F.q9 h).2.2.1, (F.q9 h).2.2.2.1, (F.q9 h).2.2.2.2.1, (F.q9 h).2.2.2.2.2.1, (F.q9 h).2.2.2.2.2.2.1, rfl, (F.q9 h).2.2.2.2.2.2.2.2⟩, F.f0, F.f1, F.f2, F.f3, F.f4, F.f5, F.f6, fun _ => rfl, F.f8, fun h => (by have h2 : d_ 7 = true := (F.q9 h).2.2.2.2.2.2.2.1; rw [show d_ 7 = false from hd_] at h2; cases h2), fun b => ks0.out w1 (by have h := F.st0 b; rw [show d_ 7 = false from hd_, F.mz hd_] at h; exact h), fun a => ks1.out g1 w1 (by have h := F.st1 a; rw [show d_ 7 = false from hd_, F.mz hd_] at h; exact h), fun h => (by simp [upd] at h)⟩
      clear F
      have hm := make24 hn w1
      rw [Nat.mul_one] at hm
      go_simp
      exact HK.out _ _ ⟨_, _, _, _, _, _, _, _, _, _, _, _, rfl, HF.out⟩
    · obtain rfl := F.f3 (by simp [hdep])
      have HF : Hid (tru8F bx n cw aw S0 S1 (upd d_ 8) x68 x69 x70 (.slice (some ⟨g1, 0, none⟩) n n) x72 x73 x74 x75 (.slice (some ⟨g1, 0, none⟩) n n) x10 ms g1 w1) := ⟨F.q1, F.q2, F.q3, F.q5, F.q6, F.q7, fun _ => ⟨(show _ from (by simp [hdep] : d_ 0 = true)), (show _ from (by simp [hdep] : d_ 1 = true)), (show _ from (by simp [hdep] : d_ 2 = true)), (show _ from (by simp [hdep] : d_ 3 = true))⟩, fun h => ⟨(F.q9 h).1, (F.q9 h).2.1, (F.q9 h).2.2.1, (F.q9 h).2.2.2.1, (F.q9 h).2.2.2.2.1, (F.q9 h).2.2.2.2.2.1, (F.q9 h).2.2.2.2.2.2.1, (F.q9 h).2.2.2.2.2.2.2.1, rfl⟩, F.f0, F.f1, F.f2, F.f3, F.f4, F.f5, F.f6, F.f7, fun _ => rfl, F.f9, F.st0, F.st1, F.mz⟩
      clear F
      go_simp
      exact HK.out _ _ ⟨_, _, _, _, _, _, _, _, _, _, _, _, rfl, HF.out⟩
    · obtain rfl := F.f7 (by simp [hdep])
      have HF : Hid (tru8F bx n cw aw S0 S1 (upd d_ 9) x68 x69 x70 x71 x72 x73 x74 (.slice (some ⟨ms, 0, none⟩) n n) x9 (.slice (some ⟨ms, 0, none⟩) n n) ms g1 w1) := ⟨F.q1, F.q2, F.q3, F.q5, F.q6, F.q7, F.q8, fun _ => ⟨(show _ from (by simp [hdep] : d_ 0 = true)), (show _ from (by simp [hdep] : d_ 1 = true)), (show _ from (by simp [hdep] : d_ 2 = true)), (show _ from (by simp [hdep] : d_ 3 = true)), (show _ from (by simp [hdep] : d_ 4 = true)), (show _ from (by simp [hdep] : d_ 5 = true)), (show _ from (by simp [hdep] : d_ 6 = true)), (show _ from (by simp [hdep] : d_ 7 = true)), (show _ from (by simp [hdep] : d_ 8 = true))⟩, F.f0, F.f1, F.f2, F.f3, F.f4, F.f5, F.f6, F.f7, F.f8, fun _ => rfl, F.st0, F.st1, F.mz⟩
      clear F
      go_simp
      exact HK.out _ _ ⟨_, _, _, _, _, _, _, _, _, _, _, _, rfl, HF.out⟩
  · rintro d_ a_ w1 hall ⟨x68, x69, x70, x71, x72, x73, x74, x75, x9, x10, ms, g1, rfl, F⟩
    have hall' : ∀ k, k < 10 → d_ k = true := hall
    obtain rfl := F.f0 (hall' 0 (by decide))
    obtain rfl := F.f1 (hall' 1 (by decide))
    obtain rfl := F.f2 (hall' 2 (by decide))
    obtain rfl := F.f3 (hall' 3 (by decide))
    obtain rfl := F.f4 (hall' 4 (by decide))
    obtain rfl := F.f5 (hall' 5 (by decide))
    obtain rfl := F.f6 (hall' 6 (by decide))
    obtain rfl := F.f7 (hall' 7 (by decide))
    obtain rfl := F.f8 (hall' 8 (by decide))
    obtain rfl := F.f9 (hall' 9 (by decide))
    have hst := F.st1 (hall' 3 (by decide))
    rw [show d_ 7 = true from hall' 7 (by decide)] at hst
    exact HQ.out ms g1 w1 hst
noncomputable def tru24C : Code := (Try.f6.body.bind (regionAt 24)).getD .skip
set_option maxRecDepth 100000 in
set_option maxHeartbeats 8000000 in
theorem tru24 {g gb go cg i n : Nat} {x u : Int} {P0 P1 : World → Prop} {Q : Exit → Act → World → Prop} {W1 : World} (hin : i < n) (h0 : P0 W1.drew)
    (kl3 : Hid (∀ w : World, (P0 w) → w.cell? ⟨g, i, none⟩ = some (.int .i64 (x))))
    (kl8 : Hid (∀ w : World, (P0 w) → w.cell? ⟨gb, go + i * 2, none⟩ = some (.int .i64 (u))))
    (ks11 : Hid (∀ w : World, P0 w → (∃ u, w.cell? ⟨g, i, none⟩ = some u) ∧ w.frozen? ⟨g, i, none⟩ = false ∧ P1 (w.setCell ⟨g, i, none⟩ (.int .i64 (IntKind.i64.wrap (x + u))))))
    {s0 s1 s2 s3 s4 s5 s6 s7 s8 s9 s11 s12 s14 s15 s16 s17 s19 s20 s21 s22 s23 s24 s25 s26 s27 s28 s29 s30 s31 s32 s33 s34 s35 s36 s37 s38 s39 s40 s41 s42 s43 s44 s45 s46 s47 s48 s49 s50 s51 s52 s53 s54 s55 s56 s57 s58 s59 s60 s61 s62 s63 s64 s65 s66 s67 s68 s69 s70 s71 s72 s73 s74 s75 s76 s77 s78 s79 s80 s81 s82 s83 s84 s85 s86 s87 s88 s89 s90 s91 s92 s93 s94 s95 s96 s97 s98 s99 s100 s101 s102 s103 s104 s105 s106 s107 s108 s109 s110 s111 s112 s113 s114 s115 s116 s117 s118 s119 s120 s121 s122 s123 s124 s125 s126 s127 s128 s129 s130 s131 s132 s133 s134 s135 s136 s137 s138 s139 s140 s141 s142 s143 s144 s145 s146 s147 s148 s149 s150 s151 s152 s153 s154 s155 s156 s157 s158 s159 s160 s161 s162 s163 s164 s165 s166 s167 s168 s169 s170 s171 s172 s173 s174 s175 s176 s177 s178 s179 s180 s181 s182 s183 s184 s185 s186 s187 s188 s189 s190 s191 s192 s193 s194 s195 s196 s197 s198 s199 s200 s201 s202 s203 s204 s205 s206 s207 s208 s209 s210 s211 s212 s213 s214 s215 s216 s217 s218 s219 s220 s221 s222 s223 s224 s225 s226 s227 s228 s229 s230 s231 s232 s233 s234 s235 s236 s237 s238 s239 s240 s241 s242 s243 s244 s245 s246 s247 s248 s249 s250 s251 s252 s253 s254 s255 s256 s257 s258 s259 s260 s261 s262 s263 s264 s265 s266 s267 s268 s269 s270 s271 s272 s273 s274 s275 : Value} {dd : List Deferred}
    (hQ : ∀ w' : World, P1 w' → Q .normal { tmps := List.toArray (s0 :: s1 :: s2 :: s3 :: s4 :: s5 :: s6 :: s7 :: s8 :: s9 :: .slice (some ⟨g, 0, none⟩) n n :: s11 :: s12 :: .slice (some ⟨gb, go, none⟩) n cg :: s14 :: s15 :: s16 :: s17 :: .int .i64 ((i : Int)) :: s19 :: s20 :: s21 :: s22 :: s23 :: s24 :: s25 :: s26 :: s27 :: s28 :: s29 :: s30 :: s31 :: s32 :: s33 :: s34 :: s35 :: s36 :: s37 :: s38 :: s39 :: s40 :: s41 :: s42 :: s43 :: s44 :: s45 :: s46 :: s47 :: s48 :: s49 :: s50 :: s51 :: s52 :: s53 :: s54 :: s55 :: s56 :: s57 :: s58 :: s59 :: s60 :: s61 :: s62 :: s63 :: s64 :: s65 :: s66 :: s67 :: s68 :: s69 :: s70 :: s71 :: s72 :: s73 :: s74 :: s75 :: s76 :: s77 :: s78 :: s79 :: s80 :: s81 :: s82 :: s83 :: s84 :: s85 :: s86 :: s87 :: s88 :: s89 :: s90 :: s91 :: s92 :: s93 :: s94 :: s95 :: s96 :: s97 :: s98 :: s99 :: s100 :: s101 :: s102 :: s103 :: s104 :: s105 :: s106 :: s107 :: s108 :: s109 :: s110 :: s111 :: s112 :: s113 :: s114 :: s115 :: s116 :: s117 :: s118 :: s119 :: s120 :: s121 :: s122 :: s123 :: s124 :: s125 :: s126 :: s127 :: s128 :: s129 :: s130 :: s131 :: s132 :: s133 :: s134 :: s135 :: s136 :: s137 :: s138 :: s139 :: s140 :: s141 :: s142 :: s143 :: s144 :: s145 :: s146 :: s147 :: s148 :: s149 :: s150 :: s151 :: s152 :: s153 :: s154 :: s155 :: s156 :: s157 :: s158 :: s159 :: s160 :: s161 :: s162 :: s163 :: s164 :: s165 :: s166 :: s167 :: s168 :: s169 :: s170 :: s171 :: s172 :: s173 :: s174 :: s175 :: s176 :: s177 :: s178 :: s179 :: s180 :: s181 :: s182 :: s183 :: s184 :: s185 :: .slice (some ⟨g, 0, none⟩) n n :: .int .i64 ((i : Int)) :: .pointer (some ⟨g, i, none⟩) :: .int .i64 (x) :: .slice (some ⟨gb, go, none⟩) n cg :: .int .i64 ((i : Int)) :: .pointer (some ⟨gb, go + i * 2, none⟩) :: .pointer (some ⟨gb, go + i * 2, none⟩) :: .int .i64 (u) :: .int .i64 (IntKind.i64.wrap (x + u)) :: .pointer (some ⟨g, i, none⟩) :: s197 :: s198 :: s199 :: s200 :: s201 :: s202 :: s203 :: s204 :: s205 :: s206 :: s207 :: s208 :: s209 :: s210 :: s211 :: s212 :: s213 :: s214 :: s215 :: s216 :: s217 :: s218 :: s219 :: s220 :: s221 :: s222 :: s223 :: s224 :: s225 :: s226 :: s227 :: s228 :: s229 :: s230 :: s231 :: s232 :: s233 :: s234 :: s235 :: s236 :: s237 :: s238 :: s239 :: s240 :: s241 :: s242 :: s243 :: s244 :: s245 :: s246 :: s247 :: s248 :: s249 :: s250 :: s251 :: s252 :: s253 :: s254 :: s255 :: s256 :: s257 :: s258 :: s259 :: s260 :: s261 :: s262 :: s263 :: s264 :: s265 :: s266 :: s267 :: s268 :: s269 :: s270 :: s271 :: s272 :: s273 :: s274 :: s275 :: []),defers := dd } w') :
    Code.wpIn (wideAt none) 0 Try.prog tru24C Q { tmps := List.toArray (s0 :: s1 :: s2 :: s3 :: s4 :: s5 :: s6 :: s7 :: s8 :: s9 :: .slice (some ⟨g, 0, none⟩) n n :: s11 :: s12 :: .slice (some ⟨gb, go, none⟩) n cg :: s14 :: s15 :: s16 :: s17 :: .int .i64 ((i : Int)) :: s19 :: s20 :: s21 :: s22 :: s23 :: s24 :: s25 :: s26 :: s27 :: s28 :: s29 :: s30 :: s31 :: s32 :: s33 :: s34 :: s35 :: s36 :: s37 :: s38 :: s39 :: s40 :: s41 :: s42 :: s43 :: s44 :: s45 :: s46 :: s47 :: s48 :: s49 :: s50 :: s51 :: s52 :: s53 :: s54 :: s55 :: s56 :: s57 :: s58 :: s59 :: s60 :: s61 :: s62 :: s63 :: s64 :: s65 :: s66 :: s67 :: s68 :: s69 :: s70 :: s71 :: s72 :: s73 :: s74 :: s75 :: s76 :: s77 :: s78 :: s79 :: s80 :: s81 :: s82 :: s83 :: s84 :: s85 :: s86 :: s87 :: s88 :: s89 :: s90 :: s91 :: s92 :: s93 :: s94 :: s95 :: s96 :: s97 :: s98 :: s99 :: s100 :: s101 :: s102 :: s103 :: s104 :: s105 :: s106 :: s107 :: s108 :: s109 :: s110 :: s111 :: s112 :: s113 :: s114 :: s115 :: s116 :: s117 :: s118 :: s119 :: s120 :: s121 :: s122 :: s123 :: s124 :: s125 :: s126 :: s127 :: s128 :: s129 :: s130 :: s131 :: s132 :: s133 :: s134 :: s135 :: s136 :: s137 :: s138 :: s139 :: s140 :: s141 :: s142 :: s143 :: s144 :: s145 :: s146 :: s147 :: s148 :: s149 :: s150 :: s151 :: s152 :: s153 :: s154 :: s155 :: s156 :: s157 :: s158 :: s159 :: s160 :: s161 :: s162 :: s163 :: s164 :: s165 :: s166 :: s167 :: s168 :: s169 :: s170 :: s171 :: s172 :: s173 :: s174 :: s175 :: s176 :: s177 :: s178 :: s179 :: s180 :: s181 :: s182 :: s183 :: s184 :: s185 :: s186 :: s187 :: s188 :: s189 :: s190 :: s191 :: s192 :: s193 :: s194 :: s195 :: s196 :: s197 :: s198 :: s199 :: s200 :: s201 :: s202 :: s203 :: s204 :: s205 :: s206 :: s207 :: s208 :: s209 :: s210 :: s211 :: s212 :: s213 :: s214 :: s215 :: s216 :: s217 :: s218 :: s219 :: s220 :: s221 :: s222 :: s223 :: s224 :: s225 :: s226 :: s227 :: s228 :: s229 :: s230 :: s231 :: s232 :: s233 :: s234 :: s235 :: s236 :: s237 :: s238 :: s239 :: s240 :: s241 :: s242 :: s243 :: s244 :: s245 :: s246 :: s247 :: s248 :: s249 :: s250 :: s251 :: s252 :: s253 :: s254 :: s255 :: s256 :: s257 :: s258 :: s259 :: s260 :: s261 :: s262 :: s263 :: s264 :: s265 :: s266 :: s267 :: s268 :: s269 :: s270 :: s271 :: s272 :: s273 :: s274 :: s275 :: []),defers := dd } W1 := by
  have HQ := Lib.hid hQ
  clear hQ
  conv => arg 4; whnf
  refine wpIn_region_invG mixed (by kernel_rfl) (fun d_ a_ w' => a_ = { tmps := List.toArray (s0 :: s1 :: s2 :: s3 :: s4 :: s5 :: s6 :: s7 :: s8 :: s9 :: .slice (some ⟨g, 0, none⟩) n n :: s11 :: s12 :: .slice (some ⟨gb, go, none⟩) n cg :: s14 :: s15 :: s16 :: s17 :: .int .i64 ((i : Int)) :: s19 :: s20 :: s21 :: s22 :: s23 :: s24 :: s25 :: s26 :: s27 :: s28 :: s29 :: s30 :: s31 :: s32 :: s33 :: s34 :: s35 :: s36 :: s37 :: s38 :: s39 :: s40 :: s41 :: s42 :: s43 :: s44 :: s45 :: s46 :: s47 :: s48 :: s49 :: s50 :: s51 :: s52 :: s53 :: s54 :: s55 :: s56 :: s57 :: s58 :: s59 :: s60 :: s61 :: s62 :: s63 :: s64 :: s65 :: s66 :: s67 :: s68 :: s69 :: s70 :: s71 :: s72 :: s73 :: s74 :: s75 :: s76 :: s77 :: s78 :: s79 :: s80 :: s81 :: s82 :: s83 :: s84 :: s85 :: s86 :: s87 :: s88 :: s89 :: s90 :: s91 :: s92 :: s93 :: s94 :: s95 :: s96 :: s97 :: s98 :: s99 :: s100 :: s101 :: s102 :: s103 :: s104 :: s105 :: s106 :: s107 :: s108 :: s109 :: s110 :: s111 :: s112 :: s113 :: s114 :: s115 :: s116 :: s117 :: s118 :: s119 :: s120 :: s121 :: s122 :: s123 :: s124 :: s125 :: s126 :: s127 :: s128 :: s129 :: s130 :: s131 :: s132 :: s133 :: s134 :: s135 :: s136 :: s137 :: s138 :: s139 :: s140 :: s141 :: s142 :: s143 :: s144 :: s145 :: s146 :: s147 :: s148 :: s149 :: s150 :: s151 :: s152 :: s153 :: s154 :: s155 :: s156 :: s157 :: s158 :: s159 :: s160 :: s161 :: s162 :: s163 :: s164 :: s165 :: s166 :: s167 :: s168 :: s169 :: s170 :: s171 :: s172 :: s173 :: s174 :: s175 :: s176 :: s177 :: s178 :: s179 :: s180 :: s181 :: s182 :: s183 :: s184 :: s185 :: pk (d_ 0) (.slice (some ⟨g, 0, none⟩) n n) s186 :: pk (d_ 1) (.int .i64 ((i : Int))) s187 :: pk (d_ 2) (.pointer (some ⟨g, i, none⟩)) s188 :: pk (d_ 3) (.int .i64 (x)) s189 :: pk (d_ 4) (.slice (some ⟨gb, go, none⟩) n cg) s190 :: pk (d_ 5) (.int .i64 ((i : Int))) s191 :: pk (d_ 6) (.pointer (some ⟨gb, go + i * 2, none⟩)) s192 :: pk (d_ 7) (.pointer (some ⟨gb, go + i * 2, none⟩)) s193 :: pk (d_ 8) (.int .i64 (u)) s194 :: pk (d_ 9) (.int .i64 (IntKind.i64.wrap (x + u))) s195 :: pk (d_ 10) (.pointer (some ⟨g, i, none⟩)) s196 :: s197 :: s198 :: s199 :: s200 :: s201 :: s202 :: s203 :: s204 :: s205 :: s206 :: s207 :: s208 :: s209 :: s210 :: s211 :: s212 :: s213 :: s214 :: s215 :: s216 :: s217 :: s218 :: s219 :: s220 :: s221 :: s222 :: s223 :: s224 :: s225 :: s226 :: s227 :: s228 :: s229 :: s230 :: s231 :: s232 :: s233 :: s234 :: s235 :: s236 :: s237 :: s238 :: s239 :: s240 :: s241 :: s242 :: s243 :: s244 :: s245 :: s246 :: s247 :: s248 :: s249 :: s250 :: s251 :: s252 :: s253 :: s254 :: s255 :: s256 :: s257 :: s258 :: s259 :: s260 :: s261 :: s262 :: s263 :: s264 :: s265 :: s266 :: s267 :: s268 :: s269 :: s270 :: s271 :: s272 :: s273 :: s274 :: s275 :: []),defers := dd } ∧ ch1 P0 P1 (d_ 11) w' ∧ OrdP [[], [], [0, 1], [2], [], [], [4, 5], [6], [7], [3, 8], [0, 1, 2, 3, 4, 5, 6, 7, 8, 9], [0, 1, 2, 3, 4, 5, 6, 7, 8, 9, 10]] d_) ?_ ?_ ?_
  · exact ⟨rfl, h0, fun k h => by cases h⟩
  · refine ⟨?_,?_,?_,?_,?_,?_,?_,?_,?_,?_,?_,?_, trivial⟩
    all_goals
      rintro d_ a_ w1 K hd_ hdep ⟨rfl, F, O⟩ HK
      simp [Region.binds] at hdep
    · have HO : Hid (OrdP [[], [], [0, 1], [2], [], [], [4, 5], [6], [7], [3, 8], [0, 1, 2, 3, 4, 5, 6, 7, 8, 9], [0, 1, 2, 3, 4, 5, 6, 7, 8, 9, 10]] (upd d_ 0)) := O.step (show ∀ e ∈ ([] : List Nat), d_ e = true by simp [hdep])
      clear O
      have HF := Lib.hid F
      clear F hdep
      go_simp
      refine HK.out _ _ ⟨?_, HF.out, HO.out⟩
      all_goals rfl
    · have HO : Hid (OrdP [[], [], [0, 1], [2], [], [], [4, 5], [6], [7], [3, 8], [0, 1, 2, 3, 4, 5, 6, 7, 8, 9], [0, 1, 2, 3, 4, 5, 6, 7, 8, 9, 10]] (upd d_ 1)) := O.step (show ∀ e ∈ ([] : List Nat), d_ e = true by simp [hdep])
      clear O
      have HF := Lib.hid F
      clear F hdep
      go_simp
      refine HK.out _ _ ⟨?_, HF.out, HO.out⟩
      all_goals rfl
    · have HO : Hid (OrdP [[], [], [0, 1], [2], [], [], [4, 5], [6], [7], [3, 8], [0, 1, 2, 3, 4, 5, 6, 7, 8, 9], [0, 1, 2, 3, 4, 5, 6, 7, 8, 9, 10]] (upd d_ 2)) := O.step (show ∀ e ∈ ([0, 1] : List Nat), d_ e = true by simp [hdep])
      have q0 : d_ 0 = true := by simp [hdep]
      have q1 : d_ 1 = true := by simp [hdep]
      clear O
      have hin2 : i < n := hin
      rw [pk_of q0, pk_of q1]
      have HF := Lib.hid F
      clear F hdep
      go_simp
      refine HK.out _ _ ⟨?_, HF.out, HO.out⟩
      rw [pk_of (show upd d_ 2 0 = true from q0), pk_of (show upd d_ 2 1 = true from q1)]
      all_goals rfl
    · have HO : Hid (OrdP [[], [], [0, 1], [2], [], [], [4, 5], [6], [7], [3, 8], [0, 1, 2, 3, 4, 5, 6, 7, 8, 9], [0, 1, 2, 3, 4, 5, 6, 7, 8, 9, 10]] (upd d_ 3)) := O.step (show ∀ e ∈ ([2] : List Nat), d_ e = true by simp [hdep])
      have q2 : d_ 2 = true := by simp [hdep]
      have F2 := F
      have n_ : d_ 11 = false := by
        cases e_ : d_ 11 with
        | false => rfl
        | true => have h2 := (O 11 e_ 3 (by decide)); rw [show d_ 3 = false from hd_] at h2; cases h2
      rw [n_] at F2
      have kk := kl3.out w1 (by
        have h3 := ch1_or F2
        simp_all [ch1])
      clear F2
      clear n_
      clear O
      rw [pk_of q2]
      have HF := Lib.hid F
      clear F hdep
      go_simp
      refine HK.out _ _ ⟨?_, HF.out, HO.out⟩
      rw [pk_of (show upd d_ 3 2 = true from q2)]
      all_goals rfl
    · have HO : Hid (OrdP [[], [], [0, 1], [2], [], [], [4, 5], [6], [7], [3, 8], [0, 1, 2, 3, 4, 5, 6, 7, 8, 9], [0, 1, 2, 3, 4, 5, 6, 7, 8, 9, 10]] (upd d_ 4)) := O.step (show ∀ e ∈ ([] : List Nat), d_ e = true by simp [hdep])
      clear O
      have HF := Lib.hid F
      clear F hdep
      go_simp
      refine HK.out _ _ ⟨?_, HF.out, HO.out⟩
      all_goals rfl
    · have HO : Hid (OrdP [[], [], [0, 1], [2], [], [], [4, 5], [6], [7], [3, 8], [0, 1, 2, 3, 4, 5, 6, 7, 8, 9], [0, 1, 2, 3, 4, 5, 6, 7, 8, 9, 10]] (upd d_ 5)) := O.step (show ∀ e ∈ ([] : List Nat), d_ e = true by simp [hdep])
      clear O
      have HF := Lib.hid F
      clear F hdep
      go_simp
      refine HK.out _ _ ⟨?_, HF.out, HO.out⟩
      all_goals rfl
    · have HO : Hid (OrdP [[], [], [0, 1], [2], [], [], [4, 5], [6], [7], [3, 8], [0, 1, 2, 3, 4, 5, 6, 7, 8, 9], [0, 1, 2, 3, 4, 5, 6, 7, 8, 9, 10]] (upd d_ 6)) := O.step (show ∀ e ∈ ([4, 5] : List Nat), d_ e = true by simp [hdep])
      have q4 : d_ 4 = true := by simp [hdep]
      have q5 : d_ 5 = true := by simp [hdep]
      clear O
      have hin2 : i < n := hin
      rw [pk_of q4, pk_of q5]
      have HF := Lib.hid F
      clear F hdep
      go_simp
      refine HK.out _ _ ⟨?_, HF.out, HO.out⟩
      rw [pk_of (show upd d_ 6 4 = true from q4), pk_of (show upd d_ 6 5 = true from q5)]
      all_goals rfl
    · have HO : Hid (OrdP [[], [], [0, 1], [2], [], [], [4, 5], [6], [7], [3, 8], [0, 1, 2, 3, 4, 5, 6, 7, 8, 9], [0, 1, 2, 3, 4, 5, 6, 7, 8, 9, 10]] (upd d_ 7)) := O.step (show ∀ e ∈ ([6] : List Nat), d_ e = true by simp [hdep])
      have q6 : d_ 6 = true := by simp [hdep]
      clear O
      rw [pk_of q6]
      have HF := Lib.hid F
      clear F hdep
      go_simp
      refine HK.out _ _ ⟨?_, HF.out, HO.out⟩
      rw [pk_of (show upd d_ 7 6 = true from q6)]
      all_goals rfl
    · have HO : Hid (OrdP [[], [], [0, 1], [2], [], [], [4, 5], [6], [7], [3, 8], [0, 1, 2, 3, 4, 5, 6, 7, 8, 9], [0, 1, 2, 3, 4, 5, 6, 7, 8, 9, 10]] (upd d_ 8)) := O.step (show ∀ e ∈ ([7] : List Nat), d_ e = true by simp [hdep])
      have q7 : d_ 7 = true := by simp [hdep]
      have F2 := F
      have n_ : d_ 11 = false := by
        cases e_ : d_ 11 with
        | false => rfl
        | true => have h2 := (O 11 e_ 8 (by decide)); rw [show d_ 8 = false from hd_] at h2; cases h2
      rw [n_] at F2
      have kk := kl8.out w1 (by
        have h3 := ch1_or F2
        simp_all [ch1])
      clear F2
      clear n_
      clear O
      rw [pk_of q7]
      have HF := Lib.hid F
      clear F hdep
      go_simp
      refine HK.out _ _ ⟨?_, HF.out, HO.out⟩
      rw [pk_of (show upd d_ 8 7 = true from q7)]
      all_goals rfl
    · have HO : Hid (OrdP [[], [], [0, 1], [2], [], [], [4, 5], [6], [7], [3, 8], [0, 1, 2, 3, 4, 5, 6, 7, 8, 9], [0, 1, 2, 3, 4, 5, 6, 7, 8, 9, 10]] (upd d_ 9)) := O.step (show ∀ e ∈ ([3, 8] : List Nat), d_ e = true by simp [hdep])
      have q3 : d_ 3 = true := by simp [hdep]
      have q8 : d_ 8 = true := by simp [hdep]
      clear O
      rw [pk_of q3, pk_of q8]
      have HF := Lib.hid F
      clear F hdep
      go_simp
      refine HK.out _ _ ⟨?_, HF.out, HO.out⟩
      rw [pk_of (show upd d_ 9 3 = true from q3), pk_of (show upd d_ 9 8 = true from q8)]
      all_goals rfl
    · have HO : Hid (OrdP [[], [], [0, 1], [2], [], [], [4, 5], [6], [7], [3, 8], [0, 1, 2, 3, 4, 5, 6, 7, 8, 9], [0, 1, 2, 3, 4, 5, 6, 7, 8, 9, 10]] (upd d_ 10)) := O.step (show ∀ e ∈ ([0, 1, 2, 3, 4, 5, 6, 7, 8, 9] : List Nat), d_ e = true by simp [hdep])
      have q0 : d_ 0 = true := by simp [hdep]
      have q1 : d_ 1 = true := by simp [hdep]
      clear O
      have hin2 : i < n := hin
      rw [pk_of q0, pk_of q1]
      have HF := Lib.hid F
      clear F hdep
      go_simp
      refine HK.out _ _ ⟨?_, HF.out, HO.out⟩
      rw [pk_of (show upd d_ 10 0 = true from q0), pk_of (show upd d_ 10 1 = true from q1)]
      all_goals rfl
    · have HO : Hid (OrdP [[], [], [0, 1], [2], [], [], [4, 5], [6], [7], [3, 8], [0, 1, 2, 3, 4, 5, 6, 7, 8, 9], [0, 1, 2, 3, 4, 5, 6, 7, 8, 9, 10]] (upd d_ 11)) := O.step (show ∀ e ∈ ([0, 1, 2, 3, 4, 5, 6, 7, 8, 9, 10] : List Nat), d_ e = true by simp [hdep])
      have q9 : d_ 9 = true := by simp [hdep]
      have q10 : d_ 10 = true := by simp [hdep]
      clear O
      rw [pk_of q9, pk_of q10]
      obtain ⟨hP, hN⟩ := ch1_s1 F hd_
      obtain ⟨⟨u0, c0⟩, z0, hR⟩ := ks11.out w1 hP
      have HF := Lib.hid (hN _ hR)
      clear F hP hR hN hdep
      go_simp
      have HG := HF.out
      refine HK.out _ _ ⟨?_, HG, HO.out⟩
      rw [pk_of (show upd d_ 11 9 = true from q9), pk_of (show upd d_ 11 10 = true from q10)]
      all_goals rfl
  · rintro d_ a_ w1 hall ⟨rfl, F, O⟩
    have hall' : ∀ k, k < 12 → d_ k = true := hall
    rw [hall' 11 (by decide)] at F
    have HF := Lib.hid F
    clear F
    rw [pk_of (hall' 0 (by decide)), pk_of (hall' 1 (by decide)), pk_of (hall' 2 (by decide)), pk_of (hall' 3 (by decide)), pk_of (hall' 4 (by decide)), pk_of (hall' 5 (by decide)), pk_of (hall' 6 (by decide)), pk_of (hall' 7 (by decide)), pk_of (hall' 8 (by decide)), pk_of (hall' 9 (by decide)), pk_of (hall' 10 (by decide))]
    exact HQ.out w1 HF.out
end Go.Proofs.Ytjkhclijmcmdjaa
namespace Go.Proofs.Ytjkhclijmcmdjaa
open Go.RowKit
set_option linter.unusedVariables false
set_option linter.unusedSimpArgs false
noncomputable def truRC : Code := (Try.f6.body.bind (fromRegion 8)).getD .skip
set_option maxRecDepth 100000 in
set_option maxHeartbeats 16000000 in
theorem true_rest {p : Prs} {A : PrsA} {bx : Nat} {l : List Fme} {av : Option Addr} {cv : Nat} {ub : Option Addr} {lb cb : Nat} {short e : Int} {w w0 : World} {dd : List Deferred}
    (HPX : Hid (∀ v, Below w0.heap.size w0 v → PrsC v bx p A ∧ IsPrs v p A ∧ IsFmes v av l ∧ IsU16 v ub lb ∧ Below w.heap.size w v)) (HS : Hid p.Small) (HV : Hid (p.valid = true)) (HPL : Hid (planOk p l = true)) (HLB : Hid (0 < lb ∧ lb ≤ 9223372036854775807))
    (HE : Hid ((e = 0 ∧ short = 0 ∧ ∀ v, v < p.wanted.length → gi p.wanted v ≤ p.least l v) ∨ ∃ s : Nat, e = 10 ∧ short = (s : Int) ∧ s < p.wanted.length ∧ p.least l s < gi p.wanted s ∧ ∀ v, v < s → gi p.wanted v ≤ p.least l v)) (hdd : dd = [])
    {s0 s4 s5 s6 s9 s10 s11 s12 s13 s14 s15 s16 s17 s18 s19 s20 s21 s22 s23 s24 s25 s26 s27 s28 s29 s30 s31 s32 s33 s34 s35 s36 s37 s38 s39 s40 s41 s42 s43 s44 s45 s46 s47 s48 s49 s50 s51 s52 s53 s54 s55 s56 s57 s58 s59 s60 s61 s62 s63 s64 s65 s66 s67 s68 s69 s70 s71 s72 s73 s74 s75 s76 s77 s78 s79 s80 s81 s82 s83 s84 s85 s86 s87 s88 s89 s90 s91 s92 s93 s94 s95 s96 s97 s98 s99 s100 s101 s102 s103 s104 s105 s106 s107 s108 s109 s110 s111 s112 s113 s114 s115 s116 s117 s118 s119 s120 s121 s122 s123 s124 s125 s126 s127 s128 s129 s130 s131 s132 s133 s134 s135 s136 s137 s138 s139 s140 s141 s142 s143 s144 s145 s146 s147 s148 s149 s150 s151 s152 s153 s154 s155 s156 s157 s158 s159 s160 s161 s162 s163 s164 s165 s166 s167 s168 s169 s170 s171 s172 s173 s174 s175 s176 s177 s178 s179 s180 s181 s182 s183 s184 s185 s186 s187 s188 s189 s190 s191 s192 s193 s194 s195 s196 s197 s198 s199 s200 s201 s202 s203 s204 s205 s206 s207 s208 s209 s210 s211 s212 s213 s214 s215 s216 s217 s218 s219 s220 s221 s222 s223 s224 s225 s226 s227 s228 s229 s230 s231 s232 s233 s234 s235 s236 s237 s238 s239 s240 s241 s242 s243 s244 s245 s246 s247 s248 s249 s250 s251 s252 s253 s254 s255 s256 s257 s258 s259 s260 s261 s262 s263 s264 s265 s266 s267 s268 s269 s270 s271 s272 s273 s274 s275 : Value} :
    Code.wp Try.prog truRC (bodyPost Try.prog Try.f6 fun e w' => e = .returned (.bool true) ∧ Below w.heap.size w w') { tmps := List.toArray (s0 :: .slice av l.length cv :: .slice ub lb cb :: .pointer (some ⟨bx, 0, none⟩) :: s4 :: s5 :: s6 :: .int .i64 short :: .int .i64 e :: s9 :: s10 :: s11 :: s12 :: s13 :: s14 :: s15 :: s16 :: s17 :: s18 :: s19 :: s20 :: s21 :: s22 :: s23 :: s24 :: s25 :: s26 :: s27 :: s28 :: s29 :: s30 :: s31 :: s32 :: s33 :: s34 :: s35 :: s36 :: s37 :: s38 :: s39 :: s40 :: s41 :: s42 :: s43 :: s44 :: s45 :: s46 :: s47 :: s48 :: s49 :: s50 :: s51 :: s52 :: s53 :: s54 :: s55 :: s56 :: s57 :: s58 :: s59 :: s60 :: s61 :: s62 :: s63 :: s64 :: s65 :: s66 :: s67 :: s68 :: s69 :: s70 :: s71 :: s72 :: s73 :: s74 :: s75 :: s76 :: s77 :: s78 :: s79 :: s80 :: s81 :: s82 :: s83 :: s84 :: s85 :: s86 :: s87 :: s88 :: s89 :: s90 :: s91 :: s92 :: s93 :: s94 :: s95 :: s96 :: s97 :: s98 :: s99 :: s100 :: s101 :: s102 :: s103 :: s104 :: s105 :: s106 :: s107 :: s108 :: s109 :: s110 :: s111 :: s112 :: s113 :: s114 :: s115 :: s116 :: s117 :: s118 :: s119 :: s120 :: s121 :: s122 :: s123 :: s124 :: s125 :: s126 :: s127 :: s128 :: s129 :: s130 :: s131 :: s132 :: s133 :: s134 :: s135 :: s136 :: s137 :: s138 :: s139 :: s140 :: s141 :: s142 :: s143 :: s144 :: s145 :: s146 :: s147 :: s148 :: s149 :: s150 :: s151 :: s152 :: s153 :: s154 :: s155 :: s156 :: s157 :: s158 :: s159 :: s160 :: s161 :: s162 :: s163 :: s164 :: s165 :: s166 :: s167 :: s168 :: s169 :: s170 :: s171 :: s172 :: s173 :: s174 :: s175 :: s176 :: s177 :: s178 :: s179 :: s180 :: s181 :: s182 :: s183 :: s184 :: s185 :: s186 :: s187 :: s188 :: s189 :: s190 :: s191 :: s192 :: s193 :: s194 :: s195 :: s196 :: s197 :: s198 :: s199 :: s200 :: s201 :: s202 :: s203 :: s204 :: s205 :: s206 :: s207 :: s208 :: s209 :: s210 :: s211 :: s212 :: s213 :: s214 :: s215 :: s216 :: s217 :: s218 :: s219 :: s220 :: s221 :: s222 :: s223 :: s224 :: s225 :: s226 :: s227 :: s228 :: s229 :: s230 :: s231 :: s232 :: s233 :: s234 :: s235 :: s236 :: s237 :: s238 :: s239 :: s240 :: s241 :: s242 :: s243 :: s244 :: s245 :: s246 :: s247 :: s248 :: s249 :: s250 :: s251 :: s252 :: s253 :: s254 :: s255 :: s256 :: s257 :: s258 :: s259 :: s260 :: s261 :: s262 :: s263 :: s264 :: s265 :: s266 :: s267 :: s268 :: s269 :: s270 :: s271 :: s272 :: s273 :: s274 :: s275 :: []), defers := dd } w0 := by
  subst hdd
  conv => arg 2; whnf
  have HW4 := Lib.hid (wanted_of HV.out)
  have HLL : Hid (l.length ≤ 2) := by have h1 := (planOk_of HPL.out).1; have h2 := formes_of HV.out; rw [Hid]; omega
  have hw4 := HW4.out
  have hll := HLL.out
  refine wp_seq_hid ?_
  intro K8 HK8
  refine wpIn_wide.1 (tru8 (bx := bx) (n := p.wanted.length) (cw := A.cw) (aw := A.aw)
    (S0 := fun fs ms v => Below w0.heap.size w0 v ∧ (fs = true → IRow ms (List.replicate p.wanted.length 0) v ∧ w0.heap.size ≤ ms))
    (S1 := fun fs ms g v => Below w0.heap.size w0 v ∧ IRow g (List.replicate p.wanted.length 0) v ∧ w0.heap.size ≤ g ∧ (fs = true → IRow ms (List.replicate p.wanted.length 0) v ∧ w0.heap.size ≤ ms ∧ ms ≠ g)) (by omega) ?h0 ?l1 ?c3 ?l5 ?s0 ?s1 ?hQ)
  case h0 => exact ⟨(Below.refl _ w0).drew, fun h => by cases h⟩
  case l1 => intro fs ms v h; exact (HPX.out v h.1).1.c6
  case c3 =>
    intro fs ms v h
    have hm := make24 (n := p.wanted.length) (by omega) v
    rw [Nat.mul_one] at hm
    have hb : Below v.heap.size v (v.alloc (.cells (madeCells #[.int .i64 0] p.wanted.length) 3)) := (Below.refl _ _).alloc (Nat.le_refl _) _
    exact ⟨_, _, hm, h.1.trans (hb.mono h.1.size), IRow.made (World.alloc_heap_new v _), h.1.size, fun hf => ⟨(h.2 hf).1.mono hb, (h.2 hf).2, by have := (h.2 hf).1.lt; omega⟩⟩
  case l5 => rintro fs ms g v (h | h) <;> exact (HPX.out v h.1).1.c6
  case s0 =>
    intro v h
    have hb : Below v.heap.size v (v.alloc (.cells (madeCells #[.int .i64 0] p.wanted.length) 3)) := (Below.refl _ _).alloc (Nat.le_refl _) _
    exact ⟨h.1.trans (hb.mono h.1.size), fun _ => ⟨IRow.made (World.alloc_heap_new v _), h.1.size⟩⟩
  case s1 =>
    intro g v h
    have hb : Below v.heap.size v (v.alloc (.cells (madeCells #[.int .i64 0] p.wanted.length) 3)) := (Below.refl _ _).alloc (Nat.le_refl _) _
    exact ⟨h.1.trans (hb.mono h.1.size), h.2.1.mono hb, h.2.2.1, fun _ => ⟨IRow.made (World.alloc_heap_new v _), h.1.size, by have := h.2.1.lt; omega⟩⟩
  intro gL gS w2 hw2
  have HW2 : Hid (Below w0.heap.size w0 w2 ∧ IRow gS (List.replicate p.wanted.length 0) w2 ∧ IRow gL (List.replicate p.wanted.length 0) w2) := ⟨hw2.1, hw2.2.1, (hw2.2.2.2 rfl).1⟩
  have HGG : Hid (w0.heap.size ≤ gS ∧ w0.heap.size ≤ gL ∧ gL ≠ gS) := ⟨hw2.2.2.1, (hw2.2.2.2 rfl).2.1, (hw2.2.2.2 rfl).2.2⟩
  clear hw2
  refine HK8.out _ _ ?_
  clear HK8 K8
  refine wp_seq_hid ?_
  intro K9 HK9
  go_wp2_with fail
  go_loopw [78] (fun i wr => ∃ (j : Nat) (S L : List Int), j ≤ l.length ∧ i = .int .i64 j ∧ Hid (SumStart p l j S L ∧ IRow gS S wr ∧ IRow gL L wr ∧ Below w0.heap.size w0 wr)) (fun i _ => l.length - (intOf i).toNat)
  case atStart => exact ⟨0, _, _, by omega, rfl, SumStart.zero p l, HW2.out.2.1, HW2.out.2.2, HW2.out.1⟩
  case round =>
    obtain ⟨j, S, L, hj, rfl, HR⟩ := hrel
    by_cases hlt : j < l.length
    · have HJ := Lib.hid hlt
      obtain ⟨bb, off, hab, ai, ci, d0, d1, d2⟩ := (HPX.out w0 (Below.refl _ w0)).2.2.1 j hlt
      have d0 := cell_stays HR.out.2.2.2 d0
      have d1 := cell_stays HR.out.2.2.2 d1
      have HIW := Lib.hid d2
      have hF := (planOk_of HPL.out).2 (gf l j) (by simp [gf, hlt])
      rw [hab]
      have HAB := Lib.hid hab
      obtain ⟨ub0, uo0, hub, x, hx0, hx1, hx⟩ := (HPX.out w0 (Below.refl _ w0)).2.2.2.1 (j % lb) (Nat.mod_lt _ HLB.out.1)
      rw [hub]
      have HUB := Lib.hid hub
      have HX01 := Lib.hid (And.intro hx0 hx1)
      have HXW := Lib.hid hx
      clear hub hx0 hx1 hx
      have HSO := Lib.hid HR.out.1.open
      have HSTEP := Lib.hid (fun (v : Nat) (S L : List Int) (n : Int) (h : SumOk p l j v S L) (hv : v < p.wanted.length) h0 h1 h2 => SumOk.step (n := n) h hlt hv h0 h1 h2)
      have h5 : Below wr.heap.size wr (wr.alloc (.cells ((gf l j).arr ai ci) 29)) := (Below.refl _ wr).alloc (Nat.le_refl _) _
      have H5 := Lib.hid (And.intro (World.alloc_heap_new wr (.cells ((gf l j).arr ai ci) 29)) (And.intro (HR.out.2.1.mono h5) (And.intro (HR.out.2.2.1.mono h5) (And.intro (HR.out.2.2.2.trans (h5.mono HR.out.2.2.2.size)) (d2.mono (HR.out.2.2.2.trans (h5.mono HR.out.2.2.2.size)))))))
      have HBL : Hid (w0.heap.size ≤ wr.heap.size ∧ gS < wr.heap.size ∧ gL < wr.heap.size) := ⟨HR.out.2.2.2.size, HR.out.2.1.lt, HR.out.2.2.1.lt⟩
      have HF := Lib.hid hF
      clear hab d2 h5 hF
      revert d0 d1 HF HSTEP H5 HIW
      generalize gf l j = f
      intro d0 d1 HIW HSTEP H5 HF
      refine wp_seq_hid ?_
      intro KL7 HKL7
      go_wp2_with fail
      refine HKL7.out _ _ ?_
      clear HKL7 KL7
      refine wp_seq_hid ?_
      intro KLc HKLc
      go_wp2_with fail
      refine HKLc.out _ _ ?_
      clear HKLc KLc
      refine wp_seq_hid ?_
      intro KLB HKLB
      refine wp_block ?_
      refine wp_seq_hid ?_
      intro K11 HK11
      go_wp2_with fail
      refine HK11.out _ _ ?_
      clear HK11 K11 d0 d1
      revert H5 HBL
      generalize wr.alloc (.cells (f.arr ai ci) 29) = w5
      generalize wr.heap.size = b5
      intro HBL H5
      have hfp := fme_parts HF.out
      have HFP := Lib.hid hfp
      have S_ := spoil_of HV.out
      have hgv : givesE p f = ((List.range p.wanted.length).map fun v => p.gives f v, 0) := by
        unfold givesE
        rw [open_ok HV.out, HF.out]
        simp
      have hgl : ((List.range p.wanted.length).map fun v => p.gives f v).length = p.wanted.length := by simp
      have HGV := Lib.hid hgl
      have G := gives15n (f := f) (c := ci) (HPX.out w5 H5.out.2.2.2.1).2.1 HS.out H5.out.2.2.2.2 (by rw [hfp.1]; omega)
      rw [hgv] at G
      simp only [hgl] at G
      have HGC := Lib.hid G
      clear G hgv hgl
      have e0 : w5.cell? ⟨b5, 0, none⟩ = some (.slice ai f.slots.length ci) := by rw [cell_of_heap H5.out.1]; rfl
      have e1 : w5.cell? ⟨b5, 1, none⟩ = some (.int .i64 f.times) := by rw [cell_of_heap H5.out.1]; rfl
      obtain ⟨k0, k1, k2, k3, k4, k5, k6, k7, k8, k9⟩ := (HPX.out w5 H5.out.2.2.2.1).1
      refine wp_seq_hid ?_
      intro K12 HK12
      clear hfp S_
      go_wp2_with fail
      refine HGC.out.mono ?_
      rintro e' b1 ⟨ag, cg, rfl, hsp, hnw, hb⟩
      have HB1 := Lib.hid (And.intro ((hb.block _ (heap_lt H5.out.1)).trans H5.out.1) (And.intro (H5.out.2.1.mono hb) (And.intro (H5.out.2.2.1.mono hb) (And.intro (H5.out.2.2.2.1.trans (hb.mono H5.out.2.2.2.1.size)) (H5.out.2.2.2.2.mono hb)))))
      obtain ⟨gb, go, hag, _⟩ := hsp 0 (by rw [HGV.out]; omega)
      subst hag
      have HNE : Hid (gb ≠ gS ∧ gb ≠ gL) := by
        have h1 := hnw gb go rfl
        have h2 := heap_lt H5.out.1
        have h3 := HBL.out
        constructor <;> omega
      have HSP := Lib.hid hsp
      have HNB : Hid (b5 < b1.heap.size) := heap_lt HB1.out.1
      clear hsp hnw hb HGC k0 k1 k2 k3 k4 k5 k6 k7 k8 k9 e0 e1
      go_wp2_with fail
      refine HK12.out _ _ ?_
      clear HK12 K12
      have k6 := (HPX.out b1 HB1.out.2.2.2.1).1.c6
      refine wp_seq_hid ?_
      intro K13 HK13
      go_wp2_with fail
      refine HK13.out _ _ ?_
      clear HK13 K13 k6
      have e0 : b1.cell? ⟨b5, 0, none⟩ = some (.slice ai f.slots.length ci) := by rw [cell_of_heap HB1.out.1]; rfl
      have e1 : b1.cell? ⟨b5, 1, none⟩ = some (.int .i64 f.times) := by rw [cell_of_heap HB1.out.1]; rfl
      have pc := (HPX.out b1 HB1.out.2.2.2.1).1
      have E1 := fun y : Aft b1.heap.size b1 => cell_stays y.h e1
      have P2 := fun y : Aft b1.heap.size b1 => cell_stays y.h pc.c2
      have P3 := fun y : Aft b1.heap.size b1 => cell_stays y.h pc.c3
      have htm := HFP.out.2.2.2
      have S_ := spoil_of HV.out
      have t1 := truth_span S_ (t := f.times) (s := 0) (b := 0) (by omega) (by omega) (by omega)
      have n1 : 0 ≤ f.times * p.slo := Int.mul_nonneg (by omega) S_.lo
      have n2 : f.times * p.slo ≤ f.times * p.shi := Int.mul_le_mul_of_nonneg_left S_.le (by omega)
      have n3 : f.times * p.shi ≤ f.times * 50 := Int.mul_le_mul_of_nonneg_left S_.hi (by omega)
      have v1 : IntKind.i64.wrap (f.times * p.slo) = f.times * p.slo := IntWalk.i64_in _ (by omega)
      have v2 : (f.times * p.slo).tdiv 100 = f.times * p.slo / 100 := Int.tdiv_eq_ediv_of_nonneg (by omega)
      have v3 : IntKind.i64.wrap (f.times * p.slo / 100) = f.times * p.slo / 100 := IntWalk.i64_in _ (by omega)
      have v4 : IntKind.i64.wrap (f.times * p.shi) = f.times * p.shi := IntWalk.i64_in _ (by omega)
      have v5 : IntKind.i64.wrap (f.times * p.shi + 99) = f.times * p.shi + 99 := IntWalk.i64_in _ (by omega)
      have v6 : (f.times * p.shi + 99).tdiv 100 = (f.times * p.shi + 99) / 100 := Int.tdiv_eq_ediv_of_nonneg (by omega)
      have v7 : IntKind.i64.wrap ((f.times * p.shi + 99) / 100) = (f.times * p.shi + 99) / 100 := IntWalk.i64_in _ (by omega)
      have HT1 := Lib.hid t1.1
      clear t1 n1 n2 n3 S_ pc
      refine wp_seq_hid ?_
      intro K15 HK15
      refine wp_region_aft mixed (by kernel_rfl) ?_
      repeat (go_big_quiet_step (fail))
      refine wpQuiet_nil ?_
      rintro _ ⟨y1, rfl⟩
      have HY : Hid (Below b1.heap.size b1 y1.v) := y1.h
      refine HK15.out _ _ ?_
      clear HK15 K15 v1 v2 v3 v4 v5 v6 v7 E1 P2 P3 e0 e1
      have HB2 := Lib.hid (And.intro ((HY.out.block _ (heap_lt HB1.out.1)).trans HB1.out.1) (And.intro (HB1.out.2.1.mono HY.out) (And.intro (HB1.out.2.2.1.mono HY.out) (And.intro (HB1.out.2.2.2.1.trans (HY.out.mono HB1.out.2.2.2.1.size)) (HSP.out.mono HY.out)))))
      have HI2 := Lib.hid (HB1.out.2.2.2.2.mono HY.out)
      clear HB1 HY
      revert HB2 HI2
      generalize y1.v = b2
      intro HB2 HI2
      have hlb := HLB.out
      have hx0 := HX01.out.1
      have hx1 := HX01.out.2
      have hx := cell_stays HB2.out.2.2.2.1 HXW.out
      have hil : j % lb < lb := Nat.mod_lt _ hlb.1
      have y4 : (j : Int).tmod (lb : Int) = ((j % lb : Nat) : Int) := by rw [Int.tmod_eq_emod_of_nonneg (by omega)]; simp
      have y6 : ¬ (lb : Int) = 0 := by omega
      revert y4 hx hil
      generalize j % lb = u
      intro y4 hx hil
      have y5 : IntKind.i64.wrap x = x := IntWalk.i64_in _ (by omega)
      have HTS := Lib.hid (fun (s : Int) (hs : 0 ≤ s ∧ s ≤ 6) => (truth_span (spoil_of HV.out) (t := f.times) (s := s) (b := x) (by omega) hs (by omega)))
      have HGE := Lib.hid (fun v => gives_eq p f v)
      have HGO : Hid ((p.good f.times).lo = f.times - (f.times * p.shi + 99) / 100 ∧ (p.good f.times).hi = f.times - f.times * p.slo / 100) := ⟨rfl, rfl⟩
      have HSTP : Hid (∀ (v : Nat) (S L : List Int) (n : Int), SumOk p l j v S L → v < p.wanted.length → 0 ≤ gi f.slots v * (f.times - (f.times * p.shi + 99) / 100) → gi f.slots v * (f.times - (f.times * p.shi + 99) / 100) ≤ n → n ≤ 6291456 → SumOk p l j (v + 1) (S.set v (gi S v + n)) (L.set v (gi L v + gi f.slots v * (f.times - (f.times * p.shi + 99) / 100)))) := HSTEP.out
      clear HSTEP
      revert HTS HT1 HGO HSTP
      generalize f.times * p.slo / 100 = few
      generalize (f.times * p.shi + 99) / 100 = many
      intro HT1 HTS HGO HSTP
      have ht1 := HT1.out
      have z1 : IntKind.i64.wrap (many - few) = many - few := IntWalk.i64_in _ (by omega)
      have z2 : IntKind.i64.wrap (many - few + 1) = many - few + 1 := IntWalk.i64_in _ (by omega)
      have z3 : x.tmod (many - few + 1) = x % (many - few + 1) := Int.tmod_eq_emod_of_nonneg (by omega)
      have z6 : ¬ (many - few + 1) = 0 := by omega
      have hr := (HTS.out 0 (by omega)).2
      have hr0 := hr.1
      have hr1 := hr.2.1
      clear hr
      revert z3 HTS hr0 hr1
      generalize x % (many - few + 1) = r
      intro HTS z3 hr0 hr1
      have z4 : IntKind.i64.wrap r = r := IntWalk.i64_in _ (by omega)
      have z5 : IntKind.i64.wrap (few + r) = few + r := IntWalk.i64_in _ (by omega)
      refine wp_seq_hid ?_
      intro K16 HK16
      go_wp2_with fail
      refine HK16.out _ _ ?_
      clear HK16 K16 y4 y5 y6 z1 z2 z3 z4 z5 z6 hx hil hlb
      have HRM : Hid (0 ≤ r ∧ r ≤ many - few) := ⟨hr0, hr1⟩
      have hfs := HFP.out.1
      have hfs4 : f.slots.length ≤ 4 := by omega
      have e0 : b2.cell? ⟨b5, 0, none⟩ = some (.slice ai f.slots.length ci) := by rw [cell_of_heap HB2.out.1]; rfl
      have e1 : b2.cell? ⟨b5, 1, none⟩ = some (.int .i64 f.times) := by rw [cell_of_heap HB2.out.1]; rfl
      clear hr0 hr1 hfs
      go_wp2_with fail
      clear e0 e1
      go_loopw [132] (fun i wr => ∃ (v : Nat) (S L : List Int), v ≤ f.slots.length ∧ i = .int .i64 v ∧ Hid (SumOk p l j v S L ∧ wr.heap[b5]? = some (.cells (f.arr ai ci) 29 (0, 0)) ∧ IRow gS S wr ∧ IRow gL L wr ∧ Below w0.heap.size w0 wr ∧ IsSpns wr (some ⟨gb, go, none⟩) ((List.range p.wanted.length).map fun v => p.gives f v))) (fun i _ => f.slots.length - (intOf i).toNat)
      case atStart => exact ⟨0, _, _, by omega, rfl, HSO.out, HB2.out⟩
      case round =>
        obtain ⟨v, S2, L2, hv, rfl, HV7⟩ := hrel
        by_cases hvt : v < f.slots.length
        · have hvn : v < p.wanted.length := by rw [← HFP.out.1]; exact hvt
          have hsv : 0 ≤ gi f.slots v ∧ gi f.slots v ≤ 6 := HFP.out.2.1 _ (by simp [gi, hvt])
          have hts := (HTS.out (gi f.slots v) hsv).2.2.2
          obtain ⟨ib, io, hai, hsl⟩ := (HIW.out.mono HV7.out.2.2.2.2.1) v hvt
          obtain ⟨gb2, go2, hq, z0, z1⟩ := HV7.out.2.2.2.2.2 v (by rw [HGV.out]; exact hvn)
          cases hq
          have hgz : gs ((List.range p.wanted.length).map fun v => p.gives f v) v = p.gives f v := by simp [gs, hvn]
          rw [hgz, HGE.out v, HGO.out.1, HGO.out.2] at z0 z1
          simp only at z0 z1
          have hsum := HV7.out.1.low v hvn
          have hslen : v < S2.length := by rw [HV7.out.1.slen]; exact hvn
          have hllen : v < L2.length := by rw [HV7.out.1.llen]; exact hvn
          have hst := HSTP.out v S2 L2 (gi f.slots v * (f.times - (few + r))) HV7.out.1 hvn (by omega) (by omega) (by omega)
          have hne : gL ≠ gS := HGG.out.2.2
          have e1 : wr.cell? ⟨b5, 1, none⟩ = some (.int .i64 f.times) := by rw [cell_of_heap HV7.out.2.1]; rfl
          have HVN := Lib.hid (And.intro hvt (And.intro hvn (And.intro hslen hllen)))
          have HST := Lib.hid hst
          have HV8 := Lib.hid (And.intro HV7.out.2.1 (And.intro HV7.out.2.2.1 (And.intro HV7.out.2.2.2.1 (And.intro HV7.out.2.2.2.2.1 HV7.out.2.2.2.2.2))))
          have HZ := Lib.hid z0
          have hj2 : j ≤ 1 := by omega
          have hsu : 0 ≤ gi S2 v ∧ gi S2 v ≤ 12582912 := by omega
          have hlu : 0 ≤ gi L2 v ∧ gi L2 v ≤ 12582912 := by omega
          clear hst hslen hllen hgz hsum HV7 hj2
          revert hsv hts hsl z0 z1 HST HZ
          generalize gi f.slots v = sv
          intro hsv hts hsl z0 z1 HST HZ
          rw [hai]
          have HAI := Lib.hid hai
          clear hai
          have m1 : IntKind.i64.wrap (f.times - (few + r)) = f.times - (few + r) := IntWalk.i64_in _ (by have := HRM.out; omega)
          have m2 : IntKind.i64.wrap (sv * (f.times - (few + r))) = sv * (f.times - (few + r)) := IntWalk.i64_in _ (by omega)
          have m3 : IntKind.i64.wrap (f.times - many) = f.times - many := IntWalk.i64_in _ (by omega)
          have m4 : IntKind.i64.wrap (sv * (f.times - many)) = sv * (f.times - many) := IntWalk.i64_in _ (by omega)
          have m5 : IntKind.i64.wrap (f.times - few) = f.times - few := IntWalk.i64_in _ (by omega)
          have m6 : IntKind.i64.wrap (sv * (f.times - few)) = sv * (f.times - few) := IntWalk.i64_in _ (by omega)
          have g1 : decide (sv * (f.times - (few + r)) < sv * (f.times - many)) = false := by simp; omega
          have g2 : decide (sv * (f.times - (few + r)) > sv * (f.times - few)) = false := by simp; omega
          have hneq : ∀ w, (binOp .neq 23 (.agg #[.int .i64 (sv * (f.times - many)), .int .i64 (sv * (f.times - few))]) (.agg #[.int .i64 (sv * (f.times - many)), .int .i64 (sv * (f.times - few))])).run Try.prog w = .ok (.bool false) w := fun w => by
            have := neq23 ⟨sv * (f.times - many), sv * (f.times - few)⟩ ⟨sv * (f.times - many), sv * (f.times - few)⟩ w
            simpa using this
          have Z0 := fun y : Aft wr.heap.size wr => cell_stays y.h z0
          have Z1 := fun y : Aft wr.heap.size wr => cell_stays y.h z1
          have E1 := fun y : Aft wr.heap.size wr => cell_stays y.h e1
          have H35 := Lib.hid (fun y : Aft wr.heap.size wr => span35 (x := sv * (f.times - many)) (y := sv * (f.times - few)) (w := y.v))
          clear z0 z1
          refine wp_seq_hid ?_
          intro KM7 HKM7
          go_wp2_with fail
          refine HKM7.out _ _ ?_
          clear HKM7 KM7
          refine wp_seq_hid ?_
          intro KMc HKMc
          go_wp2_with fail
          refine HKMc.out _ _ ?_
          clear HKMc KMc
          refine wp_seq_hid ?_
          intro KMB HKMB
          refine wp_block ?_
          refine wp_seq_hid ?_
          intro K19 HK19
          go_wp2_with fail
          refine HK19.out _ _ ?_
          clear HK19 K19
          refine wp_seq_hid ?_
          intro K20 HK20
          go_wp2_with fail
          refine HK20.out _ _ ?_
          clear HK20 K20
          refine wp_seq_hid ?_
          intro K21 HK21
          refine wp_seq_hid ?_
          intro K22 HK22
          refine wp_region_aft mixed (by kernel_rfl) ?_
          repeat (go_big_quiet_step (fail))
          go_big_quiet_step ((go_at_call 35; exact calls_aft (H35.out _)))
          repeat (go_big_quiet_step (fail))
          refine wpQuiet_nil ?_
          rintro _ ⟨y3, rfl⟩
          have HY3 : Hid (Below wr.heap.size wr y3.v) := y3.h
          refine HK22.out _ _ ?_
          go_wp2_with fail
          refine HK21.out _ _ ?_
          clear HK21 K21 HK22 K22 m1 m2 m3 m4 m5 m6 g1 g2 hneq Z0 Z1 E1 e1 H35
          have HW7 : Hid (y3.v.heap[b5]? = some (.cells (f.arr ai ci) 29 (0, 0)) ∧ IRow gS S2 y3.v ∧ IRow gL L2 y3.v ∧ Below w0.heap.size w0 y3.v ∧ IsSpns y3.v (some ⟨gb, go, none⟩) ((List.range p.wanted.length).map fun v => p.gives f v)) :=
            ⟨(HY3.out.block _ (heap_lt HV8.out.1)).trans HV8.out.1, HV8.out.2.1.mono HY3.out, HV8.out.2.2.1.mono HY3.out, HV8.out.2.2.2.1.trans (HY3.out.mono HV8.out.2.2.2.1.size), HV8.out.2.2.2.2.mono HY3.out⟩
          have HZ7 := Lib.hid (cell_stays HY3.out HZ.out)
          clear HV8 HY3 HZ hsl
          revert HW7 HZ7
          generalize y3.v = w7
          intro HW7 HZ7
          have c9 := HW7.out.2.1.cell HVN.out.2.2.1
          obtain ⟨_, q2, q3⟩ := HW7.out.2.1.put HVN.out.2.2.1 (gi S2 v + sv * (f.times - (few + r)))
          have x1 : IntKind.i64.wrap (gi S2 v + sv * (f.times - (few + r))) = gi S2 v + sv * (f.times - (few + r)) := IntWalk.i64_in _ (by omega)
          have HQ3 := Lib.hid q3
          have HW8 : Hid ((w7.setCell ⟨gS, v, none⟩ (.int .i64 (gi S2 v + sv * (f.times - (few + r))))).heap[b5]? = some (.cells (f.arr ai ci) 29 (0, 0)) ∧ IRow gL L2 (w7.setCell ⟨gS, v, none⟩ (.int .i64 (gi S2 v + sv * (f.times - (few + r))))) ∧ Below w0.heap.size w0 (w7.setCell ⟨gS, v, none⟩ (.int .i64 (gi S2 v + sv * (f.times - (few + r))))) ∧
              IsSpns (w7.setCell ⟨gS, v, none⟩ (.int .i64 (gi S2 v + sv * (f.times - (few + r))))) (some ⟨gb, go, none⟩) ((List.range p.wanted.length).map fun v => p.gives f v)) :=
            ⟨(Below.heap_setCell _ _ _ _ (show b5 ≠ gS by have := HBL.out; omega)).trans HW7.out.1, HW7.out.2.2.1.other (Ne.symm HGG.out.2.2), HW7.out.2.2.2.1.setCell (p := ⟨gS, _, none⟩) HGG.out.1 _, spns_set (n := 0) HW7.out.2.2.2.2 HNE.out.1⟩
          have HZ8 : Hid ((w7.setCell ⟨gS, v, none⟩ (.int .i64 (gi S2 v + sv * (f.times - (few + r))))).cell? ⟨gb, go + v * 2, none⟩ = some (.int .i64 (sv * (f.times - many)))) := by
            rw [Hid, cell_eq (Below.heap_setCell _ _ _ _ HNE.out.1)]
            exact HZ7.out
          clear q3 HW7 HZ7
          refine wp_seq_hid ?_
          intro K23 HK23
          go_wp2_with fail
          refine HK23.out _ _ ?_
          clear HK23 K23 c9 q2 x1
          revert HQ3 HW8 HZ8
          generalize w7.setCell ⟨gS, v, none⟩ (.int .i64 (gi S2 v + sv * (f.times - (few + r)))) = w8
          intro HQ3 HW8 HZ8
          have x2 : IntKind.i64.wrap (gi L2 v + sv * (f.times - many)) = gi L2 v + sv * (f.times - many) := IntWalk.i64_in _ (by omega)
          have HX2 := Lib.hid x2
          clear x2
          refine wpIn_wide.1 (tru24 (g := gL) (gb := gb) (go := go) (cg := cg) (i := v) (n := p.wanted.length) (x := gi L2 v) (u := sv * (f.times - many))
            (P0 := fun x => x.heap[b5]? = some (.cells (f.arr ai ci) 29 (0, 0)) ∧ IRow gS (S2.set v (gi S2 v + sv * (f.times - (few + r)))) x ∧ IRow gL L2 x ∧ Below w0.heap.size w0 x ∧ IsSpns x (some ⟨gb, go, none⟩) ((List.range p.wanted.length).map fun v => p.gives f v) ∧ x.cell? ⟨gb, go + v * 2, none⟩ = some (.int .i64 (sv * (f.times - many))))
            (P1 := fun x => x.heap[b5]? = some (.cells (f.arr ai ci) 29 (0, 0)) ∧ IRow gS (S2.set v (gi S2 v + sv * (f.times - (few + r)))) x ∧ IRow gL (L2.set v (gi L2 v + sv * (f.times - many))) x ∧ Below w0.heap.size w0 x ∧ IsSpns x (some ⟨gb, go, none⟩) ((List.range p.wanted.length).map fun v => p.gives f v))
            HVN.out.2.1 ?h0_b ?l3_b ?l8_b ?s11_b ?hQ_b)
          case h0_b =>
            have hb := (Below.refl w8.heap.size w8).drew
            exact ⟨(hb.block _ (heap_lt HW8.out.1)).trans HW8.out.1, HQ3.out.mono hb, HW8.out.2.1.mono hb, HW8.out.2.2.1.drew, HW8.out.2.2.2.mono hb, cell_stays hb HZ8.out⟩
          case l3_b => intro x h; exact h.2.2.1.cell HVN.out.2.2.2
          case l8_b => intro x h; exact h.2.2.2.2.2
          case s11_b =>
            intro x h
            rw [HX2.out]
            obtain ⟨a1, a2, a3⟩ := h.2.2.1.put HVN.out.2.2.2 (gi L2 v + sv * (f.times - many))
            exact ⟨a1, a2, (Below.heap_setCell _ _ _ _ (show b5 ≠ gL by have := HBL.out; omega)).trans h.1, h.2.1.other HGG.out.2.2, a3, h.2.2.2.1.setCell (p := ⟨gL, _, none⟩) HGG.out.2.1 _, spns_set (n := 0) h.2.2.2.2.1 HNE.out.2⟩
          intro w9 h9
          have H9 := Lib.hid h9
          clear h9
          have hvb := HVN.out.1
          go_wp2_with fail
          refine HKMB.out _ _ ?_
          go_wp2_with fail
          go_roundw
          case rel =>
            rw [← HAI.out]
            exact ⟨v + 1, _, _, by have := HVN.out.1; omega, by go_num, HST.out, H9.out⟩
          case measure => have := HVN.out.1; simp [intOf]; omega
        · obtain rfl : v = f.slots.length := by omega
          have hsh := HV7.out.1
          rw [HFP.out.1] at hsh
          have HSH := Lib.hid hsh.shut
          clear hsh
          go_wp2_with fail
          refine HKLB.out _ _ ?_
          go_wp2_with fail
          go_roundw
          case rel =>
            exact ⟨j + 1, _, _, by have := HJ.out; omega, by go_num, HSH.out, HV7.out.2.2.1, HV7.out.2.2.2.1, HV7.out.2.2.2.2.1⟩
          case measure => have := HJ.out; simp [intOf]; omega
    · obtain rfl : j = l.length := by omega
      have htk : l.take l.length = l := List.take_of_length_le (Nat.le_refl _)
      have hval : ∀ u, u < p.wanted.length → gi L u = p.least l u ∧ gi L u ≤ gi S u := fun u hu => ⟨by rw [HR.out.1.lval u hu, htk], (HR.out.1.low u hu).2.1⟩
      have HVL := Lib.hid hval
      have HR2 := Lib.hid (And.intro HR.out.1.slen (And.intro HR.out.1.llen (And.intro HR.out.2.1 (And.intro HR.out.2.2.1 HR.out.2.2.2))))
      clear htk hval HR
      go_wp2_with fail
      refine HK9.out _ _ ?_
      obtain ⟨k0, k1, k2, k3, k4, k5, k6, k7, k8, k9⟩ := (HPX.out wr HR2.out.2.2.2.2).1
      refine wp_seq_hid ?_
      intro K27 HK27
      go_wp2_with fail
      clear k0 k1 k2 k3 k4 k5 k6 k7 k8 k9
      revert HR2
      generalize wr = w4
      intro HR2
      go_loopw [202] (fun i wr => ∃ v : Nat, v ≤ p.wanted.length ∧ i = .int .i64 v ∧ Hid (IRow gS S wr ∧ IRow gL L wr ∧ Below w0.heap.size w0 wr)) (fun i _ => p.wanted.length - (intOf i).toNat)
      case atStart => exact ⟨0, by omega, rfl, HR2.out.2.2⟩
      case round =>
        obtain ⟨v, hv, rfl, HV7⟩ := hrel
        by_cases hvt : v < p.wanted.length
        · obtain ⟨ib, io, hai, hw⟩ := (HPX.out wr HV7.out.2.2).2.1.wanted v hvt
          rw [hai]
          have HAI := Lib.hid hai
          have c9 := HV7.out.1.cell (i := v) (by rw [HR2.out.1]; exact hvt)
          have c10 := HV7.out.2.1.cell (i := v) (by rw [HR2.out.2.1]; exact hvt)
          obtain ⟨hl1, hl2⟩ := HVL.out v hvt
          have HVT := Lib.hid hvt
          clear hai
          rcases HE.out with ⟨rfl, rfl, hall⟩ | ⟨s, rfl, rfl, hs1, hs2, hs3⟩
          · have hva := hall v hvt
            have g1 : decide (gi S v < gi p.wanted v) = false := by simp; omega
            have g2 : decide (gi L v < gi p.wanted v) = false := by simp; omega
            clear hall hva hl1 hl2
            go_wp2_with fail
            go_roundw
            case rel => exact ⟨v + 1, by have := HVT.out; omega, by go_num, HV7.out⟩
            case measure => have := HVT.out; simp [intOf]; omega
          · rcases Nat.lt_trichotomy v s with hvs | hvs | hvs
            · have hva := hs3 v hvs
              have g1 : decide ((v : Int) < (s : Int)) = true := by simp; omega
              have g1' : decide (v < s) = true := by simp; omega
              have g2 : decide (gi L v < gi p.wanted v) = false := by simp; omega
              have g3 : ((v : Int) == (s : Int)) = false := by simp; omega
              have g3' : (v == s) = false := by simp; omega
              clear hs3 hva hl1 hl2 hs1 hs2 hvs
              go_wp2_with fail
              go_roundw
              case rel => exact ⟨v + 1, by have := HVT.out; omega, by go_num, HV7.out⟩
              case measure => have := HVT.out; simp [intOf]; omega
            · subst hvs
              have g1 : decide ((v : Int) < (v : Int)) = false := by simp
              have g2 : decide (gi L v ≥ gi p.wanted v) = false := by simp; omega
              clear hs3 hl1 hl2 hs1 hs2
              go_wp2_with fail
              go_roundw
              case rel => exact ⟨v + 1, by have := HVT.out; omega, by go_num, HV7.out⟩
              case measure => have := HVT.out; simp [intOf]; omega
            · have g1 : decide ((v : Int) < (s : Int)) = false := by simp; omega
              have g1' : decide (v < s) = false := by simp; omega
              have g3 : ((v : Int) == (s : Int)) = false := by simp; omega
              have g3' : (v == s) = false := by simp; omega
              clear hs3 hl1 hl2 hs1 hs2 hvs
              go_wp2_with fail
              go_roundw
              case rel => exact ⟨v + 1, by have := HVT.out; omega, by go_num, HV7.out⟩
              case measure => have := HVT.out; simp [intOf]; omega
        · go_wp2_with fail
          refine HK27.out _ _ ?_
          obtain ⟨k0, k1, k2, k3, k4, k5, k6, k7, k8, k9⟩ := (HPX.out wr HV7.out.2.2).1
          rcases HE.out with ⟨rfl, rfl, hall⟩ | ⟨s, rfl, rfl, hs1, hs2, hs3⟩
          · have g1 : decide ((0 : Int) < (p.wanted.length : Int)) = true := by simp; omega
            clear hall
            go_wp2_with fail
            refine (awake14 (w := _)).mono ?_
            rintro e c9 ⟨rfl, hb⟩
            have HX2 := Lib.hid (HV7.out.2.2.trans (hb.mono HV7.out.2.2.size))
            clear hb k0 k1 k2 k3 k4 k5 k6 k7 k8 k9
            go_wp2_with fail
            go_ret
            exact ⟨rfl, (HPX.out _ HX2.out).2.2.2.2⟩
          · have g1 : decide ((s : Int) < (p.wanted.length : Int)) = true := by simp; omega
            have g1' : decide (s < p.wanted.length) = true := by simp; omega
            have g0 : decide ((s : Int) ≥ 0) = true := by simp
            clear hs1 hs2 hs3
            go_wp2_with fail
            refine (awake14 (w := _)).mono ?_
            rintro e c9 ⟨rfl, hb⟩
            have HX2 := Lib.hid (HV7.out.2.2.trans (hb.mono HV7.out.2.2.size))
            clear hb k0 k1 k2 k3 k4 k5 k6 k7 k8 k9
            go_wp2_with fail
            go_ret
            exact ⟨rfl, (HPX.out _ HX2.out).2.2.2.2⟩
end Go.Proofs.Ytjkhclijmcmdjaa
namespace Go.Proofs.Ytjkhclijmcmdjaa
open Go.RowKit
set_option linter.unusedVariables false
set_option linter.unusedSimpArgs false
set_option maxRecDepth 100000 in
set_option maxHeartbeats 8000000 in
theorem stockTrue_any {p : Prs} {A : PrsA} {w : World} (hP : IsPrs w p A) {l : List Fme} {av : Option Addr} {cv : Nat} (hl : IsFmes w av l) {ub : Option Addr} {lb cb : Nat} (hu : IsU16 w ub lb) (hlb : lb ≤ 9223372036854775807) :
    Calls Try.prog 6 #[p.v A, .slice av l.length cv, .slice ub lb cb] w fun e w' => e = .returned (.bool true) ∧ Below w.heap.size w w' := by
  have hb0 : Below w.heap.size w (w.alloc (.cells (p.arr A) 27)) := (Below.refl _ w).alloc (Nat.le_refl _) _
  have q0 := World.alloc_heap_new w (.cells (p.arr A) 27)
  have HW := Lib.hid (And.intro hb0 (And.intro q0 (And.intro (hP.mono hb0) (And.intro (hl.mono hb0) (hu.mono hb0)))))
  clear hb0 q0 hP hl hu
  go_enter Try.func6, Try.ntmps6
  refine wp_seq_hid ?_
  intro K0 HK0
  go_wp2_with fail
  refine HK0.out _ _ ?_
  clear HK0 K0
  refine wp_seq_hid ?_
  intro K1 HK1
  revert HW
  generalize w.alloc (.cells (p.arr A) 27) = w1
  intro HW
  have KP : Hid (∀ v, Below w1.heap.size w1 v → PrsC v w.heap.size p A ∧ IsPrs v p A ∧ IsFmes v av l ∧ IsU16 v ub lb ∧ Below w.heap.size w v) := fun v h => ⟨prs_cells ((h.block _ (heap_lt HW.out.2.1)).trans HW.out.2.1), HW.out.2.2.1.mono h, HW.out.2.2.2.1.mono h, HW.out.2.2.2.2.mono h, HW.out.1.trans (h.mono HW.out.1.size)⟩
  have HB := Lib.hid (Below.refl w1.heap.size w1)
  obtain ⟨k0, k1, k2, k3, k4, k5, k6, k7, k8, k9⟩ := (KP.out w1 HB.out).1
  go_wp2_with fail
  refine (far13 (c := cv) (KP.out w1 HB.out).2.1 (KP.out w1 HB.out).2.2.1).mono ?_
  rintro e b1 ⟨rfl, hb⟩
  have HX := Lib.hid (HB.out.trans (hb.mono HB.out.size))
  clear hb HB k0 k1 k2 k3 k4 k5 k6 k7 k8 k9
  have HB := HX
  clear HX
  cases hf : farB p l
  case true =>
    go_wp2_with fail
    refine (awake14 (w := _)).mono ?_
    rintro e c1 ⟨rfl, hb⟩
    have HX := Lib.hid (HB.out.trans (hb.mono HB.out.size))
    clear hb
    go_wp2_with fail
    go_ret
    exact ⟨rfl, (KP.out _ HX.out).2.2.2.2⟩
  have HS := Lib.hid (far_small hf)
  clear hf
  have HF : Hid (l.length ≤ 1000 ∧ ∀ f ∈ l, f.slots.length ≤ 1000) := ⟨by have := HS.out.2.1; omega, fun f hf => by have := HS.out.2.2 f hf; omega⟩
  by_cases hl0 : lb = 0
  · have g1 : ((lb : Int) == 0) = true := by simp [hl0]
    have g1' : (lb == 0) = true := by simp [hl0]
    clear hl0
    go_wp2_with fail
    refine (awake14 (w := _)).mono ?_
    rintro e c1 ⟨rfl, hb⟩
    have HX := Lib.hid (HB.out.trans (hb.mono HB.out.size))
    clear hb
    go_wp2_with fail
    go_ret
    exact ⟨rfl, (KP.out _ HX.out).2.2.2.2⟩
  have HLB : Hid (0 < lb ∧ lb ≤ 9223372036854775807) := ⟨by omega, hlb⟩
  have g1 : ((lb : Int) == 0) = false := by simp; omega
  have g1' : (lb == 0) = false := by simp; omega
  clear hl0
  have G := rpress33 (KP.out b1 HB.out).2.1 HS.out.1
  obtain ⟨k0, k1, k2, k3, k4, k5, k6, k7, k8, k9⟩ := (KP.out b1 HB.out).1
  go_wp2_with fail
  refine (G).mono ?_
  rintro e b2 ⟨rfl, hb⟩
  have HX := Lib.hid (HB.out.trans (hb.mono HB.out.size))
  clear hb HB G g1 g1' k0 k1 k2 k3 k4 k5 k6 k7 k8 k9
  have HB := HX
  clear HX
  cases hv : p.valid
  case false =>
    go_wp2_with fail
    refine (awake14 (w := _)).mono ?_
    rintro e c1 ⟨rfl, hb⟩
    have HX := Lib.hid (HB.out.trans (hb.mono HB.out.size))
    clear hb
    go_wp2_with fail
    go_ret
    exact ⟨rfl, (KP.out _ HX.out).2.2.2.2⟩
  have HV := Lib.hid hv
  clear hlb
  go_wp2_with fail
  refine HK1.out _ _ ?_
  clear HK1 K1
  have C17 : Hid (∀ (x y : Int), checkE p l = (x, y) → ∀ v, Below w1.heap.size w1 v → Calls Try.prog 17 #[p.v A, .slice av l.length cv] v fun e w' => e = .returned (.tuple #[.int .i64 x, .int .i64 y]) ∧ Below v.heap.size v w') := fun x y he v h => by
    have G := check17 (c := cv) (KP.out v h).2.1 HS.out.1 (KP.out v h).2.2.1 HF.out.1 HF.out.2
    rw [he] at G
    exact G
  have C34 : Hid (∀ b, planOk p l = b → ∀ v, Below w1.heap.size w1 v → Calls Try.prog 34 #[p.v A, .slice av l.length cv] v fun e w' => e = .returned (.bool b) ∧ Below v.heap.size v w') := fun b he v h => by
    have G := rplan34 (p := p) (A := A) (c := cv) (KP.out v h).2.2.1 HF.out.1 HF.out.2
    rw [he] at G
    exact G
  rcases check_true hv l with ⟨hc, hp⟩ | ⟨hp, ⟨hc, hall⟩ | ⟨s, hc, h1, h2, h3⟩⟩
  · have HPL := Lib.hid hp
    clear hv hp
    refine wp_seq_hid ?_
    intro K2 HK2
    obtain ⟨k0, k1, k2, k3, k4, k5, k6, k7, k8, k9⟩ := (KP.out b2 HB.out).1
    go_wp2_with fail
    refine (C17.out _ _ hc _ HB.out).mono ?_
    rintro e b3 ⟨rfl, hb⟩
    have HX := Lib.hid (HB.out.trans (hb.mono HB.out.size))
    clear hb HB hc k0 k1 k2 k3 k4 k5 k6 k7 k8 k9
    have HB := HX
    clear HX
    go_wp2_with fail
    refine HK2.out _ _ ?_
    clear HK2 K2
    obtain ⟨k0, k1, k2, k3, k4, k5, k6, k7, k8, k9⟩ := (KP.out b3 HB.out).1
    go_wp2_with fail
    refine (C34.out _ HPL.out _ HB.out).mono ?_
    rintro e b4 ⟨rfl, hb⟩
    have HX := Lib.hid (HB.out.trans (hb.mono HB.out.size))
    clear hb HB k0 k1 k2 k3 k4 k5 k6 k7 k8 k9
    have HB := HX
    clear HX
    go_wp2_with fail
    refine (awake14 (w := _)).mono ?_
    rintro e c1 ⟨rfl, hb⟩
    have HX := Lib.hid (HB.out.trans (hb.mono HB.out.size))
    clear hb
    go_wp2_with fail
    go_ret
    exact ⟨rfl, (KP.out _ HX.out).2.2.2.2⟩
  · have HALL := Lib.hid hall
    clear hall
    have HPL := Lib.hid hp
    clear hv hp
    refine wp_seq_hid ?_
    intro K2 HK2
    obtain ⟨k0, k1, k2, k3, k4, k5, k6, k7, k8, k9⟩ := (KP.out b2 HB.out).1
    go_wp2_with fail
    refine (C17.out _ _ hc _ HB.out).mono ?_
    rintro e b5 ⟨rfl, hb⟩
    have HX := Lib.hid (HB.out.trans (hb.mono HB.out.size))
    clear hb HB hc k0 k1 k2 k3 k4 k5 k6 k7 k8 k9
    have HB := HX
    clear HX
    go_wp2_with fail
    refine HK2.out _ _ ?_
    clear HK2 K2
    refine wp_seq_hid ?_
    intro K4 HK4
    go_wp2_with fail
    refine HK4.out _ _ ?_
    clear HK4 K4
    refine wp_seq_hid ?_
    intro K6 HK6
    obtain ⟨k0, k1, k2, k3, k4, k5, k6, k7, k8, k9⟩ := (KP.out b5 HB.out).1
    go_wp2_with fail
    refine (C34.out _ HPL.out _ HB.out).mono ?_
    rintro e b6 ⟨rfl, hb⟩
    have HX := Lib.hid (HB.out.trans (hb.mono HB.out.size))
    clear hb HB k0 k1 k2 k3 k4 k5 k6 k7 k8 k9
    have HB := HX
    clear HX
    go_wp2_with fail
    refine HK6.out _ _ ?_
    clear HK6 K6
    have HPZ : Hid (∀ v, Below b6.heap.size b6 v → PrsC v w.heap.size p A ∧ IsPrs v p A ∧ IsFmes v av l ∧ IsU16 v ub lb ∧ Below w.heap.size w v) := fun v h => KP.out v (HB.out.trans (h.mono HB.out.size))
    have HSZ := Lib.hid HS.out.1
    exact true_rest HPZ HSZ HV HPL HLB (Lib.hid (.inl ⟨rfl, rfl, HALL.out⟩)) rfl
  · have HALL := Lib.hid (And.intro h1 (And.intro h2 h3))
    clear h1 h2 h3
    have HPL := Lib.hid hp
    clear hv hp
    refine wp_seq_hid ?_
    intro K2 HK2
    obtain ⟨k0, k1, k2, k3, k4, k5, k6, k7, k8, k9⟩ := (KP.out b2 HB.out).1
    go_wp2_with fail
    refine (C17.out _ _ hc _ HB.out).mono ?_
    rintro e b7 ⟨rfl, hb⟩
    have HX := Lib.hid (HB.out.trans (hb.mono HB.out.size))
    clear hb HB hc k0 k1 k2 k3 k4 k5 k6 k7 k8 k9
    have HB := HX
    clear HX
    go_wp2_with fail
    refine HK2.out _ _ ?_
    clear HK2 K2
    refine wp_seq_hid ?_
    intro K4 HK4
    go_wp2_with fail
    refine HK4.out _ _ ?_
    clear HK4 K4
    refine wp_seq_hid ?_
    intro K6 HK6
    obtain ⟨k0, k1, k2, k3, k4, k5, k6, k7, k8, k9⟩ := (KP.out b7 HB.out).1
    go_wp2_with fail
    refine (C34.out _ HPL.out _ HB.out).mono ?_
    rintro e b8 ⟨rfl, hb⟩
    have HX := Lib.hid (HB.out.trans (hb.mono HB.out.size))
    clear hb HB k0 k1 k2 k3 k4 k5 k6 k7 k8 k9
    have HB := HX
    clear HX
    go_wp2_with fail
    refine HK6.out _ _ ?_
    clear HK6 K6
    have HPZ : Hid (∀ v, Below b8.heap.size b8 v → PrsC v w.heap.size p A ∧ IsPrs v p A ∧ IsFmes v av l ∧ IsU16 v ub lb ∧ Below w.heap.size w v) := fun v h => KP.out v (HB.out.trans (h.mono HB.out.size))
    have HSZ := Lib.hid HS.out.1
    exact true_rest HPZ HSZ HV HPL HLB (Lib.hid (.inr ⟨s, rfl, rfl, HALL.out.1, HALL.out.2.1, HALL.out.2.2⟩)) rfl
end Go.Proofs.Ytjkhclijmcmdjaa
namespace Go.Proofs.Ytjkhclijmcmdjaa
open Go.RowKit Go.WideShapes Go.ChangeShapes
section
variable {H : Type} {enc : TypeId × Value → H} {P : Program}
end
end Go.Proofs.Ytjkhclijmcmdjaa
namespace Go.Proofs.Ytjkhclijmcmdjaa
open Go.ChangeShapes Go.WideShapes Go.ChangeAt Go.Deep Go.RowKit Go.Joins
set_option linter.unusedVariables false
theorem Try.laidOut : laidOutB Try.prog = true := by kernel_rfl
section
variable {H : Type} {enc : TypeId × Value → H} {w : World} {base : Nat} {spare : Nat → Bool} {held : Bool}
end
end Go.Proofs.Ytjkhclijmcmdjaa
namespace Go.Proofs.Ytjkhclijmcmdjaa
open Go.ChangeShapes Go.WideShapes Go.ChangeAt Go.Deep Go.RowKit Go.Joins
set_option maxRecDepth 100000 in
theorem open_u16s {H : Type} {enc : TypeId × Value → H} {W : World} {v : Value} {d : DataW H} {p : List MemPlace} {b0 : Nat} (hv : Value.okWide Try.prog W .any b0 55 v) (h : DataW.Trod enc Try.prog W 0 (fun _ => true) true 55 v d p) :
    ∃ (a : Option Addr) (l c : Nat), v = .slice a l c ∧ l ≤ 9223372036854775807 ∧ IsU16 W a l := by
  obtain ⟨a0, l0, c0, rfl⟩ := okWide_slice Try.underlying55 hv
  refine ⟨a0, l0, c0, rfl, ?_⟩
  obtain ⟨n0, h0⟩ := h
  have h0' : DataW.trod enc Try.prog W 0 (fun _ => true) true n0 55 [.slice a0 l0 c0] = some (d, p) := h0
  rcases open_ints Try.underlying55 Try.underlying57 (by kernel_rfl) h0' with ⟨h1, _⟩ | ⟨a, len, cap, zs, h1, _, hl, hm, hz, _, hc, hwf⟩
  · obtain ⟨rfl, rfl, rfl⟩ : a0 = none ∧ l0 = 0 ∧ c0 = 0 := by simpa using h1
    exact ⟨by omega, fun i hi => by omega⟩
  · obtain ⟨rfl, rfl, rfl⟩ : a0 = some a ∧ len = l0 ∧ cap = c0 := by
      have : a0 = some a ∧ l0 = len ∧ c0 = cap := by simpa using h1
      exact ⟨this.1, this.2.1.symm, this.2.2.symm⟩
    have hle : len ≤ zs.length := by rw [hz]; split <;> omega
    refine ⟨by unfold maxLen at hm; omega, fun i hi => ?_⟩
    have hs := spotless (hc 0 (by omega))
    rw [add_zero'] at hs
    refine ⟨a.block, a.off, by rw [← hs], gi zs i, ?_⟩
    have hci := hc i (by omega)
    rw [hs, add_at] at hci
    have hil : i < zs.length := by omega
    have hx := hwf (gi zs i) (by simp [gi, hil])
    have hx2 : 0 ≤ gi zs i ∧ gi zs i ≤ 65535 := by simpa [Lit.wf, IntKind.min, IntKind.max, IntKind.signed, IntKind.bits] using hx
    refine ⟨hx2.1, hx2.2, ?_⟩
    rw [hci]
    simp [gi, hil]
end Go.Proofs.Ytjkhclijmcmdjaa
