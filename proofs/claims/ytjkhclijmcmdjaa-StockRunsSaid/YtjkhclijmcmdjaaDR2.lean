/- All plans: what lies in memory, what is still to come. Lists gathered by append, handed on and returned; the drawn region of the reference's slots. The reference's formes: how many sheets suffice, and lists of formes that grow. Formes that are copied; StockRuns' drawn region. StockRuns' walk. The row's last step where the call leaves a world of which only what lay there before is known. Presses and formes that are handed in, opened. A plan that is handed in: what its bytes come to. -/
import Derived.Test.YtjkhclijmcmdjaaDR1
import Derived.Lib.MinMax
import Derived.Below
import Derived.ChangeSame
import Derived.ProofKit
import Derived.Test.YtjkhclijmcmdjaaProg
import Derived.Deep.Slices
import Derived.Deep.Fields
import Derived.Lib.SmallJoins
import Derived.Carry
import Derived.OpenShut
import Derived.SizedLaws
namespace Go.Proofs.Ytjkhclijmcmdjaa
open Go.RowKit
set_option linter.unusedVariables false
set_option linter.unusedSimpArgs false
theorem fmC_len : ∀ (x : List Fme) (rs : List Row), rs.length = x.length → (fmC x rs).length = x.length * 2
  | [], _, _ => by simp [fmC]
  | f :: x, [], h => by simp at h
  | f :: x, r :: rs, h => by
    have := fmC_len x rs (by simpa using h)
    simp only [fmC, List.length_cons, this]
    omega
section
variable {p : Prs} {A0 : PrsA} {bp b1 l : Nat} {W : World} {M : Nat → Prop} {J Jx : List (List Fme) → World → (Nat → Prop) → Prop}
end
end Go.Proofs.Ytjkhclijmcmdjaa
namespace Go.Proofs.Ytjkhclijmcmdjaa
open Go.RowKit
set_option linter.unusedVariables false
set_option linter.unusedSimpArgs false
/-- Numbers that lie in memory of their own stay. -/
theorem WyPost.ints {B B' : Nat} {l l0 : List (List Int)} {A A' : World} {vo v' : Value} {n : Nat} {vp : Value} {xs : List Value} (h : WyPost B l A vo v' A') (hr : RowsAt A B vo l0) (hp : A.ownsRow B' 3 1 vp n xs) : A'.ownsRow B' 3 1 vp n xs := by
  obtain ⟨vs, h1, _⟩ := hr
  refine own_blocks hp (fun g hg => h.grown.block g (hp.lt g hg).2 (fun e => own_apart hp h1 (by decide) g hg e.symm))
end Go.Proofs.Ytjkhclijmcmdjaa
namespace Go.Proofs.Ytjkhclijmcmdjaa
open Go.RowKit
set_option linter.unusedVariables false
set_option linter.unusedSimpArgs false
theorem fmC_one : ∀ (l : List Fme) (rs : List Row), ∀ u ∈ fmC l rs, u.oneCell' = true
  | [], _, u, h => by simp [fmC] at h
  | _ :: _, [], u, h => by simp [fmC] at h
  | x :: l, q :: rs, u, h => by
    simp only [fmC, List.mem_cons] at h
    rcases h with rfl | rfl | h
    · rfl
    · rfl
    · exact fmC_one l rs u h
end Go.Proofs.Ytjkhclijmcmdjaa
namespace Go.Proofs.Ytjkhclijmcmdjaa
open Go.RowKit
set_option linter.unusedVariables false
set_option linter.unusedSimpArgs false
/-- A plan's rows: where the slots of its formes lie. -/
structure FmRows (w : World) (a : Option Addr) (l : List Fme) (rs : List Row) : Prop where
  len : rs.length = l.length
  ints : ∀ i r, rs[i]? = some r → IsInts w r.1 (gf l i).slots
  cells : l.length ≠ 0 → ∃ b off, a = some ⟨b, off, none⟩ ∧ ∀ j u, (fmC l rs)[j]? = some u → w.cell? ⟨b, off + j, none⟩ = some u
theorem fmC_any {l : List Fme} {rs : List Row} (h : rs.length = l.length) {j : Nat} {u : Value} (hu : (fmC l rs)[j]? = some u) : ∃ i r, i < l.length ∧ rs[i]? = some r ∧ ((j = i * 2 ∧ u = .slice r.1 (gf l i).slots.length r.2) ∨ (j = i * 2 + 1 ∧ u = .int .i64 (gf l i).times)) := by
  have hl := (List.getElem?_eq_some_iff.1 hu).1
  rw [fmC_len l rs h] at hl
  obtain ⟨r, h1, h2, h3⟩ := fmC_at (i := j / 2) h (by omega)
  refine ⟨j / 2, r, by omega, h1, ?_⟩
  rcases Nat.mod_two_eq_zero_or_one j with hm | hm
  · left
    have e : j / 2 * 2 = j := by omega
    rw [e, hu] at h2
    exact ⟨e.symm, Option.some.inj h2⟩
  · right
    have e : j / 2 * 2 + 1 = j := by omega
    rw [e, hu] at h3
    exact ⟨e.symm, Option.some.inj h3⟩
theorem fmes_rows {w : World} {a : Option Addr} {l : List Fme} (h : IsFmes w a l) : ∃ rs, FmRows w a l rs := by
  have each : ∀ i, ∃ r : Row, i < l.length → ∃ b off, a = some ⟨b, off, none⟩ ∧ w.cell? ⟨b, off + i * 2, none⟩ = some (.slice r.1 (gf l i).slots.length r.2) ∧ w.cell? ⟨b, off + i * 2 + 1, none⟩ = some (.int .i64 (gf l i).times) ∧ IsInts w r.1 (gf l i).slots := fun i => by
    by_cases hi : i < l.length
    · obtain ⟨b, off, e, ai, ci, h0, h1, h2⟩ := h i hi
      exact ⟨(ai, ci), fun _ => ⟨b, off, e, h0, h1, h2⟩⟩
    · exact ⟨(none, 0), fun h => absurd h hi⟩
  obtain ⟨f, hf⟩ := Classical.axiomOfChoice each
  have hlen : ((List.range l.length).map f).length = l.length := by simp
  have hat : ∀ i r, ((List.range l.length).map f)[i]? = some r → i < l.length ∧ r = f i := fun i r hr => by
    have hi := (List.getElem?_eq_some_iff.1 hr).1
    rw [hlen] at hi
    rw [List.getElem?_map, List.getElem?_range hi] at hr
    exact ⟨hi, (Option.some.inj hr).symm⟩
  refine ⟨(List.range l.length).map f, hlen, fun i r hr => ?_, fun h0 => ?_⟩
  · obtain ⟨hi, rfl⟩ := hat i r hr
    exact (hf i hi).choose_spec.choose_spec.2.2.2
  · obtain ⟨b, off, e, _⟩ := hf 0 (by omega)
    refine ⟨b, off, e, fun j u hu => ?_⟩
    obtain ⟨i, r, hi, hr, hv⟩ := fmC_any hlen hu
    obtain ⟨_, rfl⟩ := hat i r hr
    obtain ⟨b', off', e', h1, h2, _⟩ := hf i hi
    rw [e] at e'
    cases e'
    rcases hv with ⟨rfl, rfl⟩ | ⟨rfl, rfl⟩
    · exact h1
    · exact h2
theorem FmRows.mono {w w' : World} {a : Option Addr} {l : List Fme} {rs : List Row} (h : FmRows w a l rs) (hb : Below w.heap.size w w') : FmRows w' a l rs :=
  ⟨h.len, fun i r hr => (h.ints i r hr).mono hb, fun h0 => by
    obtain ⟨b, off, e, hc⟩ := h.cells h0
    exact ⟨b, off, e, fun j u hu => cell_stays hb (hc j u hu)⟩⟩
theorem FmRows.news {w : World} {a : Option Addr} {l : List Fme} {rs : List Row} (h : FmRows w a l rs) : l.length ≠ 0 → ∃ ad, a = some ad ∧ ∀ j u, (fmC l rs)[j]? = some u → w.cell? (ad.add j) = some u := fun h0 => by
  obtain ⟨b, off, e, hc⟩ := h.cells h0
  refine ⟨_, e, fun j u hu => ?_⟩
  have ea : ((⟨b, off, none⟩ : Addr).add j) = ⟨b, off + j, none⟩ := by unfold Addr.add; split <;> simp_all
  rw [ea]
  exact hc j u hu
/-- Formes are copied into a row of one's own. -/
theorem fcopy_new {W w : World} {av : Option Addr} {l : List Fme} {rs : List Row} {cv : Nat} {xs : Value} (hk : l.length * 32 ≤ 140737488351232) (hb : Below W.heap.size W w) (hx : w.ownsRow W.heap.size 29 2 xs 0 []) (hi : FmRows w av l rs) :
    ∃ (r1 : Option Addr × Nat) (w' : World), (Builtin.append_ #[30, 30] 30 #[xs, .slice av l.length cv]).run Try.prog w = .ok (.slice r1.1 l.length r1.2) w' ∧ Below W.heap.size W w' ∧ w'.ownsRow W.heap.size 29 2 (.slice r1.1 l.length r1.2) l.length (fmC l rs) ∧
      (∀ k, k < w.heap.size → xs.ownBlock ≠ some k → w'.heap[k]? = w.heap[k]? ∧ (Value.slice r1.1 l.length r1.2).ownBlock ≠ some k) := by
  obtain ⟨i0, hi0, hz0, hz1, hz2⟩ := info_parts infoF
  obtain ⟨v', w', hr, hn, hg, hor⟩ := append_rows_at (P := Try.prog) (w := w) W.heap.size 30 30 29 i0 _ 2 32 Try.underlying30 hi0 hz0 hz1 hz2 rfl (by decide) xs 0 [] hx av l.length cv (fmC l rs) (fmC_len l rs hi.len) hi.news (fmC_one l rs) (by simp [maxLen]; omega) (by omega) hb.size
  rw [Nat.zero_add, List.nil_append] at hn
  obtain ⟨a', c', rfl, _⟩ := own_slice hn
  refine ⟨(a', c'), w', hr, hb.grown hg hb.size (fun k hk => (hx.lt k hk).1), hn, fun k hk hne => ⟨hg.block k hk (fun e => hne e.symm), fun e => ?_⟩⟩
  rcases hor with h | h
  · rw [h] at e; exact hne e
  · rw [h] at e; cases e; omega
/-- And one forme more. -/
theorem fcopy_more {W w : World} {l : List Fme} {rs : List Row} {f : Fme} {fa : Option Addr} {fc : Nat} {r1 : Option Addr × Nat} {ms : Nat} (hk : l.length * 32 ≤ 140737488351232) (hlen : rs.length = l.length) (hb : Below W.heap.size W w) (hx : w.ownsRow W.heap.size 29 2 (.slice r1.1 l.length r1.2) l.length (fmC l rs))
    (hm : w.heap[ms]? = some (.cells #[.slice fa f.slots.length fc, .int .i64 f.times] 29 (0, 0))) :
    ∃ (r2 : Option Addr × Nat) (w' : World), (Builtin.append_ #[30, 30] 30 #[.slice r1.1 l.length r1.2, .slice (some ⟨ms, 0, none⟩) 1 1]).run Try.prog w = .ok (.slice r2.1 (l.length + 1) r2.2) w' ∧ Below W.heap.size W w' ∧ w'.ownsRow W.heap.size 29 2 (.slice r2.1 (l.length + 1) r2.2) (l.length + 1) (fmC (l ++ [f]) (rs ++ [(fa, fc)])) := by
  obtain ⟨i0, hi0, hz0, hz1, hz2⟩ := info_parts infoF
  obtain ⟨v', w', hr, hn, hg, _⟩ := append_rows_at (P := Try.prog) (w := w) W.heap.size 30 30 29 i0 _ 2 32 Try.underlying30 hi0 hz0 hz1 hz2 rfl (by decide) _ l.length _ hx (some ⟨ms, 0, none⟩) 1 1 [.slice fa f.slots.length fc, .int .i64 f.times] rfl
    (fun _ => ⟨_, rfl, fun j u hj => by
      have e : ((⟨ms, 0, none⟩ : Addr).add j) = ⟨ms, j, none⟩ := by unfold Addr.add; split <;> simp_all
      rw [e, cell_of_heap hm]
      rw [← hj]
      simp⟩) (by intro u hu; simp at hu; rcases hu with rfl | rfl <;> rfl) (by simp [maxLen]; omega) (by omega) hb.size
  obtain ⟨a', c', rfl, _⟩ := own_slice hn
  refine ⟨(a', c'), w', hr, hb.grown hg hb.size (fun k hk => (hx.lt k hk).1), ?_⟩
  rw [fmC_snoc l rs f (fa, fc) hlen]
  exact hn
theorem ownsRow_zeroF {w : World} {B : Nat} (h : B ≤ w.heap.size) : (w.alloc (.cells #[] 29)).ownsRow B 29 2 (.slice (some ⟨w.heap.size, 0, none⟩) 0 0) 0 [] := World.ownsRow_made (e := 29) (size := 2) w #[] 0 (base := B) h (by simp [maxLen]) (by simp)
structure run1F (p : Prs) (A : PrsA) (bx : Nat) (bf : Nat) (av : Option Addr) (k : Nat) (cv : Nat) (fa : Option Addr) (nf : Nat) (fc : Nat) (ft : Int) (res : Bool) (S0 : Bool → Nat → World → Prop) (S1 : Bool → Nat → Value → World → Prop) (S2 : Bool → Nat → Value → Option Addr × Nat → World → Prop) (S3 : Bool → Nat → Value → Option Addr × Nat → Option Addr × Nat → World → Prop) (S4 : Bool → Nat → Value → Option Addr × Nat → Option Addr × Nat → Unit → World → Prop) (d : Nat → Bool) (x19 x20 x21 x22 x23 x24 x25 x26 : Value) (ms : Nat) (r1 : Option Addr × Nat) (r2 : Option Addr × Nat) (rb : Unit) (w : World) : Prop where
  q3 : d 3 = true → d 1 = true ∧ d 2 = true
  q5 : d 5 = true → d 4 = true
  q6 : d 6 = true → d 3 = true ∧ d 5 = true
  q7 : d 7 = true → d 0 = true ∧ d 6 = true
  f0 : d 0 = true → x19 = p.v A
  f2 : d 2 = true → x21 = .slice av k cv
  f3 : d 3 = true → x22 = .slice r1.1 k r1.2
  f4 : d 4 = true → x23 = .agg #[.slice fa nf fc, .int .i64 ft]
  f5 : d 5 = true → x24 = .slice (some ⟨ms, 0, none⟩) 1 1
  f6 : d 6 = true → x25 = .slice r2.1 (k + 1) r2.2
  f7 : d 7 = true → x26 = .bool res
  st0 : d 1 = false → S0 (d 5) ms w
  st1 : d 1 = true → d 3 = false → S1 (d 5) ms x20 w
  st2 : d 3 = true → d 6 = false → S2 (d 5) ms x20 r1 w
  st3 : d 6 = true → d 7 = false → S3 (d 5) ms x20 r1 r2 w
  st4 : d 7 = true → S4 (d 5) ms x20 r1 r2 rb w
  mz : d 5 = false → ms = 0
noncomputable def run1C : Code := (Try.f3.body.bind (regionAt 1)).getD .skip
set_option maxRecDepth 100000 in
set_option maxHeartbeats 4000000 in
theorem run1 {p : Prs} {A : PrsA} {bx : Nat} {bf : Nat} {av : Option Addr} {k : Nat} {cv : Nat} {fa : Option Addr} {nf : Nat} {fc : Nat} {ft : Int} {res : Bool} {S0 : Bool → Nat → World → Prop} {S1 : Bool → Nat → Value → World → Prop} {S2 : Bool → Nat → Value → Option Addr × Nat → World → Prop} {S3 : Bool → Nat → Value → Option Addr × Nat → Option Addr × Nat → World → Prop} {S4 : Bool → Nat → Value → Option Addr × Nat → Option Addr × Nat → Unit → World → Prop} {Q : Exit → Act → World → Prop} {W1 : World} (h0 : S0 false 0 W1.drew)
    (kl0 : Hid (∀ (fs : Bool) (ms : Nat) (x20 : Value) (r1 : Option Addr × Nat) (r2 : Option Addr × Nat) (w : World), (S0 fs ms w ∨ S1 fs ms x20 w ∨ S2 fs ms x20 r1 w ∨ S3 fs ms x20 r1 r2 w) → w.cell? ⟨bx, 0, none⟩ = some (.int .i64 p.room) ∧ w.cell? ⟨bx, 1, none⟩ = some (.int .i64 p.formes) ∧ w.cell? ⟨bx, 2, none⟩ = some (.int .i64 p.slo) ∧ w.cell? ⟨bx, 3, none⟩ = some (.int .i64 p.shi) ∧ w.cell? ⟨bx, 4, none⟩ = some (.int .i64 p.make) ∧ w.cell? ⟨bx, 5, none⟩ = some (.int .i64 p.sheet) ∧ w.cell? ⟨bx, 6, none⟩ = some (.slice A.aw p.wanted.length A.cw) ∧ w.cell? ⟨bx, 7, none⟩ = some (.int .i64 p.paper) ∧ w.cell? ⟨bx, 8, none⟩ = some (.int .i64 p.money) ∧ w.cell? ⟨bx, 9, none⟩ = some (.slice A.ad p.deals.length A.cd)))
    (kc1 : Hid (∀ (fs : Bool) (ms : Nat) (w : World), S0 fs ms w → S1 fs ms (.slice (some ⟨w.heap.size, 0, none⟩) 0 0) (w.alloc (.cells #[] 29))))
    (kc3 : Hid (∀ (fs : Bool) (ms : Nat) (x20 : Value) (w : World), S1 fs ms x20 w → ∃ (r1 : Option Addr × Nat) (w' : World), (Builtin.append_ #[30, 30] 30 #[x20, .slice av k cv]).run Try.prog w = .ok (.slice r1.1 k r1.2) w' ∧ S2 fs ms x20 r1 w'))
    (kl4 : Hid (∀ (fs : Bool) (ms : Nat) (x20 : Value) (r1 : Option Addr × Nat) (w : World), (S0 fs ms w ∨ S1 fs ms x20 w ∨ S2 fs ms x20 r1 w) → w.cell? ⟨bf, 0, none⟩ = some (.slice fa nf fc) ∧ w.cell? ⟨bf, 1, none⟩ = some (.int .i64 ft)))
    (ks0 : Hid (∀ (w : World), S0 false 0 w → S0 true w.heap.size (w.alloc (.cells #[.slice fa nf fc, .int .i64 ft] 29))))
    (ks1 : Hid (∀ (x20 : Value) (w : World), S1 false 0 x20 w → S1 true w.heap.size x20 (w.alloc (.cells #[.slice fa nf fc, .int .i64 ft] 29))))
    (ks2 : Hid (∀ (x20 : Value) (r1 : Option Addr × Nat) (w : World), S2 false 0 x20 r1 w → S2 true w.heap.size x20 r1 (w.alloc (.cells #[.slice fa nf fc, .int .i64 ft] 29))))
    (kc6 : Hid (∀ (ms : Nat) (x20 : Value) (r1 : Option Addr × Nat) (w : World), S2 true ms x20 r1 w → ∃ (r2 : Option Addr × Nat) (w' : World), (Builtin.append_ #[30, 30] 30 #[.slice r1.1 k r1.2, .slice (some ⟨ms, 0, none⟩) 1 1]).run Try.prog w = .ok (.slice r2.1 (k + 1) r2.2) w' ∧ S3 true ms x20 r1 r2 w'))
    (kc7 : Hid (∀ (ms : Nat) (x20 : Value) (r1 : Option Addr × Nat) (r2 : Option Addr × Nat) (w : World), S3 true ms x20 r1 r2 w → Calls Try.prog 13 #[p.v A, .slice r2.1 (k + 1) r2.2] w fun e w' => ∃ rb : Unit, e = .returned (.bool res) ∧ S4 true ms x20 r1 r2 rb w'))
    {s0 s1 s5 s6 s7 s8 s9 s10 s11 s12 s13 s14 s15 s16 s17 s18 s19 s20 s21 s22 s23 s24 s25 s26 s27 s28 s29 s30 s31 s32 s33 s34 s35 s36 s37 s38 s39 s40 s41 s42 s43 s44 s45 s46 s47 s48 s49 s50 s51 s52 s53 s54 s55 s56 s57 s58 s59 s60 s61 s62 s63 s64 s65 s66 s67 s68 s69 s70 s71 s72 s73 s74 s75 s76 s77 s78 s79 s80 s81 s82 s83 s84 s85 s86 s87 s88 s89 s90 s91 s92 s93 s94 : Value} {dd : List Deferred}
    (hQ : ∀ (ms : Nat) (x20 : Value) (r1 : Option Addr × Nat) (r2 : Option Addr × Nat) (rb : Unit) (w' : World), S4 true ms x20 r1 r2 rb w' → Q .normal { tmps := List.toArray (s0 :: s1 :: .slice av k cv :: .pointer (some ⟨bx, 0, none⟩) :: .pointer (some ⟨bf, 0, none⟩) :: s5 :: s6 :: s7 :: s8 :: s9 :: s10 :: s11 :: s12 :: s13 :: s14 :: s15 :: s16 :: s17 :: s18 :: p.v A :: x20 :: .slice av k cv :: .slice r1.1 k r1.2 :: .agg #[.slice fa nf fc, .int .i64 ft] :: .slice (some ⟨ms, 0, none⟩) 1 1 :: .slice r2.1 (k + 1) r2.2 :: .bool res :: s27 :: s28 :: s29 :: s30 :: s31 :: s32 :: s33 :: s34 :: s35 :: s36 :: s37 :: s38 :: s39 :: s40 :: s41 :: s42 :: s43 :: s44 :: s45 :: s46 :: s47 :: s48 :: s49 :: s50 :: s51 :: s52 :: s53 :: s54 :: s55 :: s56 :: s57 :: s58 :: s59 :: s60 :: s61 :: s62 :: s63 :: s64 :: s65 :: s66 :: s67 :: s68 :: s69 :: s70 :: s71 :: s72 :: s73 :: s74 :: s75 :: s76 :: s77 :: s78 :: s79 :: s80 :: s81 :: s82 :: s83 :: s84 :: s85 :: s86 :: s87 :: s88 :: s89 :: s90 :: s91 :: s92 :: s93 :: s94 :: []), defers := dd } w') :
    Code.wpIn (wideAt none) 0 Try.prog run1C Q { tmps := List.toArray (s0 :: s1 :: .slice av k cv :: .pointer (some ⟨bx, 0, none⟩) :: .pointer (some ⟨bf, 0, none⟩) :: s5 :: s6 :: s7 :: s8 :: s9 :: s10 :: s11 :: s12 :: s13 :: s14 :: s15 :: s16 :: s17 :: s18 :: s19 :: s20 :: s21 :: s22 :: s23 :: s24 :: s25 :: s26 :: s27 :: s28 :: s29 :: s30 :: s31 :: s32 :: s33 :: s34 :: s35 :: s36 :: s37 :: s38 :: s39 :: s40 :: s41 :: s42 :: s43 :: s44 :: s45 :: s46 :: s47 :: s48 :: s49 :: s50 :: s51 :: s52 :: s53 :: s54 :: s55 :: s56 :: s57 :: s58 :: s59 :: s60 :: s61 :: s62 :: s63 :: s64 :: s65 :: s66 :: s67 :: s68 :: s69 :: s70 :: s71 :: s72 :: s73 :: s74 :: s75 :: s76 :: s77 :: s78 :: s79 :: s80 :: s81 :: s82 :: s83 :: s84 :: s85 :: s86 :: s87 :: s88 :: s89 :: s90 :: s91 :: s92 :: s93 :: s94 :: []), defers := dd } W1 := by
  have HQ := Lib.hid hQ
  clear hQ
  conv => arg 4; whnf
  refine wpIn_region_invG mixed (by kernel_rfl) (fun d_ a_ w' => ∃ (x19 : Value) (x20 : Value) (x21 : Value) (x22 : Value) (x23 : Value) (x24 : Value) (x25 : Value) (x26 : Value) (ms : Nat) (r1 : Option Addr × Nat) (r2 : Option Addr × Nat) (rb : Unit), a_ = { tmps := List.toArray (s0 :: s1 :: .slice av k cv :: .pointer (some ⟨bx, 0, none⟩) :: .pointer (some ⟨bf, 0, none⟩) :: s5 :: s6 :: s7 :: s8 :: s9 :: s10 :: s11 :: s12 :: s13 :: s14 :: s15 :: s16 :: s17 :: s18 :: x19 :: x20 :: x21 :: x22 :: x23 :: x24 :: x25 :: x26 :: s27 :: s28 :: s29 :: s30 :: s31 :: s32 :: s33 :: s34 :: s35 :: s36 :: s37 :: s38 :: s39 :: s40 :: s41 :: s42 :: s43 :: s44 :: s45 :: s46 :: s47 :: s48 :: s49 :: s50 :: s51 :: s52 :: s53 :: s54 :: s55 :: s56 :: s57 :: s58 :: s59 :: s60 :: s61 :: s62 :: s63 :: s64 :: s65 :: s66 :: s67 :: s68 :: s69 :: s70 :: s71 :: s72 :: s73 :: s74 :: s75 :: s76 :: s77 :: s78 :: s79 :: s80 :: s81 :: s82 :: s83 :: s84 :: s85 :: s86 :: s87 :: s88 :: s89 :: s90 :: s91 :: s92 :: s93 :: s94 :: []), defers := dd } ∧ run1F p A bx bf av k cv fa nf fc ft res S0 S1 S2 S3 S4 d_ x19 x20 x21 x22 x23 x24 x25 x26 ms r1 r2 rb w') ?_ ?_ ?_
  · refine ⟨s19, s20, s21, s22, s23, s24, s25, s26, 0, default, default, default, rfl, ?_⟩
    constructor <;> first | rfl | (intro _; rfl) | (intro h; cases h; done) | (intro _; exact h0) | exact h0
  · refine ⟨?_, ?_, ?_, ?_, ?_, ?_, ?_, ?_, trivial⟩
    all_goals
      rintro d_ a_ w1 K hd_ hdep ⟨x19, x20, x21, x22, x23, x24, x25, x26, ms, r1, r2, rb, rfl, F⟩ HK
      simp [Region.binds] at hdep
    · have hst : S0 (d_ 5) ms w1 ∨ S1 (d_ 5) ms x20 w1 ∨ S2 (d_ 5) ms x20 r1 w1 ∨ S3 (d_ 5) ms x20 r1 r2 w1 := by
        cases e1 : d_ 1 with
        | false => exact .inl ((F.st0 e1))
        | true =>
          cases e2 : d_ 3 with
          | false => exact .inr (.inl ((F.st1 e1 e2)))
          | true =>
            cases e3 : d_ 6 with
            | false => exact .inr (.inr (.inl ((F.st2 e2 e3))))
            | true =>
              have n_ : d_ 7 = false := by
                cases e_ : d_ 7 with
                | false => rfl
                | true => have h2 := (F.q7 e_).1; rw [show d_ 0 = false from hd_] at h2; cases h2
              exact .inr (.inr (.inr ((F.st3 e3 n_))))
      have kk := kl0.out (d_ 5) ms x20 r1 r2 w1 hst
      obtain ⟨kk0, kk1, kk2, kk3, kk4, kk5, kk6, kk7, kk8, kk9⟩ := kk
      clear hst
      have HF : Hid (run1F p A bx bf av k cv fa nf fc ft res S0 S1 S2 S3 S4 (upd d_ 0) (p.v A) x20 x21 x22 x23 x24 x25 x26 ms r1 r2 rb w1) := ⟨F.q3, F.q5, F.q6, fun h => ⟨rfl, (F.q7 h).2⟩, fun _ => rfl, F.f2, F.f3, F.f4, F.f5, F.f6, F.f7, F.st0, F.st1, F.st2, F.st3, F.st4, F.mz⟩
      clear F
      go_simp
      exact HK.out _ _ ⟨_, _, _, _, _, _, _, _, _, _, _, _, rfl, HF.out⟩
    · have hS := F.st0  hd_
      have hres := kc1.out (d_ 5) ms w1 hS
      have HF : Hid (run1F p A bx bf av k cv fa nf fc ft res S0 S1 S2 S3 S4 (upd d_ 1) x19 ((.slice (some ⟨w1.heap.size, 0, none⟩) 0 0)) x21 x22 x23 x24 x25 x26 ms r1 r2 rb (w1.alloc (.cells #[] 29))) := ⟨fun h => ⟨rfl, (F.q3 h).2⟩, F.q5, F.q6, F.q7, F.f0, F.f2, F.f3, F.f4, F.f5, F.f6, F.f7, fun h => (by simp [upd] at h), fun _ _ => hres, fun h _ => (by have h2 : d_ 1 = true := (F.q3 h).1; rw [show d_ 1 = false from hd_] at h2; cases h2), fun h _ => (by have h2 : d_ 1 = true := (F.q3 (F.q6 h).1).1; rw [show d_ 1 = false from hd_] at h2; cases h2), fun h => (by have h2 : d_ 1 = true := (F.q3 (F.q6 (F.q7 h).2).1).1; rw [show d_ 1 = false from hd_] at h2; cases h2), F.mz⟩
      clear F hS hres
      go_simp
      exact HK.out _ _ ⟨_, _, _, _, _, _, _, _, _, _, _, _, rfl, HF.out⟩
    · have HF : Hid (run1F p A bx bf av k cv fa nf fc ft res S0 S1 S2 S3 S4 (upd d_ 2) x19 x20 (.slice av k cv) x22 x23 x24 x25 x26 ms r1 r2 rb w1) := ⟨fun h => ⟨(F.q3 h).1, rfl⟩, F.q5, F.q6, F.q7, F.f0, fun _ => rfl, F.f3, F.f4, F.f5, F.f6, F.f7, F.st0, F.st1, F.st2, F.st3, F.st4, F.mz⟩
      clear F
      go_simp
      exact HK.out _ _ ⟨_, _, _, _, _, _, _, _, _, _, _, _, rfl, HF.out⟩
    · have hS := F.st1 (by simp [hdep] : d_ 1 = true) hd_
      obtain rfl := F.f2 (by simp [hdep])
      obtain ⟨v_, w_, hr, hres⟩ := kc3.out (d_ 5) ms x20 w1 hS
      rw [if_pos (by rfl)]
      refine wpIn_append_run (.tmp 20) (.tmp 21) 30 rfl _ _ _ _ rfl rfl hr ?_
      exact HK.out _ _ ⟨_, _, _, _, _, _, _, _, ms, v_, r2, rb, rfl, ⟨fun _ => ⟨(show _ from (by simp [hdep] : d_ 1 = true)), (show _ from (by simp [hdep] : d_ 2 = true))⟩, F.q5, fun h => ⟨rfl, (F.q6 h).2⟩, F.q7, F.f0, F.f2, fun _ => rfl, F.f4, F.f5, F.f6, F.f7, fun h => (by have h2 : d_ 1 = false := h; rw [(by simp [hdep] : d_ 1 = true)] at h2; cases h2), fun _ h => (by simp [upd] at h), fun _ _ => hres, fun h _ => (by have h2 : d_ 3 = true := (F.q6 h).1; rw [show d_ 3 = false from hd_] at h2; cases h2), fun h => (by have h2 : d_ 3 = true := (F.q6 (F.q7 h).2).1; rw [show d_ 3 = false from hd_] at h2; cases h2), F.mz⟩⟩
    · have hst : S0 (d_ 5) ms w1 ∨ S1 (d_ 5) ms x20 w1 ∨ S2 (d_ 5) ms x20 r1 w1 := by
        cases e1 : d_ 1 with
        | false => exact .inl ((F.st0 e1))
        | true =>
          cases e2 : d_ 3 with
          | false => exact .inr (.inl ((F.st1 e1 e2)))
          | true =>
            have n_ : d_ 6 = false := by
              cases e_ : d_ 6 with
              | false => rfl
              | true => have h2 := (F.q5 (F.q6 e_).2); rw [show d_ 4 = false from hd_] at h2; cases h2
            exact .inr (.inr ((F.st2 e2 n_)))
      have kk := kl4.out (d_ 5) ms x20 r1 w1 hst
      obtain ⟨kk0, kk1⟩ := kk
      clear hst
      have HF : Hid (run1F p A bx bf av k cv fa nf fc ft res S0 S1 S2 S3 S4 (upd d_ 4) x19 x20 x21 x22 (.agg #[.slice fa nf fc, .int .i64 ft]) x24 x25 x26 ms r1 r2 rb w1) := ⟨F.q3, fun h => rfl, F.q6, F.q7, F.f0, F.f2, F.f3, fun _ => rfl, F.f5, F.f6, F.f7, F.st0, F.st1, F.st2, F.st3, F.st4, F.mz⟩
      clear F
      go_simp
      exact HK.out _ _ ⟨_, _, _, _, _, _, _, _, _, _, _, _, rfl, HF.out⟩
    · obtain rfl := F.f4 (by simp [hdep])
      have HF : Hid (run1F p A bx bf av k cv fa nf fc ft res S0 S1 S2 S3 S4 (upd d_ 5) x19 x20 x21 x22 (.agg #[.slice fa nf fc, .int .i64 ft]) (.slice (some ⟨w1.heap.size, 0, none⟩) 1 1) x25 x26 w1.heap.size r1 r2 rb (w1.alloc (.cells #[.slice fa nf fc, .int .i64 ft] 29))) := ⟨F.q3, fun _ => (show _ from (by simp [hdep] : d_ 4 = true)), fun h => ⟨(F.q6 h).1, rfl⟩, F.q7, F.f0, F.f2, F.f3, F.f4, fun _ => rfl, F.f6, F.f7, fun b => ks0.out w1 (by have h := F.st0 b; rw [show d_ 5 = false from hd_, F.mz hd_] at h; exact h), fun a b => ks1.out x20 w1 (by have h := F.st1 a b; rw [show d_ 5 = false from hd_, F.mz hd_] at h; exact h), fun a b => ks2.out x20 r1 w1 (by have h := F.st2 a b; rw [show d_ 5 = false from hd_, F.mz hd_] at h; exact h), fun a b => (by have h2 : d_ 5 = true := (F.q6 a).2; rw [show d_ 5 = false from hd_] at h2; cases h2), fun a => (by have h2 : d_ 5 = true := (F.q6 (F.q7 a).2).2; rw [show d_ 5 = false from hd_] at h2; cases h2), fun h => (by simp [upd] at h)⟩
      clear F
      go_simp
      exact HK.out _ _ ⟨_, _, _, _, _, _, _, _, _, _, _, _, rfl, HF.out⟩
    · have hS := F.st2 (by simp [hdep] : d_ 3 = true) hd_
      rw [show d_ 5 = true from (by simp [hdep] : d_ 5 = true)] at hS
      obtain rfl := F.f3 (by simp [hdep])
      obtain rfl := F.f5 (by simp [hdep])
      obtain ⟨v_, w_, hr, hres⟩ := kc6.out ms x20 r1 w1 hS
      rw [if_pos (by rfl)]
      refine wpIn_append_run (.tmp 22) (.tmp 24) 30 rfl _ _ _ _ rfl rfl hr ?_
      exact HK.out _ _ ⟨_, _, _, _, _, _, _, _, ms, r1, v_, rb, rfl, ⟨F.q3, F.q5, fun _ => ⟨(show _ from (by simp [hdep] : d_ 3 = true)), (show _ from (by simp [hdep] : d_ 5 = true))⟩, fun h => ⟨(F.q7 h).1, rfl⟩, F.f0, F.f2, F.f3, F.f4, F.f5, fun _ => rfl, F.f7, fun h => (by have h2 : d_ 1 = false := h; rw [(F.q3 (by simp [hdep] : d_ 3 = true)).1] at h2; cases h2), fun _ h => (by have h2 : d_ 3 = false := h; rw [(by simp [hdep] : d_ 3 = true)] at h2; cases h2), fun _ h => (by simp [upd] at h), fun _ _ => (by rw [show upd d_ 6 5 = true from (by simp [hdep] : d_ 5 = true)]; exact hres), fun h => (by have h2 : d_ 6 = true := (F.q7 h).2; rw [show d_ 6 = false from hd_] at h2; cases h2), F.mz⟩⟩
    · have hS := F.st3 (by simp [hdep] : d_ 6 = true) hd_
      rw [show d_ 5 = true from (F.q6 (by simp [hdep] : d_ 6 = true)).2] at hS
      obtain rfl := F.f0 (by simp [hdep])
      obtain rfl := F.f6 (by simp [hdep])
      have hc := kc7.out ms x20 r1 r2 w1 hS
      have HF := Lib.hid F
      clear F
      go_simp
      refine ⟨trivial, rfl, wideAt_calls (hc.mono ?_)⟩
      rintro e w5 ⟨v_, rfl, hres⟩
      exact HK.out _ _ ⟨_, _, _, _, _, _, _, _, ms, r1, r2, v_, rfl, ⟨HF.out.q3, HF.out.q5, HF.out.q6, fun _ => ⟨(show _ from (by simp [hdep] : d_ 0 = true)), (show _ from (by simp [hdep] : d_ 6 = true))⟩, HF.out.f0, HF.out.f2, HF.out.f3, HF.out.f4, HF.out.f5, HF.out.f6, fun _ => rfl, fun h => (by have h2 : d_ 1 = false := h; rw [(HF.out.q3 (HF.out.q6 (by simp [hdep] : d_ 6 = true)).1).1] at h2; cases h2), fun _ h => (by have h2 : d_ 3 = false := h; rw [(HF.out.q6 (by simp [hdep] : d_ 6 = true)).1] at h2; cases h2), fun _ h => (by have h2 : d_ 6 = false := h; rw [(by simp [hdep] : d_ 6 = true)] at h2; cases h2), fun _ h => (by simp [upd] at h), fun _ => (by rw [show upd d_ 7 5 = true from (HF.out.q6 (by simp [hdep] : d_ 6 = true)).2]; exact hres), HF.out.mz⟩⟩
  · rintro d_ a_ w1 hall ⟨x19, x20, x21, x22, x23, x24, x25, x26, ms, r1, r2, rb, rfl, F⟩
    have hall' : ∀ k, k < 8 → d_ k = true := hall
    obtain rfl := F.f0 (hall' 0 (by decide))
    obtain rfl := F.f2 (hall' 2 (by decide))
    obtain rfl := F.f3 (hall' 3 (by decide))
    obtain rfl := F.f4 (hall' 4 (by decide))
    obtain rfl := F.f5 (hall' 5 (by decide))
    obtain rfl := F.f6 (hall' 6 (by decide))
    obtain rfl := F.f7 (hall' 7 (by decide))
    have hst := F.st4 (hall' 7 (by decide))
    rw [show d_ 5 = true from hall' 5 (by decide)] at hst
    exact HQ.out ms x20 r1 r2 rb w1 hst
end Go.Proofs.Ytjkhclijmcmdjaa
namespace Go.Proofs.Ytjkhclijmcmdjaa
open Go.RowKit
set_option linter.unusedVariables false
set_option linter.unusedSimpArgs false
theorem gives_len {p : Prs} {f : Fme} : (givesE p f).1.length ≤ p.wanted.length := by
  unfold givesE
  by_cases h : p.openE (fmeOk p f) = 0
  · simp [h]
  · simp [h]
set_option maxRecDepth 100000 in
set_option maxHeartbeats 4000000 in
theorem stockRuns_any {p : Prs} {A : PrsA} {w : World} (hP : IsPrs w p A) {f : Fme} {fa : Option Addr} {fc : Nat} (hf : IsInts w fa f.slots) {l : List Fme} {av : Option Addr} {cv : Nat} (hl : IsFmes w av l) (hlb : l.length * 32 ≤ 140737488351232) :
    Calls Try.prog 3 #[p.v A, f.v fa fc, .slice av l.length cv] w fun e w' => e = .returned (.bool true) ∧ Below w.heap.size w w' := by
  have hX := alloc2 w (p.arr A) (f.arr fa fc) 27 29
  have HW := Lib.hid (And.intro hX (And.intro (hP.mono hX.2.2) (And.intro (hf.mono hX.2.2) (hl.mono hX.2.2))))
  have HLB := Lib.hid hlb
  clear hX hP hf hl hlb
  go_enter Try.func3, Try.ntmps3
  refine wp_seq_hid ?_
  intro K0 HK0
  go_wp2_with fail
  refine HK0.out _ _ ?_
  clear HK0 K0
  refine wp_seq_hid ?_
  intro K8 HK8
  refine wp_seq_hid ?_
  intro K1 HK1
  revert HW
  generalize (w.alloc (.cells (p.arr A) 27)).alloc (.cells (f.arr fa fc) 29) = w1
  intro HW
  have KP : Hid (∀ v, Below w1.heap.size w1 v → PrsC v w.heap.size p A ∧ IsPrs v p A ∧ (v.cell? ⟨w.heap.size + 1, 0, none⟩ = some (.slice fa f.slots.length fc) ∧ v.cell? ⟨w.heap.size + 1, 1, none⟩ = some (.int .i64 f.times)) ∧ IsInts v fa f.slots ∧ IsFmes v av l ∧ Below w.heap.size w v) := fun v h => by
    have q := (h.block _ (heap_lt HW.out.1.2.1)).trans HW.out.1.2.1
    exact ⟨prs_cells ((h.block _ (heap_lt HW.out.1.1)).trans HW.out.1.1), HW.out.2.1.mono h, ⟨by rw [cell_of_heap q]; rfl, by rw [cell_of_heap q]; rfl⟩, HW.out.2.2.1.mono h, HW.out.2.2.2.mono h, HW.out.1.2.2.trans (h.mono HW.out.1.2.2.size)⟩
  obtain ⟨sp, x, hE⟩ : ∃ sp x, givesE p f = (sp, x) := ⟨_, _, rfl⟩
  obtain ⟨y, z, hC⟩ : ∃ y z, checkE p l = (y, z) := ⟨_, _, rfl⟩
  obtain ⟨m, n, hO⟩ : ∃ m n, costE p l = (m, n) := ⟨_, _, rfl⟩
  have HL : Hid (p.Small → sp.length ≤ 20) := fun h => by
    have h1 := gives_len (p := p) (f := f)
    rw [hE] at h1
    exact Nat.le_trans h1 h.wanted
  have C15 : Hid (∀ v, Below w1.heap.size w1 v → p.Small → f.slots.length ≤ 20 → Calls Try.prog 15 #[p.v A, f.v fa fc] v fun e w' => ∃ a c, e = .returned (.tuple #[.slice a sp.length c, .int .i64 x]) ∧ IsSpns w' a sp ∧ Below v.heap.size v w') := fun v h hs hf => by
    have G := gives15 (f := f) (c := fc) (KP.out v h).2.1 hs (KP.out v h).2.2.2.1 (by omega)
    rw [hE] at G
    exact G
  have C16 : Hid (∀ v, Below w1.heap.size w1 v → p.Small → f.slots.length ≤ 20 → Calls Try.prog 16 #[p.v A, f.v fa fc] v fun e w' => ∃ a c, e = .returned (.tuple #[.slice a sp.length c, .int .i64 x]) ∧ IsSpns w' a sp ∧ Below v.heap.size v w') := fun v h hs hf => by
    have G := rgives16 (f := f) (c := fc) (KP.out v h).2.1 hs (KP.out v h).2.2.2.1 (by omega)
    rw [hE] at G
    exact G
  have C17 : Hid (∀ v, Below w1.heap.size w1 v → p.Small → l.length ≤ 20 → (∀ g ∈ l, g.slots.length ≤ 20) → Calls Try.prog 17 #[p.v A, .slice av l.length cv] v fun e w' => e = .returned (.tuple #[.int .i64 y, .int .i64 z]) ∧ Below v.heap.size v w') := fun v h hs h1 h2 => by
    have G := check17 (c := cv) (KP.out v h).2.1 hs (KP.out v h).2.2.2.2.1 (by omega) (fun g hg => by have := h2 g hg; omega)
    rw [hC] at G
    exact G
  have C18 : Hid (∀ v, Below w1.heap.size w1 v → p.Small → l.length ≤ 20 → (∀ g ∈ l, g.slots.length ≤ 20) → Calls Try.prog 18 #[p.v A, .slice av l.length cv] v fun e w' => e = .returned (.tuple #[.int .i64 y, .int .i64 z]) ∧ Below v.heap.size v w') := fun v h hs h1 h2 => by
    have G := rcheck18 (c := cv) (KP.out v h).2.1 hs (KP.out v h).2.2.2.2.1 (by omega) (fun g hg => by have := h2 g hg; omega)
    rw [hC] at G
    exact G
  have C19 : Hid (∀ v, Below w1.heap.size w1 v → p.Small → l.length ≤ 20 → (∀ g ∈ l, g.slots.length ≤ 20) → Calls Try.prog 19 #[p.v A, .slice av l.length cv] v fun e w' => e = .returned (.tuple #[.int .i64 m, .int .i64 n]) ∧ Below v.heap.size v w') := fun v h hs h1 h2 => by
    have G := cost19 (c := cv) (KP.out v h).2.1 hs (KP.out v h).2.2.2.2.1 (by omega) (fun g hg => by have := h2 g hg; omega)
    rw [hO] at G
    exact G
  have C20 : Hid (∀ v, Below w1.heap.size w1 v → p.Small → l.length ≤ 20 → (∀ g ∈ l, g.slots.length ≤ 20) → Calls Try.prog 20 #[p.v A, .slice av l.length cv] v fun e w' => e = .returned (.tuple #[.int .i64 m, .int .i64 n]) ∧ Below v.heap.size v w') := fun v h hs h1 h2 => by
    have G := rcost20 (c := cv) (KP.out v h).2.1 hs (KP.out v h).2.2.2.2.1 (by omega) (fun g hg => by have := h2 g hg; omega)
    rw [hO] at G
    exact G
  clear hE hC hO
  obtain ⟨rs, hrs⟩ := fmes_rows (KP.out w1 (Below.refl _ w1)).2.2.2.2.1
  have HRS := Lib.hid hrs
  clear hrs
  refine wpIn_wide.1 (run1 (p := p) (A := A) (bx := w.heap.size) (bf := w.heap.size + 1) (av := av) (k := l.length) (cv := cv) (fa := fa) (nf := f.slots.length) (fc := fc) (ft := f.times) (res := farB p (l ++ [f]))
    (S0 := fun fs ms v => Below w1.heap.size w1 v ∧ (fs = true → w1.heap.size ≤ ms ∧ v.heap[ms]? = some (.cells #[.slice fa f.slots.length fc, .int .i64 f.times] 29 (0, 0))))
    (S1 := fun fs ms xs v => Below w1.heap.size w1 v ∧ v.ownsRow w1.heap.size 29 2 xs 0 [] ∧ (fs = true → xs.ownBlock ≠ some ms ∧ v.heap[ms]? = some (.cells #[.slice fa f.slots.length fc, .int .i64 f.times] 29 (0, 0))))
    (S2 := fun fs ms xs r1 v => Below w1.heap.size w1 v ∧ v.ownsRow w1.heap.size 29 2 (.slice r1.1 l.length r1.2) l.length (fmC l rs) ∧ (fs = true → v.heap[ms]? = some (.cells #[.slice fa f.slots.length fc, .int .i64 f.times] 29 (0, 0))))
    (S3 := fun fs ms xs r1 r2 v => Below w1.heap.size w1 v ∧ v.ownsRow w1.heap.size 29 2 (.slice r2.1 (l.length + 1) r2.2) (l.length + 1) (fmC (l ++ [f]) (rs ++ [(fa, fc)])))
    (S4 := fun fs ms xs r1 r2 rb v => Below w1.heap.size w1 v)
    ?h0 ?l0 ?c1 ?c3 ?l4 ?s0 ?s1 ?s2 ?c6 ?c7 ?hQ)
  case h0 => exact ⟨(Below.refl _ w1).drew, fun h => by cases h⟩
  case l0 =>
    intro fs ms xs r1 r2 v h
    have k := (KP.out v (by rcases h with h | h | h | h <;> exact h.1)).1
    exact ⟨k.c0, k.c1, k.c2, k.c3, k.c4, k.c5, k.c6, k.c7, k.c8, k.c9⟩
  case c1 => exact fun fs ms v h => ⟨h.1.alloc h.1.size _, ownsRow_zeroF h.1.size, fun hf => ⟨fun e => by have e' : some v.heap.size = some ms := e; cases e'; have := heap_lt (h.2 hf).2; omega, (Below.heap_alloc v _ ms (heap_lt (h.2 hf).2)).trans (h.2 hf).2⟩⟩
  case c3 =>
    intro fs ms xs v h
    obtain ⟨r1, v', hrun, hb', ho', hk⟩ := fcopy_new (cv := cv) HLB.out h.1 h.2.1 (HRS.out.mono h.1)
    exact ⟨r1, v', hrun, hb', ho', fun hf => (hk ms (heap_lt (h.2.2 hf).2) (h.2.2 hf).1).1.trans (h.2.2 hf).2⟩
  case l4 =>
    intro fs ms xs r1 v h
    exact (KP.out v (by rcases h with h | h | h <;> exact h.1)).2.2.1
  case s0 => exact fun v h => ⟨h.1.alloc h.1.size _, fun _ => ⟨h.1.size, World.alloc_heap_new _ _⟩⟩
  case s1 => exact fun xs v h => ⟨h.1.alloc h.1.size _, h.2.1.alloc _, fun _ => ⟨fun e => by have := (h.2.1.lt _ e).2; omega, World.alloc_heap_new _ _⟩⟩
  case s2 => exact fun xs r1 v h => ⟨h.1.alloc h.1.size _, h.2.1.alloc _, fun _ => World.alloc_heap_new _ _⟩
  case c6 =>
    intro ms xs r1 v h
    obtain ⟨r2, v', hrun, hb', ho'⟩ := fcopy_more HLB.out HRS.out.len h.1 h.2.1 (h.2.2 rfl)
    exact ⟨r2, v', hrun, hb', ho'⟩
  case c7 =>
    intro ms xs r1 r2 v h
    have HI : FmsI w1 (l ++ [f]) (.slice r2.1 (l.length + 1) r2.2) v := by
      refine ⟨h.1, rs ++ [(fa, fc)], by simp [HRS.out.len], ?_, fun i r hi => ?_⟩
      · have e : (l ++ [f]).length = l.length + 1 := by simp
        rw [e]
        exact h.2
      · rcases Nat.lt_trichotomy i rs.length with hj | hj | hj
        · rw [List.getElem?_append_left hj] at hi
          have e : gf (l ++ [f]) i = gf l i := by unfold gf; rw [List.getD_eq_getElem?_getD, List.getD_eq_getElem?_getD, List.getElem?_append_left (by have := HRS.out.len; omega)]
          rw [e]
          exact HRS.out.ints i r hi
        · subst hj
          simp at hi
          subst hi
          have e : gf (l ++ [f]) rs.length = f := by unfold gf; rw [List.getD_eq_getElem?_getD, HRS.out.len]; simp
          rw [e]
          exact (KP.out w1 (Below.refl _ w1)).2.2.2.1
        · rw [List.getElem?_eq_none (by simp; omega)] at hi
          cases hi
    have G := far13 (c := r2.2) (KP.out v h.1).2.1 HI.fmes
    have e : (l ++ [f]).length = l.length + 1 := by simp
    rw [e] at G
    exact G.mono fun e w' ⟨h1, h2⟩ => ⟨(), h1, h.1.trans (h2.mono h.1.size)⟩
  intro ms xs r1 r2 rb b0 hb0
  have HB := Lib.hid hb0
  clear hb0 HRS
  refine HK1.out _ _ ?_
  clear HK1 K1
  cases hf : farB p (l ++ [f])
  case true =>
    go_wp2_with fail
    refine (awake14 (w := _)).mono ?_
    rintro e c1 ⟨rfl, hb⟩
    have HX := Lib.hid (HB.out.trans (hb.mono HB.out.size))
    clear hb
    go_wp2_with fail
    go_ret
    exact ⟨rfl, (KP.out _ HX.out).2.2.2.2.2⟩
  have hs := far_small hf
  have HS := Lib.hid hs.1
  have HF := Lib.hid (hs.2.2 f (by simp))
  have HLL : Hid (l.length ≤ 20) := by have := hs.2.1; simp at this; exact Nat.le_of_lt (by omega)
  have HLF : Hid (∀ g ∈ l, g.slots.length ≤ 20) := fun g hg => hs.2.2 g (by simp [hg])
  clear hf hs
  go_wp2_with fail
  refine HK8.out _ _ ?_
  clear HK8 K8
  refine wp_seq_hid ?_
  intro K2 HK2
  obtain ⟨k0, k1, k2, k3, k4, k5, k6, k7, k8, k9⟩ := (KP.out b0 HB.out).1
  obtain ⟨j0, j1⟩ := (KP.out b0 HB.out).2.2.1
  go_wp2_with fail
  refine (C15.out _ HB.out HS.out HF.out).mono ?_
  rintro e b1 ⟨a1, c1, rfl, hf1, hb⟩
  have HX := Lib.hid (And.intro (HB.out.trans (hb.mono HB.out.size)) hf1)
  clear hb HB j0 j1 k0 k1 k2 k3 k4 k5 k6 k7 k8 k9 hf1
  have HB := HX
  clear HX
  go_wp2_with fail
  refine HK2.out _ _ ?_
  clear HK2 K2
  refine wp_seq_hid ?_
  intro K3 HK3
  obtain ⟨k0, k1, k2, k3, k4, k5, k6, k7, k8, k9⟩ := (KP.out b1 HB.out.1).1
  obtain ⟨j0, j1⟩ := (KP.out b1 HB.out.1).2.2.1
  go_wp2_with fail
  refine (C16.out _ HB.out.1 HS.out HF.out).mono ?_
  rintro e b2 ⟨a2, c2, rfl, hf2, hb⟩
  have HX := Lib.hid (And.intro (HB.out.1.trans (hb.mono HB.out.1.size)) (And.intro (HB.out.2.mono hb) hf2))
  clear hb HB j0 j1 k0 k1 k2 k3 k4 k5 k6 k7 k8 k9 hf2
  have HB := HX
  clear HX
  go_wp2_with fail
  refine HK3.out _ _ ?_
  clear HK3 K3
  refine wp_seq_hid ?_
  intro K4 HK4
  obtain ⟨k0, k1, k2, k3, k4, k5, k6, k7, k8, k9⟩ := (KP.out b2 HB.out.1).1
  go_wp2_with fail
  refine (C17.out _ HB.out.1 HS.out HLL.out HLF.out).mono ?_
  rintro e b3 ⟨rfl, hb⟩
  have HX := Lib.hid (And.intro (HB.out.1.trans (hb.mono HB.out.1.size)) (And.intro (HB.out.2.1.mono hb) (HB.out.2.2.mono hb)))
  clear hb HB k0 k1 k2 k3 k4 k5 k6 k7 k8 k9
  have HB := HX
  clear HX
  go_wp2_with fail
  refine HK4.out _ _ ?_
  clear HK4 K4
  refine wp_seq_hid ?_
  intro K5 HK5
  obtain ⟨k0, k1, k2, k3, k4, k5, k6, k7, k8, k9⟩ := (KP.out b3 HB.out.1).1
  go_wp2_with fail
  refine (C18.out _ HB.out.1 HS.out HLL.out HLF.out).mono ?_
  rintro e b4 ⟨rfl, hb⟩
  have HX := Lib.hid (And.intro (HB.out.1.trans (hb.mono HB.out.1.size)) (And.intro (HB.out.2.1.mono hb) (HB.out.2.2.mono hb)))
  clear hb HB k0 k1 k2 k3 k4 k5 k6 k7 k8 k9
  have HB := HX
  clear HX
  go_wp2_with fail
  refine HK5.out _ _ ?_
  clear HK5 K5
  refine wp_seq_hid ?_
  intro K6 HK6
  obtain ⟨k0, k1, k2, k3, k4, k5, k6, k7, k8, k9⟩ := (KP.out b4 HB.out.1).1
  go_wp2_with fail
  refine (C19.out _ HB.out.1 HS.out HLL.out HLF.out).mono ?_
  rintro e b5 ⟨rfl, hb⟩
  have HX := Lib.hid (And.intro (HB.out.1.trans (hb.mono HB.out.1.size)) (And.intro (HB.out.2.1.mono hb) (HB.out.2.2.mono hb)))
  clear hb HB k0 k1 k2 k3 k4 k5 k6 k7 k8 k9
  have HB := HX
  clear HX
  go_wp2_with fail
  refine HK6.out _ _ ?_
  clear HK6 K6
  refine wp_seq_hid ?_
  intro K7 HK7
  obtain ⟨k0, k1, k2, k3, k4, k5, k6, k7, k8, k9⟩ := (KP.out b5 HB.out.1).1
  go_wp2_with fail
  refine (C20.out _ HB.out.1 HS.out HLL.out HLF.out).mono ?_
  rintro e b6 ⟨rfl, hb⟩
  have HX := Lib.hid (And.intro (HB.out.1.trans (hb.mono HB.out.1.size)) (And.intro (HB.out.2.1.mono hb) (HB.out.2.2.mono hb)))
  clear hb HB k0 k1 k2 k3 k4 k5 k6 k7 k8 k9
  have HB := HX
  clear HX
  go_wp2_with fail
  refine HK7.out _ _ ?_
  clear HK7 K7
  have G := spans21 (ca := c1) (cb := c2) HB.out.2.1 HB.out.2.2 (by have := HL.out HS.out; omega) (by have := HL.out HS.out; omega)
  rw [decide_eq_true rfl] at G
  go_wp2_with fail
  refine (G).mono ?_
  rintro e b7 ⟨rfl, hb⟩
  have HX := Lib.hid (And.intro (HB.out.1.trans (hb.mono HB.out.1.size)) (And.intro (HB.out.2.1.mono hb) (HB.out.2.2.mono hb)))
  clear hb HB G
  have HB := HX
  clear HX
  go_wp2_with fail
  refine (awake14 (w := _)).mono ?_
  rintro e c1 ⟨rfl, hb⟩
  have HX := Lib.hid (HB.out.1.trans (hb.mono HB.out.1.size))
  clear hb
  go_wp2_with fail
  go_ret
  exact ⟨rfl, (KP.out _ HX.out).2.2.2.2.2⟩
end Go.Proofs.Ytjkhclijmcmdjaa
namespace Go.Proofs.Ytjkhclijmcmdjaa
open Go.RowKit Go.WideShapes Go.ChangeShapes
section
variable {H : Type} {enc : TypeId × Value → H} {P : Program}
end
end Go.Proofs.Ytjkhclijmcmdjaa
namespace Go.Proofs.Ytjkhclijmcmdjaa
open Go.ChangeShapes Go.WideShapes Go.ChangeAt Go.Deep Go.RowKit Go.Joins
set_option linter.unusedVariables false
theorem Try.laidOut : laidOutB Try.prog = true := by kernel_rfl
section
variable {H : Type} {enc : TypeId × Value → H} {w : World} {base : Nat} {spare : Nat → Bool} {held : Bool}
end
end Go.Proofs.Ytjkhclijmcmdjaa
namespace Go.Proofs.Ytjkhclijmcmdjaa
open Go.ChangeShapes Go.WideShapes Go.ChangeAt Go.Deep Go.RowKit Go.Joins
set_option linter.unusedVariables false
theorem bytes29 : Try.prog.bytesOf 29 = 32 := by kernel_rfl
theorem plan_data {H : Type} {enc : TypeId × Value → H} {w : World} {base : Nat} {spare : Nat → Bool} {held : Bool} {a : Option Addr} {n c : Nat} {d : DataW H} {q : List MemPlace} (h : DataW.Trod enc Try.prog w base spare held 30 (.slice a n c) d q) :
    n = 0 ∨ ∃ es sp, d = .slice es sp ∧ es.length = n := by
  obtain ⟨n0, h0⟩ := h
  have h0' : DataW.trod enc Try.prog w base spare held n0 30 [.slice a n c] = some (d, q) := h0
  rcases open_slice Try.underlying30 h0' with ⟨h1, _⟩ | ⟨a1, len, cap, m, k, D, Pl, h1, _, hl, hm, hmm, hx, _⟩
  · simp only [List.cons.injEq, and_true] at h1
    cases h1
    exact .inl rfl
  · simp only [List.cons.injEq, and_true] at h1
    cases h1
    right
    simp only [Prod.mk.injEq] at hx
    exact ⟨_, _, hx.1, by simp⟩
theorem sized_plan {H : Type} {enc : TypeId × Value → H} {w : World} {base : Nat} {spare : Nat → Bool} {held : Bool} {a : Option Addr} {n c j : Nat} {d : DataW H} {q : List MemPlace} {ts : List TypeId} {ds : List (DataW H)}
    (hw : (DataW.weightsEach Try.prog ts ds).all (· ≤ reachBytes) = true) (ht : ts[j]? = some 30) (hd : ds[j]? = some d) (h : DataW.Trod enc Try.prog w base spare held 30 (.slice a n c) d q) : n * 32 ≤ 140737488351232 := by
  rcases plan_data h with h | ⟨es, sp, e, hl⟩
  · omega
  · rw [e] at hd
    have h1 := sized_slice hw ht hd Try.underlying30
    rw [bytes29, hl] at h1
    have h2 : reachBytes = 140737488351232 := by decide
    rw [h2] at h1
    have h3 : n * 32 ≤ (n + sp.length) * 32 := Nat.mul_le_mul_right _ (by omega)
    omega
end Go.Proofs.Ytjkhclijmcmdjaa
