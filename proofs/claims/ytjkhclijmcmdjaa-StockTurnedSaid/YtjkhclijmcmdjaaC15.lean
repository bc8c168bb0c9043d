/- The row's last step where the call leaves a world of which only what lay there before is known. Presses and formes that are handed in, opened. -/
import Derived.Test.YtjkhclijmcmdjaaC14
import Derived.Below
import Derived.ChangeSame
import Derived.ProofKit
import Derived.Deep.Slices
import Derived.Deep.Fields
import Derived.Lib.SmallJoins
import Derived.Carry
import Derived.OpenShut
namespace Go.Proofs.Ytjkhclijmcmdjaa
open Go.RowKit Go.WideShapes Go.ChangeShapes
section
variable {H : Type} {enc : TypeId × Value → H} {P : Program}
theorem post_of_below {f : Func} {s : ChangeSpec} {apart fresh handsOn again : Bool} {W W' : World} {args : Array Value} {v : Value} {ds gs : List (DataW H)} {before pa pv : List MemPlace}
    (hW : DataW.Whole enc P f.params.toList s.vars apart W args.toList ds gs before)
    (hres : ∀ (b : Nat) (sp : Nat → Bool) (hd : Bool), DataW.TrodAll enc P W' b sp hd f.resultTypes.toList (v.resultList f.resultTypes.size) (s.fn H (ds ++ gs)).results [])
    (hargs : ∀ sp : Nat → Bool, (∀ p ∈ before, sp p.block = true) → DataW.TrodAll enc P W' 0 sp true f.params.toList args.toList (s.fn H (ds ++ gs)).args pa)
    (hvars : ∀ sp : Nat → Bool, (∀ p ∈ before, sp p.block = true) → DataW.TrodVars enc P W' sp s.vars (s.fn H (ds ++ gs)).vars pv)
    (hps : before = pa ++ pv) (hb : Below W.heap.size W W')
    (hok : ∀ (j : Nat) (t : TypeId) (r : Value), f.resultTypes[j]? = some t → (v.resultList f.resultTypes.size)[j]? = some r → Value.okWide P W' .any 0 t r) :
    s.post enc P f apart fresh handsOn again W args v W' := by
  have hlt : ∀ p ∈ before, p.block < W.heap.size := fun p hp => hW.lt p hp
  have hold : ∀ p ∈ before, (fun b => decide (b < W.heap.size)) p.block = true := fun p hp => by simpa using hlt p hp
  refine ⟨ds, gs, before, [], pa, pv, hW, hres _ _ _, hargs _ hold, hvars _ hold, World.keptBut_mono (fun p hp => ⟨hp, ?_⟩) (hb.frame (· ∈ before)), fun _ => ?_⟩
  · rw [hps, List.mem_append] at hp
    exact Or.inr hp
  · obtain ⟨_, _, _, _, _, hz, hn⟩ := hW
    refine ⟨hok, _, _, ([] ++ pa) ++ pv, ⟨[] ++ pa, pv, trodAll_append (hargs _ (fun _ _ => rfl)) (hres _ _ _), hvars _ (fun _ _ => rfl), rfl, ?_, ?_⟩, ?_⟩
    · intro b off hp
      have hin : MemPlace.cell b off ∈ before := by rw [hps]; simpa using hp
      rw [hb.frozen (hlt _ hin)]
      exact hz b off hin
    · intro ha
      have := hn ha
      rw [hps] at this
      simpa using this
    · intro p hp _
      rw [hps]
      simpa using hp
end
end Go.Proofs.Ytjkhclijmcmdjaa
namespace Go.Proofs.Ytjkhclijmcmdjaa
open Go.ChangeShapes Go.WideShapes Go.ChangeAt Go.Deep Go.RowKit Go.Joins
set_option linter.unusedVariables false
theorem Try.cells3 : Try.prog.cellsOf 3 = 1 := by kernel_rfl
theorem Try.cells23 : Try.prog.cellsOf 23 = 2 := by kernel_rfl
theorem Try.cells24 : Try.prog.cellsOf 24 = 1 := by kernel_rfl
theorem Try.cells25 : Try.prog.cellsOf 25 = 1 := by kernel_rfl
theorem Try.cells27 : Try.prog.cellsOf 27 = 10 := by kernel_rfl
theorem Try.cells29 : Try.prog.cellsOf 29 = 2 := by kernel_rfl
theorem Try.cells62 : Try.prog.cellsOf 62 = 6 := by kernel_rfl
theorem add_at (b o i : Nat) : (⟨b, o, none⟩ : Addr).add i = ⟨b, o + i, none⟩ := by
  unfold Addr.add
  split
  · rename_i h; subst h; rfl
  · rfl
theorem spotless {w : World} {a : Addr} {v : Value} (h : w.cell? a = some v) : a = ⟨a.block, a.off, none⟩ := by
  obtain ⟨b, o, s⟩ := a
  cases s with
  | none => rfl
  | some s =>
    exfalso
    simp only [World.cell?] at h
    split at h <;> simp at h
theorem add_zero' (a : Addr) : a.add 0 = a := rfl
section
variable {H : Type} {enc : TypeId × Value → H} {w : World} {base : Nat} {spare : Nat → Bool} {held : Bool}
set_option maxRecDepth 100000 in
theorem trod_c1 {t : TypeId} {fuel : Nat} {cs : List Value} {x : DataW H × List MemPlace} (ht : Try.prog.underlying t = some (.int .i64)) (h : DataW.trod enc Try.prog w base spare held fuel t cs = some x) :
    ∃ n, cs = [.int .i64 n] := by
  obtain ⟨n, h1, _, h3⟩ := DataW.trod_int ht h
  exact ⟨n, h1⟩
set_option maxRecDepth 100000 in
theorem trod_span {fuel : Nat} {cs : List Value} {x : DataW H × List MemPlace} (h : DataW.trod enc Try.prog w base spare held fuel 23 cs = some x) :
    ∃ a b : Int, cs = [.int .i64 a, .int .i64 b] := by
  obtain ⟨xs, n, _, _, hl, hx, hf⟩ := DataW.trod_struct Try.underlying23 h
  rw [Try.cells23] at hl
  have hx : xs.length = 2 := hx
  match cs, hl, xs, hx with
  | [c0, c1], _, [x0, x1], _ =>
    have e := Try.cells3
    have f0 : DataW.trod enc Try.prog w base spare held n 3 (([c0, c1].drop 0).take (Try.prog.cellsOf 3)) = some x0 := hf 0 _ rfl
    have f1 : DataW.trod enc Try.prog w base spare held n 3 (([c0, c1].drop 1).take (Try.prog.cellsOf 3)) = some x1 := hf 1 _ rfl
    rw [e] at f0 f1
    obtain ⟨n0, h0⟩ := trod_c1 Try.underlying3 f0
    obtain ⟨n1, h1⟩ := trod_c1 Try.underlying3 f1
    simp at h0 h1
    exact ⟨n0, n1, by rw [h0, h1]⟩
theorem spotted {t m len : Nat} {a : Addr} {D : Nat → DataW H} {Pl : Nat → List MemPlace} {n : Nat} (hc0 : 0 < Try.prog.cellsOf t) (hle : len ≤ m)
    (hi : ∀ i, i < m → ∃ cs', w.cells? base (a.add (i * Try.prog.cellsOf t)) (Try.prog.cellsOf t) = some cs' ∧ DataW.trod enc Try.prog w base spare held n t cs' = some (D i, Pl i)) (h : 0 < len) : a = ⟨a.block, a.off, none⟩ := by
  obtain ⟨cs, hc, hd⟩ := hi 0 (by omega)
  obtain ⟨_, hcl, hat⟩ := World.cells?_some hc
  have h0 := hat 0 hc0
  rw [Nat.zero_mul, add_zero', add_zero'] at h0
  have : ∃ v, w.cell? a = some v := by
    cases cs with
    | nil => simp at hcl; omega
    | cons x r => exact ⟨x, h0⟩
  obtain ⟨v, hv⟩ := this
  exact spotless hv
set_option maxRecDepth 100000 in
theorem open_intsL {fuel : Nat} {v : Value} {x : DataW H × List MemPlace} (h : DataW.trod enc Try.prog w base spare held fuel 24 [v] = some x) :
    ∃ (a : Option Addr) (l : List Int) (cap : Nat), v = .slice a l.length cap ∧ l.length ≤ maxLen ∧ IsInts w a l := by
  rcases open_slice Try.underlying24 h with ⟨h1, _⟩ | ⟨a, len, cap, m, n, D, Pl, h1, _, hl, hm, hmm, _, hi⟩
  · simp only [List.cons.injEq, and_true] at h1
    exact ⟨none, [], 0, h1, by simp [maxLen], fun i hi => by simp at hi⟩
  · simp only [List.cons.injEq, and_true] at h1
    have hle : len ≤ m := by rw [hmm]; split <;> omega
    rw [Try.cells3] at hi
    have one : ∀ i, i < len → ∃ c : Int, w.cell? (a.add i) = some (.int .i64 c) := fun i hil => by
      obtain ⟨cs, hc, hd⟩ := hi i (by omega)
      obtain ⟨c, rfl⟩ := trod_c1 Try.underlying3 hd
      obtain ⟨_, hcl, hat⟩ := World.cells?_some hc
      have h0 := hat 0 (by decide)
      rw [Nat.mul_one, add_zero'] at h0
      exact ⟨c, h0⟩
    have hs : 0 < len → a = ⟨a.block, a.off, none⟩ := fun h => by
      obtain ⟨c, h0⟩ := one 0 h
      rw [add_zero'] at h0
      exact spotless h0
    have each : ∀ i, ∃ c : Int, i < len → a = ⟨a.block, a.off, none⟩ ∧ w.cell? ⟨a.block, a.off + i, none⟩ = some (.int .i64 c) := by
      intro i
      by_cases hil : i < len
      · have hs := hs (by omega)
        obtain ⟨c, h0⟩ := one i hil
        rw [hs, add_at] at h0
        exact ⟨c, fun _ => ⟨hs, h0⟩⟩
      · exact ⟨0, fun h => absurd h hil⟩
    obtain ⟨f, hf⟩ := Classical.axiomOfChoice each
    refine ⟨some a, (List.range len).map f, cap, by rw [h1]; simp, by simp; omega, fun i hi => ?_⟩
    have hi' : i < len := by simpa using hi
    obtain ⟨hs, h0⟩ := hf i hi'
    refine ⟨a.block, a.off, by rw [← hs], ?_⟩
    have : gi ((List.range len).map f) i = f i := by simp [gi, hi']
    rw [this]
    exact h0
set_option maxRecDepth 100000 in
theorem trod_fme {fuel : Nat} {cs : List Value} {x : DataW H × List MemPlace} (h : DataW.trod enc Try.prog w base spare held fuel 29 cs = some x) :
    ∃ (f : Fme) (a : Option Addr) (c : Nat), cs = [.slice a f.slots.length c, .int .i64 f.times] ∧ IsInts w a f.slots := by
  obtain ⟨xs, n, _, _, hl, hx, hf⟩ := DataW.trod_struct Try.underlying29 h
  rw [Try.cells29] at hl
  have hx : xs.length = 2 := hx
  match cs, hl, xs, hx with
  | [c0, c1], _, [x0, x1], _ =>
    have f0 : DataW.trod enc Try.prog w base spare held n 24 (([c0, c1].drop 0).take (Try.prog.cellsOf 24)) = some x0 := hf 0 _ rfl
    have f1 : DataW.trod enc Try.prog w base spare held n 3 (([c0, c1].drop 1).take (Try.prog.cellsOf 3)) = some x1 := hf 1 _ rfl
    rw [Try.cells24] at f0
    rw [Try.cells3] at f1
    obtain ⟨a, l, c, h0, _, hs⟩ := open_intsL f0
    obtain ⟨k, h1⟩ := trod_c1 Try.underlying3 f1
    simp at h0 h1
    exact ⟨⟨l, k⟩, a, c, by rw [h0, h1], hs⟩
set_option maxRecDepth 100000 in
theorem trod_dl {fuel : Nat} {cs : List Value} {x : DataW H × List MemPlace} (h : DataW.trod enc Try.prog w base spare held fuel 62 cs = some x) :
    ∃ (d : Dl) (a : Option Addr) (c : Nat), cs = [.int .i64 d.kind, .slice a d.forme.slots.length c, .int .i64 d.forme.times, .int .i64 d.view, .int .i64 d.many, .int .i64 d.pence] ∧ IsInts w a d.forme.slots := by
  obtain ⟨xs, n, _, _, hl, hx, hf⟩ := DataW.trod_struct Try.underlying62 h
  rw [Try.cells62] at hl
  have hx : xs.length = 5 := hx
  match cs, hl, xs, hx with
  | [c0, c1, c2, c3, c4, c5], _, [x0, x1, x2, x3, x4], _ =>
    have f0 : DataW.trod enc Try.prog w base spare held n 3 (([c0, c1, c2, c3, c4, c5].drop 0).take (Try.prog.cellsOf 3)) = some x0 := hf 0 _ rfl
    have f1 : DataW.trod enc Try.prog w base spare held n 29 (([c0, c1, c2, c3, c4, c5].drop 1).take (Try.prog.cellsOf 29)) = some x1 := hf 1 _ rfl
    have f2 : DataW.trod enc Try.prog w base spare held n 3 (([c0, c1, c2, c3, c4, c5].drop 3).take (Try.prog.cellsOf 3)) = some x2 := hf 2 _ rfl
    have f3 : DataW.trod enc Try.prog w base spare held n 3 (([c0, c1, c2, c3, c4, c5].drop 4).take (Try.prog.cellsOf 3)) = some x3 := hf 3 _ rfl
    have f4 : DataW.trod enc Try.prog w base spare held n 3 (([c0, c1, c2, c3, c4, c5].drop 5).take (Try.prog.cellsOf 3)) = some x4 := hf 4 _ rfl
    rw [Try.cells3] at f0
    rw [Try.cells29] at f1
    rw [Try.cells3] at f2
    rw [Try.cells3] at f3
    rw [Try.cells3] at f4
    obtain ⟨k, h0⟩ := trod_c1 Try.underlying3 f0
    obtain ⟨f, a, c, h1, hs⟩ := trod_fme f1
    obtain ⟨v, h2⟩ := trod_c1 Try.underlying3 f2
    obtain ⟨m, h3⟩ := trod_c1 Try.underlying3 f3
    obtain ⟨q, h4⟩ := trod_c1 Try.underlying3 f4
    simp at h0 h1 h2 h3 h4
    exact ⟨⟨k, f, v, m, q⟩, a, c, by rw [h0, h1.1, h1.2, h2, h3, h4], hs⟩
set_option maxRecDepth 100000 in
theorem open_fmesL {t : TypeId} {fuel : Nat} {v : Value} {x : DataW H × List MemPlace} (ht : Try.prog.underlying t = some (.slice 29)) (h : DataW.trod enc Try.prog w base spare held fuel t [v] = some x) :
    ∃ (a : Option Addr) (l : List Fme) (cap : Nat), v = .slice a l.length cap ∧ l.length ≤ cap ∧ cap ≤ maxLen ∧ IsFmes w a l := by
  rcases open_slice ht h with ⟨h1, _⟩ | ⟨a, len, cap, m, n, D, Pl, h1, _, hl, hm, hmm, _, hi⟩
  · simp only [List.cons.injEq, and_true] at h1
    exact ⟨none, [], 0, h1, by simp, by simp [maxLen], fun i hi => by simp at hi⟩
  · simp only [List.cons.injEq, and_true] at h1
    have hle : len ≤ m := by rw [hmm]; split <;> omega
    have hs := spotted (by rw [Try.cells29]; decide) hle hi
    have each : ∀ i, ∃ q : Fme × Option Addr × Nat, i < len → a = ⟨a.block, a.off, none⟩ ∧ w.cell? ⟨a.block, a.off + i * 2, none⟩ = some (.slice q.2.1 q.1.slots.length q.2.2) ∧ w.cell? ⟨a.block, a.off + i * 2 + 1, none⟩ = some (.int .i64 q.1.times) ∧ IsInts w q.2.1 q.1.slots := by
      intro i
      by_cases hil : i < len
      · have hs := hs (by omega)
        obtain ⟨cs, hc, hd⟩ := hi i (by omega)
        rw [Try.cells29] at hc
        obtain ⟨_, hcl, hat⟩ := World.cells?_some hc
        obtain ⟨f, ai, ci, rfl, hsl⟩ := trod_fme hd
        have h0 := hat 0 (by decide)
        have h1 := hat 1 (by decide)
        rw [hs, add_at, add_at] at h0 h1
        exact ⟨(f, ai, ci), fun _ => ⟨hs, h0, h1, hsl⟩⟩
      · exact ⟨(⟨[], 0⟩, none, 0), fun h => absurd h hil⟩
    obtain ⟨f, hf⟩ := Classical.axiomOfChoice each
    refine ⟨some a, (List.range len).map (fun i => (f i).1), cap, by rw [h1]; simp, by simpa using hl, hm, fun i hi => ?_⟩
    have hi' : i < len := by simpa using hi
    obtain ⟨hs, h0⟩ := hf i hi'
    refine ⟨a.block, a.off, by rw [← hs], (f i).2.1, (f i).2.2, ?_⟩
    have : gf ((List.range len).map (fun i => (f i).1)) i = (f i).1 := by simp [gf, hi']
    rw [this]
    exact h0
set_option maxRecDepth 100000 in
theorem open_dlsL {t : TypeId} {fuel : Nat} {v : Value} {x : DataW H × List MemPlace} (ht : Try.prog.underlying t = some (.slice 62)) (h : DataW.trod enc Try.prog w base spare held fuel t [v] = some x) :
    ∃ (a : Option Addr) (l : List Dl) (cap : Nat), v = .slice a l.length cap ∧ l.length ≤ cap ∧ IsDls w a l := by
  rcases open_slice ht h with ⟨h1, _⟩ | ⟨a, len, cap, m, n, D, Pl, h1, _, hl, hm, hmm, _, hi⟩
  · simp only [List.cons.injEq, and_true] at h1
    exact ⟨none, [], 0, h1, by simp, fun i hi => by simp at hi⟩
  · simp only [List.cons.injEq, and_true] at h1
    have hle : len ≤ m := by rw [hmm]; split <;> omega
    have hs := spotted (by rw [Try.cells62]; decide) hle hi
    have each : ∀ i, ∃ q : Dl × Option Addr × Nat, i < len → a = ⟨a.block, a.off, none⟩ ∧ w.cell? ⟨a.block, a.off + i * 6, none⟩ = some (.int .i64 q.1.kind) ∧ w.cell? ⟨a.block, a.off + i * 6 + 1, none⟩ = some (.slice q.2.1 q.1.forme.slots.length q.2.2) ∧ w.cell? ⟨a.block, a.off + i * 6 + 2, none⟩ = some (.int .i64 q.1.forme.times) ∧
        w.cell? ⟨a.block, a.off + i * 6 + 3, none⟩ = some (.int .i64 q.1.view) ∧ w.cell? ⟨a.block, a.off + i * 6 + 4, none⟩ = some (.int .i64 q.1.many) ∧ w.cell? ⟨a.block, a.off + i * 6 + 5, none⟩ = some (.int .i64 q.1.pence) ∧ IsInts w q.2.1 q.1.forme.slots := by
      intro i
      by_cases hil : i < len
      · have hs := hs (by omega)
        obtain ⟨cs, hc, hd⟩ := hi i (by omega)
        rw [Try.cells62] at hc
        obtain ⟨_, hcl, hat⟩ := World.cells?_some hc
        obtain ⟨f, ai, ci, rfl, hsl⟩ := trod_dl hd
        have h0 := hat 0 (by decide)
        have h1 := hat 1 (by decide)
        have h2 := hat 2 (by decide)
        have h3 := hat 3 (by decide)
        have h4 := hat 4 (by decide)
        have h5 := hat 5 (by decide)
        rw [hs, add_at, add_at] at h0 h1 h2 h3 h4 h5
        exact ⟨(f, ai, ci), fun _ => ⟨hs, h0, h1, h2, h3, h4, h5, hsl⟩⟩
      · exact ⟨(⟨0, ⟨[], 0⟩, 0, 0, 0⟩, none, 0), fun h => absurd h hil⟩
    obtain ⟨f, hf⟩ := Classical.axiomOfChoice each
    refine ⟨some a, (List.range len).map (fun i => (f i).1), cap, by rw [h1]; simp, by simpa using hl, fun i hi => ?_⟩
    have hi' : i < len := by simpa using hi
    obtain ⟨hs, h0⟩ := hf i hi'
    refine ⟨a.block, a.off, by rw [← hs], (f i).2.1, (f i).2.2, ?_⟩
    have : gd ((List.range len).map (fun i => (f i).1)) i = (f i).1 := by simp [gd, hi']
    rw [this]
    exact h0
set_option maxRecDepth 100000 in
theorem open_press {b0 : Nat} {v : Value} {d : DataW H} {q : List MemPlace} (hv : Value.okWide Try.prog w .any b0 27 v) (h : DataW.Trod enc Try.prog w base spare held 27 v d q) :
    ∃ (p : Prs) (A : PrsA), v = p.v A ∧ IsPrs w p A ∧ p.deals.length ≤ A.cd := by
  obtain ⟨cs, rfl, hsz⟩ := okWide_struct Try.underlying27 hv
  rw [Try.cells27] at hsz
  obtain ⟨fuel, hf⟩ := h
  obtain ⟨xs, n, _, _, hl, hx, hf⟩ := DataW.trod_struct Try.underlying27 hf
  have hx : xs.length = 9 := hx
  obtain ⟨l⟩ := cs
  have hsz : l.length = 10 := hsz
  match l, hsz, xs, hx with
  | [c0, c1, c2, c3, c4, c5, c6, c7, c8, c9], _, [x0, x1, x2, x3, x4, x5, x6, x7, x8], _ =>
    have f0 : DataW.trod enc Try.prog w base spare held n 3 (([c0, c1, c2, c3, c4, c5, c6, c7, c8, c9].drop 0).take (Try.prog.cellsOf 3)) = some x0 := hf 0 _ rfl
    have f1 : DataW.trod enc Try.prog w base spare held n 3 (([c0, c1, c2, c3, c4, c5, c6, c7, c8, c9].drop 1).take (Try.prog.cellsOf 3)) = some x1 := hf 1 _ rfl
    have f2 : DataW.trod enc Try.prog w base spare held n 23 (([c0, c1, c2, c3, c4, c5, c6, c7, c8, c9].drop 2).take (Try.prog.cellsOf 23)) = some x2 := hf 2 _ rfl
    have f3 : DataW.trod enc Try.prog w base spare held n 3 (([c0, c1, c2, c3, c4, c5, c6, c7, c8, c9].drop 4).take (Try.prog.cellsOf 3)) = some x3 := hf 3 _ rfl
    have f4 : DataW.trod enc Try.prog w base spare held n 3 (([c0, c1, c2, c3, c4, c5, c6, c7, c8, c9].drop 5).take (Try.prog.cellsOf 3)) = some x4 := hf 4 _ rfl
    have f5 : DataW.trod enc Try.prog w base spare held n 24 (([c0, c1, c2, c3, c4, c5, c6, c7, c8, c9].drop 6).take (Try.prog.cellsOf 24)) = some x5 := hf 5 _ rfl
    have f6 : DataW.trod enc Try.prog w base spare held n 3 (([c0, c1, c2, c3, c4, c5, c6, c7, c8, c9].drop 7).take (Try.prog.cellsOf 3)) = some x6 := hf 6 _ rfl
    have f7 : DataW.trod enc Try.prog w base spare held n 3 (([c0, c1, c2, c3, c4, c5, c6, c7, c8, c9].drop 8).take (Try.prog.cellsOf 3)) = some x7 := hf 7 _ rfl
    have f8 : DataW.trod enc Try.prog w base spare held n 25 (([c0, c1, c2, c3, c4, c5, c6, c7, c8, c9].drop 9).take (Try.prog.cellsOf 25)) = some x8 := hf 8 _ rfl
    rw [Try.cells3] at f0
    rw [Try.cells3] at f1
    rw [Try.cells23] at f2
    rw [Try.cells3] at f3
    rw [Try.cells3] at f4
    rw [Try.cells24] at f5
    rw [Try.cells3] at f6
    rw [Try.cells3] at f7
    rw [Try.cells25] at f8
    obtain ⟨room, h0⟩ := trod_c1 Try.underlying3 f0
    obtain ⟨formes, h1⟩ := trod_c1 Try.underlying3 f1
    obtain ⟨lo, hi, h2⟩ := trod_span f2
    obtain ⟨mk, h3⟩ := trod_c1 Try.underlying3 f3
    obtain ⟨sh, h4⟩ := trod_c1 Try.underlying3 f4
    obtain ⟨aw, lw, cw, h5, _, hw⟩ := open_intsL f5
    obtain ⟨pp, h6⟩ := trod_c1 Try.underlying3 f6
    obtain ⟨mo, h7⟩ := trod_c1 Try.underlying3 f7
    obtain ⟨ad, ld, cd, h8, hcd, hd⟩ := open_dlsL Try.underlying25 f8
    simp at h0 h1 h2 h3 h4 h5 h6 h7 h8
    obtain ⟨rfl, rfl⟩ := h2
    subst h0 h1 h3 h4 h5 h6 h7 h8
    exact ⟨⟨room, formes, lo, hi, mk, sh, lw, pp, mo, ld⟩, ⟨aw, cw, ad, cd⟩, rfl, ⟨hw, hd⟩, hcd⟩
set_option maxRecDepth 100000 in
theorem open_fme {b0 : Nat} {v : Value} {d : DataW H} {q : List MemPlace} (hv : Value.okWide Try.prog w .any b0 29 v) (h : DataW.Trod enc Try.prog w base spare held 29 v d q) :
    ∃ (f : Fme) (a : Option Addr) (c : Nat), v = f.v a c ∧ IsInts w a f.slots := by
  obtain ⟨cs, rfl, hsz⟩ := okWide_struct Try.underlying29 hv
  obtain ⟨fuel, hf⟩ := h
  have hf' : DataW.trod enc Try.prog w base spare held fuel 29 cs.toList = some (d, q) := hf
  obtain ⟨f, a, c, h1, h2⟩ := trod_fme hf'
  obtain ⟨l⟩ := cs
  have h1 : l = _ := h1
  subst h1
  exact ⟨f, a, c, rfl, h2⟩
set_option maxRecDepth 100000 in
theorem open_plan {v : Value} {d : DataW H} {q : List MemPlace} {b0 : Nat} (hv : Value.okWide Try.prog w .any b0 30 v) (h : DataW.Trod enc Try.prog w base spare held 30 v d q) :
    ∃ (a : Option Addr) (l : List Fme) (c : Nat), v = .slice a l.length c ∧ l.length ≤ c ∧ c ≤ maxLen ∧ IsFmes w a l := by
  obtain ⟨a0, l0, c0, rfl⟩ := okWide_slice Try.underlying30 hv
  obtain ⟨n0, h0⟩ := h
  have h0' : DataW.trod enc Try.prog w base spare held n0 30 [.slice a0 l0 c0] = some (d, q) := h0
  exact open_fmesL Try.underlying30 h0'
end
end Go.Proofs.Ytjkhclijmcmdjaa
