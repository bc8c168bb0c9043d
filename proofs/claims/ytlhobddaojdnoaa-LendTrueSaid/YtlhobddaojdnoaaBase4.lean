/- A function that leaves with marks among its deferred calls, and with calls that recover: a law over whatever program. -/
import Derived.Test.YtlhobddaojdnoaaBase3
namespace Go.Proofs.Ytlhobddaojdnoaa
open Go.RowKit
section
variable {P : Program}

abbrev markOf (k : Nat) : Deferred := { target := .collected k, args := #[] }
/-- Marks first, each shut; then what 'Leaves' says. -/
def LeavesX (P : Program) (fn : Func) (tmps : Array Value) (R : Ending → World → Prop) (ds : List Deferred) (u : FrameMode) : List Nat → World → Prop
  | [], w => Leaves P fn tmps R ds u w
  | k :: ks, w => u ≠ .run ∧ ∃ w', (Instr.takeDeferred k).run P w = .ok [] w' ∧ LeavesX P fn tmps R ds u ks w'
theorem leavesX_steps {fn : Func} {tmps : Array Value} {R : Ending → World → Prop} {ds : List Deferred} {u : FrameMode} : ∀ (ks : List Nat) (w : World) (fr : Frame) (cs : List Frame),
    fr.mode = u → fr.defers = ks.map markOf ++ ds → fr.tmps = tmps → P.funcs[fr.fn]? = some fn → fr.kind = .normal → LeavesX P fn tmps R ds u ks w →
    ∃ e w' fr', R e w' ∧ Comes P (lone fr cs w) (lone fr' cs w') e ∧ fr'.fn = fr.fn ∧ fr'.leaving P w' e
  | [], w, fr, cs, hu, hd, ht, hf, hk, h => leaves_steps ds u w fr cs hu (by simpa using hd) ht hf hk h
  | k :: ks, w, fr, cs, hu, hd, ht, hf, hk, h => by
    obtain ⟨hrun, w', htake, hrest⟩ := h
    have h1 := step_collected (cs := cs) (fr := fr) (hu ▸ hrun) (d := markOf k) (ds := ks.map markOf ++ ds) (by simpa using hd) rfl htake
    obtain ⟨e', w'', fr', hR', hs', hfn', hl'⟩ := leavesX_steps ks w' { fr with defers := [] ++ (ks.map markOf ++ ds) } cs hu rfl ht hf hk hrest
    exact ⟨e', w'', fr', hR', Comes.of_steps (.one h1) hs', hfn', hl'⟩
/-- How such a body ends. -/
def bodyPostX (P : Program) (fn : Func) (R : Ending → World → Prop) : Exit → Act → World → Prop
  | .normal, a, w | .ret, a, w => ∃ ks ds, a.defers = ks.map markOf ++ ds ∧ LeavesX P fn a.tmps R ds .returning ks w
  | .panic chain, a, w => ∃ ks ds, a.defers = ks.map markOf ++ ds ∧ LeavesX P fn a.tmps R ds (.panicking chain) ks w
  | .outgrown, _, w => R .outgrown w
  | _, _, _ => False
theorem calls_of_wp_x {f : FuncId} {fn : Func} {c : Code} {args : Array Value} {w : World} {R : Ending → World → Prop} (hf : P.funcs[f]? = some fn) (hb : fn.body = some c)
    (h : c.wp P (bodyPostX P fn R) { tmps := args ++ Array.replicate (fn.ntmps - args.size) undef, defers := [] } w) : Calls P f args w R := by
  intro cs
  let b : Frame := { (default : Frame) with fn := f, kind := .normal }
  have henter : Frame.enter P f args .normal = b.at { tmps := args ++ Array.replicate (fn.ntmps - args.size) undef, defers := [] } [.code c] := by
    simp [Frame.enter, Frame.at, hf, hb, b]
  obtain ⟨e, a', w', hq, harr⟩ := h b [] cs
  rw [← henter] at harr
  cases e with
  | normal =>
    obtain ⟨ks, ds, hd, hl⟩ := hq
    obtain ⟨e', w'', fr', hR, hs, hfn, hl⟩ := leavesX_steps ks w' { b.at a' [] with mode := .returning } cs rfl hd rfl hf rfl hl
    exact ⟨e', w'', fr', hR, Comes.of_steps (Steps.trans harr (.one step_end)) hs, hfn, hl⟩
  | ret =>
    obtain ⟨ks, ds, hd, hl⟩ := hq
    obtain ⟨todo, hs₀⟩ := harr
    obtain ⟨e', w'', fr', hR, hs, hfn, hl⟩ := leavesX_steps ks w' { b.at a' todo with mode := .returning } cs rfl hd rfl hf rfl hl
    exact ⟨e', w'', fr', hR, Comes.of_steps hs₀ hs, hfn, hl⟩
  | panic chain =>
    obtain ⟨ks, ds, hd, hl⟩ := hq
    obtain ⟨todo, hs₀⟩ := harr
    obtain ⟨e', w'', fr', hR, hs, hfn, hl⟩ := leavesX_steps ks w' { b.at a' todo with mode := .panicking chain } cs rfl hd rfl hf rfl hl
    exact ⟨e', w'', fr', hR, Comes.of_steps hs₀ hs, hfn, hl⟩
  | exit id => exact hq.elim
  | goto l => exact hq.elim
  | outgrown =>
    exact ⟨.outgrown, w', b, hq, harr.resolve_left (by simp [b]), rfl, trivial⟩
end
end Go.Proofs.Ytlhobddaojdnoaa
