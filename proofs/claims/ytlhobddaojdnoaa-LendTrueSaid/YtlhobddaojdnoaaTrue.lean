/- pairworkslaw11.LendTrue returns true, and its argument reads as before. No conditions. -/
import Derived.Test.YtlhobddaojdnoaaRows
import Derived.Test.YtlhobddaojdnoaaR21
import Derived.Test.YtlhobddaojdnoaaOpen
import Derived.OpenShut
namespace Go.Proofs.Ytlhobddaojdnoaa
open Go.ChangeShapes Go.WideShapes Go.ChangeAt Go.RowKit
set_option linter.unusedVariables false

theorem Try.own : ownKnob Try.prog.godebug = none := by kernel_rfl

set_option maxHeartbeats 400000 in
theorem lawTrue_trod {H : Type} {enc : TypeId × Value → H} {W : World} {a0 : Option Addr} {l0 c0 : Nat} {d0 : DataW H} {p : List MemPlace} (h0 : DataW.Trod enc Try.prog W 0 (fun _ => true) true 42 (.slice a0 l0 c0) d0 p) :
    Calls Try.prog 6 #[.slice a0 l0 c0] W fun e w' => e = .returned (.bool true) ∧ Below W.heap.size W w' := by
  obtain ⟨n0, h0⟩ := h0
  have h0' : DataW.trod enc Try.prog W 0 (fun _ => true) true n0 42 [.slice a0 l0 c0] = some (d0, p) := h0
  rcases open_ints Try.underlying42 Try.underlying100 (by kernel_rfl) h0' with ⟨h1, _⟩ | ⟨a, len, cap, zs, h1, _, hl, hm, hz, _, hc, hwf⟩
  · obtain ⟨rfl, rfl, rfl⟩ : a0 = none ∧ l0 = 0 ∧ c0 = 0 := by simpa using h1
    exact lawTrue_n
  · obtain ⟨rfl, rfl, rfl⟩ : a0 = some a ∧ len = l0 ∧ cap = c0 := by
      have : a0 = some a ∧ l0 = len ∧ c0 = cap := by simpa using h1
      exact ⟨this.1, this.2.1.symm, this.2.2.symm⟩
    clear h0 h0' h1
    by_cases hlen : len = 0
    · subst hlen
      exact lawTrue_n
    · have hle : len ≤ zs.length := by rw [hz]; split <;> omega
      have hs := spotless (hc 0 (by omega))
      rw [add_zero'] at hs
      have e : (zs.take len).length = len := by simp [hle]
      have hiw : IsWords W a.block a.off (zs.take len) := fun i hi => by
        have hi' : i < len := by rw [e] at hi; exact hi
        have := hc i (by omega)
        rw [hs, add_at] at this
        rw [this]
        simp [gi, hi']
      have := lawTrue_y (cap := cap) hiw (by omega) (by rw [e]; unfold maxLen at hm; omega) (fun x hx => by
        have := hwf x (List.mem_of_mem_take hx)
        simpa [Lit.wf, IntKind.min, IntKind.max, IntKind.signed, IntKind.bits] using this)
      rw [e] at this
      rw [hs]
      exact this
set_option maxRecDepth 100000 in
theorem lendTrue_lifted (os : Os) (started : os.Started) (H : Type) (enc : TypeId × Value → H) :
    ReturnsInHanded {} Try.checked os 6 .any (Rows.lendTrueSpec.pre6 enc Try.prog Try.f6 Rows.lendTrueRow.domain false) (Rows.lendTrueSpec.post enc Try.prog Try.f6 false true false false) := by
  refine returnsInHanded_of_change (C := Try.checked) Try.own started (by kernel_rfl) Try.func6
    (ChangeSpec.witness6 (enc := enc) (C := Try.checked) false ⟨#[], #[.slice none 0 0], []⟩ 8 (by kernel_rfl) (by kernel_rfl) (by kernel_rfl) (by kernel_rfl)) ?_
  intro W base args ds gs before hval0 hW hcnd _
  have hval : ∀ (j : Nat) t v, Try.f6.params[j]? = some t → args[j]? = some v → Value.okWide Try.prog W .any base t v := hval0
  have hW' := hW
  obtain ⟨p, q, hA0, hV, rfl, hfz, hnd⟩ := hW
  have hA : DataW.TrodAll enc Try.prog W 0 (fun _ => true) true Try.f6.params.toList args.toList ds p := hA0
  rw [Try.params6] at hA hval
  obtain ⟨v0, d0, rfl, rfl, h0⟩ := trodAll_one hA
  obtain ⟨rfl, rfl⟩ := trodVars_none hV
  clear hA0 hval0
  simp only [List.append_nil] at hW'
  obtain ⟨a0, l0, c0, rfl⟩ := okWide_slice Try.underlying42 (hval 0 42 v0 rfl rfl)
  have hrun := lawTrue_trod h0
  refine hrun.mono fun e W' ⟨he, hg⟩ => ?_
  subst he
  have hlt : ∀ x ∈ p, x.block < W.heap.size := fun x hx => hW'.lt x hx
  exact ⟨_, rfl, post_of_below (pa := p) (pv := []) hW' (fun _ _ _ => (trodAll_cons_mk (shut_bool Try.underlying4 _) trodAll_mk0)) (fun sp hsp => trodAll_mk1 (WideElems.Trod_stays Try.laidOut (by kernel_rfl) (of_decide_eq_true (by kernel_rfl)) h0 (fun x hx => hg.same (hlt x hx)) hsp)) (fun _ _ => rfl) (by simp)
    hg (ok_one (by kernel_rfl) rfl (okWide_bool_mk Try.underlying4 _))⟩

theorem lendTrue_over : Rows.lendTrueRow.holds Try.pinned (OpenSpec.ofChange Rows.lendTrueSpec) :=
  OpenClaim.holds_of_wide 6 Try.f6 rfl rfl rfl rfl rfl rfl rfl ⟨rfl, rfl, rfl, rfl, rfl⟩ rfl rfl rfl rfl rfl (by kernel_rfl) Try.func6 (by kernel_rfl)
    (of_decide_eq_true (by kernel_rfl)) (by unfold Func.isWrapper; first | (rw [if_pos (by decide +kernel)]; kernel_rfl) | (rw [if_neg (by decide +kernel)]; exact ⟨rfl, rfl⟩))
    (fun os started H enc _ => lendTrue_lifted os started H enc)

theorem lendTrue_holds : Rows.LendTrueSaid := lendTrue_over
#print axioms lendTrue_holds
end Go.Proofs.Ytlhobddaojdnoaa
