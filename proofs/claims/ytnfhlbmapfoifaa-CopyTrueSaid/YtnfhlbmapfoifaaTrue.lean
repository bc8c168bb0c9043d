/- pairworkslaw08.CopyTrue returns true, and its arguments read as before. No conditions. -/
import Derived.Test.YtnfhlbmapfoifaaC16
import Derived.Test.YtnfhlbmapfoifaaRows
import Derived.OpenShut
namespace Go.Proofs.Ytnfhlbmapfoifaa
open Go.ChangeShapes Go.WideShapes Go.ChangeAt Go.Deep Go.RowKit Go.Joins
set_option linter.unusedVariables false

theorem Try.own : ownKnob Try.prog.godebug = none := by kernel_rfl

set_option maxRecDepth 100000 in
set_option maxHeartbeats 400000 in
theorem copyTrue_trod {H : Type} {enc : TypeId × Value → H} {W : World} {ch : Bool} {a0 : Option Addr} {l0 c0 : Nat} {d0 : DataW H} {p : List MemPlace} (h0 : DataW.Trod enc Try.prog W 0 (fun _ => true) true 64 (.slice a0 l0 c0) d0 p) :
    Calls Try.prog 10 #[.bool ch, .slice a0 l0 c0] W fun e w' => e = .returned (.bool true) ∧ Below W.heap.size W w' := by
  obtain ⟨n0, h0⟩ := h0
  have h0' : DataW.trod enc Try.prog W 0 (fun _ => true) true n0 64 [.slice a0 l0 c0] = some (d0, p) := h0
  rcases open_ints Try.underlying64 Try.underlying112 (by kernel_rfl) h0' with ⟨h1, _⟩ | ⟨a, len, cap, zs, h1, _, hl, hm, hz, _, hc, hwf⟩
  · obtain ⟨rfl, rfl, rfl⟩ : a0 = none ∧ l0 = 0 ∧ c0 = 0 := by simpa using h1
    exact copyTrue_no
  · obtain ⟨rfl, rfl, rfl⟩ : a0 = some a ∧ len = l0 ∧ cap = c0 := by
      have : a0 = some a ∧ l0 = len ∧ c0 = cap := by simpa using h1
      exact ⟨this.1, this.2.1.symm, this.2.2.symm⟩
    clear h0 h0' h1
    by_cases hlen : len = 0
    · subst hlen
      exact copyTrue_no
    · have hle : len ≤ zs.length := by rw [hz]; split <;> omega
      have hs := spotless (hc 0 (by omega))
      rw [add_zero'] at hs
      have e : (zs.take len).length = len := by simp [hle]
      have hiw : IsWords W a.block a.off (zs.take len) := fun i hi => by
        have hi' : i < len := by rw [e] at hi; exact hi
        have := hc i (by omega)
        rw [hs, add_at] at this
        rw [this]
        simp [gi, hi']
      have := copyTrue_any (ch := ch) (cap := cap) hiw (by omega) (by rw [e]; unfold maxLen at hm; omega) (fun x hx => by
        have := hwf x (List.mem_of_mem_take hx)
        simpa [Lit.wf, IntKind.min, IntKind.max, IntKind.signed, IntKind.bits] using this)
      rw [e] at this
      rw [hs]
      exact this
set_option maxRecDepth 100000 in
theorem copyTrue_lifted (os : Os) (started : os.Started) (H : Type) (enc : TypeId × Value → H) :
    ReturnsInHanded {} Try.checked os 10 .any (Rows.copyTrueSpec.pre6 enc Try.prog Try.f10 Rows.copyTrueRow.domain false) (Rows.copyTrueSpec.post enc Try.prog Try.f10 false true false false) := by
  refine returnsInHanded_of_change (C := Try.checked) Try.own started (by kernel_rfl) Try.func10
    (ChangeSpec.witness6 (enc := enc) (C := Try.checked) false ⟨#[], #[.bool false, .slice none 0 0], []⟩ 8 (by kernel_rfl) (by kernel_rfl) (by kernel_rfl) (by kernel_rfl)) ?_
  intro W base args ds gs before hval0 hW hcnd _
  have hval : ∀ (j : Nat) t v, Try.f10.params[j]? = some t → args[j]? = some v → Value.okWide Try.prog W .any base t v := hval0
  have hW' := hW
  obtain ⟨p, q, hA0, hV, rfl, hfz, hnd⟩ := hW
  have hA : DataW.TrodAll enc Try.prog W 0 (fun _ => true) true Try.f10.params.toList args.toList ds p := hA0
  rw [Try.params10] at hA hval
  obtain ⟨v0, v1, d0, d1, p0, p1, rfl, rfl, rfl, h0, h1⟩ := trodAll_two hA
  obtain ⟨rfl, rfl⟩ := trodVars_none hV
  clear hA0 hval0
  obtain ⟨ch, rfl, rfl, rfl⟩ := open_bool Try.underlying4 (hval 0 4 v0 rfl rfl) h0
  obtain ⟨a0, l0, c0, rfl⟩ := okWide_slice Try.underlying64 (hval 1 64 v1 rfl rfl)
  simp only [List.nil_append, List.append_nil] at hW'
  refine (copyTrue_trod (ch := ch) h1).mono fun e W' ⟨he, hg⟩ => ?_
  subst he
  have hlt : ∀ x ∈ p1, x.block < W.heap.size := fun x hx => hW'.lt x hx
  exact ⟨_, rfl, post_of_below (pa := p1) (pv := []) hW' (fun _ _ _ => (trodAll_cons_mk (shut_bool Try.underlying4 _) trodAll_mk0)) (fun sp hsp => by
      have := trodAll_mk2 (shut_bool (enc := enc) (P := Try.prog) (w := W') (base := 0) (spare := sp) (held := true) Try.underlying4 ch) (WideElems.Trod_stays Try.laidOut (by kernel_rfl) (of_decide_eq_true (by kernel_rfl)) h1 (fun x hx => hg.same (hlt x hx)) (fun x hx => hsp x hx))
      simp only [List.nil_append] at this
      exact this) (fun _ _ => rfl) (by simp)
    hg (ok_one (by kernel_rfl) rfl (okWide_bool_mk Try.underlying4 _))⟩

theorem copyTrue_over : Rows.copyTrueRow.holds Try.pinned (OpenSpec.ofChange Rows.copyTrueSpec) :=
  OpenClaim.holds_of_wide 10 Try.f10 rfl rfl rfl rfl rfl rfl rfl ⟨rfl, rfl, rfl, rfl, rfl⟩ rfl rfl rfl rfl rfl (by kernel_rfl) Try.func10 (by kernel_rfl)
    (of_decide_eq_true (by kernel_rfl)) (by unfold Func.isWrapper; first | (rw [if_pos (by decide +kernel)]; kernel_rfl) | (rw [if_neg (by decide +kernel)]; exact ⟨rfl, rfl⟩))
    (fun os started H enc _ => copyTrue_lifted os started H enc)

theorem copyTrue_holds : Rows.CopyTrueSaid := copyTrue_over
#print axioms copyTrue_holds
end Go.Proofs.Ytnfhlbmapfoifaa
