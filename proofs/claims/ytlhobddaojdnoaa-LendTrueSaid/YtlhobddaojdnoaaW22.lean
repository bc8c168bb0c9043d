/- The values of a map, one after the other. -/
import Derived.Test.YtlhobddaojdnoaaW21
import Derived.Test.YtlhobddaojdnoaaBase3
namespace Go.Proofs.Ytlhobddaojdnoaa
open Go.RowKit

abbrev encN (p : List Int × Int) : Array Value := #[.int .i64 p.2]
set_option maxRecDepth 100000 in
set_option maxHeartbeats 400000 in
theorem values_iter {n : Nat} {W : World} {b bx : Nat} {M0 : List (List Int × Int)} (hM : StMap n W b M0) (hx : W.cell? ⟨bx, 0, none⟩ = some (.map (some b))) (M : Nat → Prop) (hMb : ¬ M b) (hMr : ¬ M W.heap.size) :
    IterOkL Try.prog 86 #[.pointer (some ⟨bx, 0, none⟩)] (fun _ v => ∃ p ∈ M0, v = encN p) (fun D => ∃ L : List (List Int × Int), D = L.map encN ∧ ∀ p, p ∈ M0 ↔ p ∈ L) (fun k => k = W.heap.size) M W := by
  intro l J Jx hJ hJx hY h0
  obtain ⟨w3, hrng, hR3, hg3, hs3⟩ := hM.raw.range Try.underlying69
  have hb3 : Below W.heap.size W w3 := (Below.refl _ W).grown hg3 (Nat.le_refl _) (by simp)
  have hJ3 := hJ [] _ _ h0 (Same.of_below _ hb3)
  have hlx := lt_of_cell hx
  have hlb := hM.lt
  refine callsIn_wide.2 ?_
  go_enter Try.func86, Try.ntmps86
  go_wp2_with fail
  go_loopw [4] (fun _ wr => ∃ (D Td : List (List Int × Int)), Same (fun k => k = W.heap.size ∨ M k) W wr ∧ J (D.map encN) wr ∧ Rng Try.prog 78 wr b W.heap.size (M0.map encP) (Td.map encP) ∧ (∀ p, p ∈ M0 ↔ p ∈ D ∨ p ∈ Td)) (fun _ wr => rngLeft wr b W.heap.size)
  case atStart => exact ⟨[], M0, Same.of_below _ hb3, hJ3, hR3, by simp⟩
  case round =>
    obtain ⟨D, Td, hSr, hJr, hRg, hmem⟩ := hrel
    have hHM := Lib.hid hmem
    clear hmem hrng
    rcases hRg.next 0 with ⟨htd, hnx⟩ | ⟨kx, vx, l1, l2, w10, htd, hkm, hnx, hR10, hg10, hs10, hent⟩
    · have htd' : Td = [] := by simpa using htd
      subst htd'
      clear htd
      go_wp2
      refine bodyPost_end (results_none rfl _ _ _) rfl ?_
      exact ⟨⟨_, rfl⟩, .inl ⟨_, ⟨D, rfl, fun p => by rw [hHM.out]; simp⟩, hJr⟩⟩
    · obtain ⟨T1, ⟨s, m⟩, T2, rfl, he, hl12⟩ := map_split htd
      have hsn : stV s = kx ∧ Value.int .i64 m = vx := by simpa [encP] using he
      obtain ⟨rfl, rfl⟩ := hsn
      have hsM : (s, m) ∈ M0 := (hHM.out (s, m)).2 (.inr (by simp))
      rw [← hl12] at hR10
      have hs10' := Lib.hid hs10
      clear he hl12 htd hkm hs10
      have hg10' : Same (fun k => k = W.heap.size) wr w10 := (Same.refl _ wr).grown hg10 (by rintro q ⟨⟩; exact .inl rfl)
      have hJ10 := hJ _ _ _ hJr hg10'
      obtain ⟨fn, tmps, assign, body, hy, hR⟩ := hY (D.map encN) (encN (s, m)) ⟨_, hsM, rfl⟩ w10 hJ10
      have hy' : (Instr.yield l #[.int .i64 m]).run Try.prog w10 = .ok (.round l fn tmps assign body) w10 := hy
      have HR := Lib.hid hR
      clear hy hR
      refine (wpIn_wide (n := 0)).1 ?_
      gi_wp2_with fail
      refine ⟨rfl, HR.out.mono ?_⟩
      rintro e W3 (⟨rfl, hJ4, hk4⟩ | ⟨rfl, hJx4, hk4⟩)
      · have hS4 : Same (fun k => k = W.heap.size ∨ M k) W W3 := (hSr.trans (hg10'.mono (fun _ _ h => .inl h))).trans (hk4.mono (fun _ _ h => .inr h))
        have hR4 : Rng Try.prog 78 W3 b W.heap.size (M0.map encP) ((T1 ++ T2).map encP) := hR10.kept (hk4.block _ hR10.raw.lt hMb) (hk4.block _ hR10.lt hMr)
        gi_wp2_with fail
        go_roundw
        case rel => exact ⟨D ++ [(s, m)], T1 ++ T2, hS4, by rw [List.map_append]; exact hJ4, hR4, mem_step hHM.out⟩
        case measure =>
          rw [hR4.left, hRg.left]
          simp
      · gi_wp2_with fail
        refine bodyPost_ret (results_none rfl _ _ _) rfl ?_
        exact ⟨⟨_, rfl⟩, .inr ⟨_, _, ⟨_, hsM, rfl⟩, hJx4⟩⟩
end Go.Proofs.Ytlhobddaojdnoaa
