/- Whether it is a way. Lists that are cloned. -/
import Derived.Test.YtnfhlbmapfoifaaW7
import Derived.Test.YtnfhlbmapfoifaaBaseD
import Derived.Test.YtnfhlbmapfoifaaBase6
namespace Go.Proofs.Ytnfhlbmapfoifaa
open Go.RowKit
set_option linter.unusedVariables false

/-- What the closure that tests a loss has captured, and what it needs. -/
structure IsW (w : World) (bpb bw : Nat) (p : Prs) (a : Option Addr) (cap bp g : Nat) (wl : List Int) (aw : Option Addr) (cw : Nat) : Prop where
  hp : w.heap[bpb]? = some (.cells #[.pointer (some ⟨bp, 0, none⟩)] 79 (0, 0))
  hw : w.heap[bw]? = some (.cells #[.slice aw wl.length cw] 76 (0, 0))
  hP : PileP w bp p a cap g
  hi : IsInts w aw wl
theorem IsW.mono {w w' : World} {bpb bw : Nat} {p : Prs} {a : Option Addr} {cap bp g : Nat} {wl : List Int} {aw : Option Addr} {cw : Nat} (h : IsW w bpb bw p a cap bp g wl aw cw) (hb : Below w.heap.size w w') : IsW w' bpb bw p a cap bp g wl aw cw :=
  ⟨(hb.block _ (heap_lt h.hp)).trans h.hp, (hb.block _ (heap_lt h.hw)).trans h.hw, h.hP.mono hb, h.hi.mono hb⟩
set_option maxRecDepth 100000 in
set_option maxHeartbeats 1000000 in
theorem loss_any {p : Prs} {a : Option Addr} {cap bp g bpb bw : Nat} {wl : List Int} {aw : Option Addr} {cw : Nat} {w : World} (hv : p.valid = true) (hl : wl.length = p.cards.length) (hr : roundB wl = false) (what : Bool) (h : IsW w bpb bw p a cap bp g wl aw cw) :
    Calls Try.prog 112 #[lossV p what, .pointer (some ⟨bpb, 0, none⟩), .pointer (some ⟨bw, 0, none⟩)] w fun e w' => e = .returned (.bool (!canB p wl what)) ∧ Below w.heap.size w w' := by
  obtain ⟨W1, hW1⟩ : ∃ W1 : World, W1 = w.alloc (.cells #[.func (.func (ofF what)) #[] #[], .int .i64 (p.by_ what).1, .int .i64 (p.by_ what).2] 120) := ⟨_, rfl⟩
  have hb1 : Below w.heap.size w W1 := by rw [hW1]; exact (Below.refl _ w).alloc (Nat.le_refl _) _
  have q0 : W1.heap[w.heap.size]? = some (.cells #[.func (.func (ofF what)) #[] #[], .int .i64 (p.by_ what).1, .int .i64 (p.by_ what).2] 120 (0, 0)) := by rw [hW1]; exact World.alloc_heap_new _ _
  have h1 := h.mono hb1
  have hcall := can_any (cw := cw) hv hl hr what h1.hP h1.hi
  have k0 : W1.cell? ⟨bpb, 0, none⟩ = some (.pointer (some ⟨bp, 0, none⟩)) := by rw [cell_of_heap h1.hp]; rfl
  have k1 : W1.cell? ⟨bw, 0, none⟩ = some (.slice aw wl.length cw) := by rw [cell_of_heap h1.hw]; rfl
  have k2 : W1.cell? ⟨w.heap.size, 0, none⟩ = some (.func (.func (ofF what)) #[] #[]) := by rw [cell_of_heap q0]; rfl
  have k3 : W1.cell? ⟨w.heap.size, 1, none⟩ = some (.int .i64 (p.by_ what).1) := by rw [cell_of_heap q0]; rfl
  have k4 : W1.cell? ⟨w.heap.size, 2, none⟩ = some (.int .i64 (p.by_ what).2) := by rw [cell_of_heap q0]; rfl
  have HW1 := Lib.hid hW1
  have HB1 := Lib.hid hb1
  clear hW1 hb1 q0 h h1 hl hr hv
  go_enter Try.func112, Try.ntmps112
  go_upto_region 1 with fail
  have hW1 := HW1.out
  rw [← hW1]
  clear hW1
  go_wp2_with fail
  (with_reducible refine hcall.mono ?_)
  clear hcall
  rintro e w5 ⟨rfl, hb5⟩
  go_wp2_with fail
  go_ret
  exact ⟨rfl, HB1.out.trans (hb5.mono HB1.out.size)⟩
/-- The first loss that cannot be; -1: each one can. -/
def lossI (p : Prs) (wl : List Int) : Int := if canB p wl false = false then 0 else if canB p wl true = false then 1 else -1
set_option maxRecDepth 100000 in
set_option maxHeartbeats 1000000 in
theorem indexLoss_any {p : Prs} {a : Option Addr} {cap bp g bpb bw : Nat} {wl : List Int} {aw : Option Addr} {cw : Nat} {w : World} (hv : p.valid = true) (hl : wl.length = p.cards.length) (hr : roundB wl = false) (h : IsW w bpb bw p a cap bp g wl aw cw) :
    Calls Try.prog 118 #[.slice (some ⟨g, 0, none⟩) 2 2, .func (.func 112) #[] #[.pointer (some ⟨bpb, 0, none⟩), .pointer (some ⟨bw, 0, none⟩)]] w fun e w' => e = .returned (.int .i64 (lossI p wl)) ∧ Below w.heap.size w w' := by
  have HV := Lib.hid (And.intro hv (And.intro hl hr))
  have HH : Hid (∀ v, Below w.heap.size w v → IsW v bpb bw p a cap bp g wl aw cw) := fun v hb => h.mono hb
  clear h hl hr hv
  go_enter Try.func118, Try.ntmps118
  go_wp2
  go_loopw [4, 5, 8] (fun _ _ i wr => ∃ k : Nat, k ≤ 2 ∧ i = .int .i64 k ∧ Hid ((0 < k → canB p wl false = true) ∧ (1 < k → canB p wl true = true)) ∧ Below w.heap.size w wr) (fun _ _ i _ => 2 - (intOf i).toNat)
  case atStart => exact ⟨0, by omega, rfl, ⟨fun h => by omega, fun h => by omega⟩, Below.refl _ _⟩
  case round =>
    obtain ⟨k, hk, rfl, HK, hbr⟩ := hrel
    have hh := HH.out wr hbr
    obtain ⟨l0, l1, l2, l3, l4, l5⟩ := hh.hP.lcells
    have hk3 : k = 0 ∨ k = 1 ∨ k = 2 := by omega
    rcases hk3 with rfl | rfl | rfl
    · have hcall := loss_any HV.out.1 HV.out.2.1 HV.out.2.2 false hh
      clear hh
      go_wp2_with fail
      refine hcall.mono ?_
      clear hcall
      rintro e w5 ⟨rfl, hb5⟩
      have hB5 := hbr.trans (hb5.mono hbr.size)
      cases hc : canB p wl false
      · have HC := Lib.hid hc
        clear hc
        go_wp2_with fail
        go_ret
        exact ⟨ret_int (by unfold lossI; rw [HC.out]; rfl), hB5⟩
      · have HC := Lib.hid hc
        clear hc
        go_wp2_with fail
        go_roundw
        case rel => exact ⟨1, by omega, by go_num, ⟨fun _ => HC.out, fun h => by omega⟩, hB5⟩
        case measure => simp [intOf]
    · have hcall := loss_any HV.out.1 HV.out.2.1 HV.out.2.2 true hh
      clear hh
      go_wp2_with fail
      refine hcall.mono ?_
      clear hcall
      rintro e w5 ⟨rfl, hb5⟩
      have hB5 := hbr.trans (hb5.mono hbr.size)
      cases hc : canB p wl true
      · have HC := Lib.hid hc
        clear hc
        go_wp2_with fail
        go_ret
        exact ⟨ret_int (by unfold lossI; rw [HC.out, HK.out.1 (by omega)]; rfl), hB5⟩
      · have HC := Lib.hid hc
        clear hc
        go_wp2_with fail
        go_roundw
        case rel => exact ⟨2, by omega, by go_num, ⟨fun _ => HK.out.1 (by omega), fun h => HC.out⟩, hB5⟩
        case measure => simp [intOf]
    · clear hh
      go_wp2_with fail
      go_ret
      exact ⟨ret_int (by unfold lossI; rw [HK.out.1 (by omega), HK.out.2 (by omega)]; rfl), hbr⟩
theorem containsLoss_any {p : Prs} {a : Option Addr} {cap bp g bpb bw : Nat} {wl : List Int} {aw : Option Addr} {cw : Nat} {w : World} (hv : p.valid = true) (hl : wl.length = p.cards.length) (hr : roundB wl = false) (h : IsW w bpb bw p a cap bp g wl aw cw) :
    Calls Try.prog 111 #[.slice (some ⟨g, 0, none⟩) 2 2, .func (.func 112) #[] #[.pointer (some ⟨bpb, 0, none⟩), .pointer (some ⟨bw, 0, none⟩)]] w fun e w' => e = .returned (.bool (!(canB p wl false && canB p wl true))) ∧ Below w.heap.size w w' := by
  have hcall := indexLoss_any hv hl hr h
  have HG : Hid (decide (0 ≤ lossI p wl) = !(canB p wl false && canB p wl true)) := by
    unfold Hid lossI
    cases canB p wl false <;> cases canB p wl true <;> rfl
  clear h hv hl hr
  go_enter Try.func111, Try.ntmps111
  go_wp2_with fail
  (with_reducible refine hcall.mono ?_)
  clear hcall
  rintro e w2 ⟨rfl, hb2⟩
  go_wp2
  go_ret
  exact ⟨ret_bool HG.out, hb2⟩
theorem marksB_true {p : Prs} {wl : List Int} (h : ∀ c, c < wl.length → (decide (gi wl c = -1) || markedB p c (gi wl c).toNat) = true) : marksB p wl = true :=
  List.all_eq_true.2 fun c hc => h c (List.mem_range.1 hc)
theorem marksB_false {p : Prs} {wl : List Int} {c : Nat} (hc : c < wl.length) (h1 : gi wl c ≠ -1) (h2 : markedB p c (gi wl c).toNat = false) : marksB p wl = false :=
  List.all_eq_false.2 ⟨c, List.mem_range.2 hc, by simp [h1, h2]⟩
set_option maxRecDepth 100000 in
set_option maxHeartbeats 2000000 in
theorem isWay_any {p : Prs} {a : Option Addr} {cap bp g : Nat} {wl : List Int} {aw : Option Addr} {cw : Nat} {w : World} (hv : p.valid = true) (hw : GoodW p.cards.length wl) (hP : PileP w bp p a cap g) (hi : IsInts w aw wl) :
    Calls Try.prog 82 #[.pointer (some ⟨bp, 0, none⟩), .slice aw wl.length cw] w fun e w' => e = .returned (.bool (isWayB p wl)) ∧ Below w.heap.size w w' := by
  have hmf : ∀ (fn : Fn) (first cap : Array Value) (w : World), (Instr.makeFunc fn first cap).run Try.prog w = .ok (.func fn first cap) w := fun _ _ _ _ => rfl
  have hn5 := (valid_parts hv).1
  have hll : wl.length ≤ 5 := by rw [hw.1]; exact hn5
  obtain ⟨W1, hW1⟩ : ∃ W1 : World, W1 = (w.alloc (.cells #[.pointer (some ⟨bp, 0, none⟩)] 79)).alloc (.cells #[.slice aw wl.length cw] 76) := ⟨_, rfl⟩
  have hb1 : Below w.heap.size w W1 := by rw [hW1]; exact ((Below.refl _ w).alloc (Nat.le_refl _) _).alloc (by simp) _
  have q0 : W1.heap[w.heap.size]? = some (.cells #[.pointer (some ⟨bp, 0, none⟩)] 79 (0, 0)) := by rw [hW1]; exact (Below.heap_alloc _ _ _ (by simp)).trans (World.alloc_heap_new w _)
  have q1 : W1.heap[w.heap.size + 1]? = some (.cells #[.slice aw wl.length cw] 76 (0, 0)) := by
    rw [hW1]
    have := World.alloc_heap_new (w.alloc (.cells #[.pointer (some ⟨bp, 0, none⟩)] 79)) (.cells #[.slice aw wl.length cw] 76)
    rwa [World.size_alloc] at this
  have HH : Hid (∀ v, Below W1.heap.size W1 v → IsW v w.heap.size (w.heap.size + 1) p a cap bp g wl aw cw) := fun v hb => IsW.mono ⟨q0, q1, hP.mono hb1, hi.mono hb1⟩ hb
  have HB1 := Lib.hid hb1
  have HW1 := Lib.hid hW1
  have HV := Lib.hid (And.intro hv hw)
  clear hW1 hb1 q0 q1 hP hi hv hw
  go_enter Try.func82, Try.ntmps82
  go_upto_region 1 with fail
  have hW1 := HW1.out
  rw [← hW1]
  clear hW1
  have hh := HH.out W1 (Below.refl _ _)
  have k1 : W1.cell? ⟨w.heap.size + 1, 0, none⟩ = some (.slice aw wl.length cw) := by rw [cell_of_heap hh.hw]; rfl
  clear hh
  go_wp2_with fail
  clear k1
  go_loopw [9] (fun i wr => ∃ k : Nat, k ≤ wl.length ∧ i = .int .i64 k ∧ Below W1.heap.size W1 wr ∧ Hid (∀ c, c < k → (decide (gi wl c = -1) || markedB p c (gi wl c).toNat) = true)) (fun i _ => wl.length - (intOf i).toNat)
  case atStart => exact ⟨0, by omega, rfl, Below.refl _ _, fun c hc => by omega⟩
  case round =>
    obtain ⟨k, hk, rfl, hbr, HK⟩ := hrel
    have hh := HH.out wr hbr
    have k0 : wr.cell? ⟨w.heap.size, 0, none⟩ = some (.pointer (some ⟨bp, 0, none⟩)) := by rw [cell_of_heap hh.hp]; rfl
    by_cases hlt : k < wl.length
    · have hkn : k < p.cards.length := by rw [← HV.out.2.1]; exact hlt
      have hgi := HV.out.2.gi hkn
      have HNX : Hid ((decide (gi wl k = -1) || markedB p k (gi wl k).toNat) = true → ∀ c, c < k + 1 → (decide (gi wl c = -1) || markedB p c (gi wl c).toNat) = true) := fun h c hc => by
        by_cases e : c = k
        · subst e; exact h
        · exact HK.out c (by omega)
      obtain ⟨b2, o2, haw, hwj⟩ := hh.hi k hlt
      subst haw
      by_cases h1 : gi wl k = -1
      · have hb : (gi wl k != -1) = false := by simpa using h1
        have H1 := Lib.hid h1
        clear h1 hh k0
        go_wp2_with fail
        all_goals try refine ⟨fun _ _ => trivial, ?_⟩
        all_goals try go_wp2_with fail
        go_roundw
        case rel => exact ⟨k + 1, by omega, by go_num, hbr, HNX.out (by simp [H1.out])⟩
        case measure => simp [intOf]; omega
      · have hb : (gi wl k != -1) = true := by simpa using h1
        obtain ⟨u, hu⟩ := Int.eq_ofNat_of_zero_le (show 0 ≤ gi wl k by omega)
        have hun : u < p.cards.length := by omega
        have hcall := marked_any hh.hP HV.out.1 hkn hun
        have H1 := Lib.hid (And.intro h1 hu)
        rw [hu] at hwj hb
        clear h1 hh hu hgi
        go_wp2_with fail
        (with_reducible refine hcall.mono ?_)
        clear hcall
        rintro e w5 ⟨rfl, hb5⟩
        have hB5 := hbr.trans (hb5.mono hbr.size)
        have hmm : (gi wl k).toNat = u := by rw [H1.out.2]; rfl
        have HMM := Lib.hid hmm
        clear hmm hb5 hwj k0
        cases hc : markedB p k u
        · have HC := Lib.hid hc
          clear hc
          go_wp2_with fail
          go_ret
          exact ⟨ret_bool (by unfold isWayB; rw [marksB_false hlt H1.out.1 (by rw [HMM.out]; exact HC.out)]; rfl), HB1.out.trans (hB5.mono HB1.out.size)⟩
        · have HC := Lib.hid hc
          clear hc
          go_wp2_with fail
          go_roundw
          case rel => exact ⟨k + 1, by omega, by go_num, hB5, HNX.out (by rw [HMM.out, HC.out]; simp)⟩
          case measure => simp [intOf]; omega
    · obtain rfl : k = wl.length := by omega
      have HMK := Lib.hid (marksB_true HK.out)
      have k1 : wr.cell? ⟨w.heap.size + 1, 0, none⟩ = some (.slice aw wl.length cw) := by rw [cell_of_heap hh.hw]; rfl
      have hcr := round_any (cap := cw) HV.out.2 hn5 hh.hi
      obtain ⟨_, _, _, _, _, c5⟩ := hh.hP.cells
      go_wp2_with fail
      (with_reducible refine hcr.mono ?_)
      clear hcr
      rintro e w5 ⟨rfl, rfl⟩
      cases hr : roundB wl
      · have HR := Lib.hid hr
        clear hr
        have hcall := containsLoss_any HV.out.1 HV.out.2.1 HR.out hh
        clear hh k1
        go_wp2_with fail
        (with_reducible refine hcall.mono ?_)
        clear hcall
        rintro e w6 ⟨rfl, hb6⟩
        have hB6 := hbr.trans (hb6.mono hbr.size)
        clear hb6 c5 k0
        go_wp2_with fail
        go_ret
        exact ⟨ret_bool (by unfold isWayB; rw [HMK.out, HR.out]; cases canB p wl false <;> cases canB p wl true <;> rfl), HB1.out.trans (hB6.mono HB1.out.size)⟩
      · have HR := Lib.hid hr
        clear hr hh k1 c5 k0
        go_wp2_with fail
        all_goals try refine ⟨fun _ _ => trivial, ?_⟩
        all_goals try go_wp2_with fail
        go_ret
        exact ⟨ret_bool (by unfold isWayB; rw [HMK.out, HR.out]; rfl), HB1.out.trans (hbr.mono HB1.out.size)⟩
end Go.Proofs.Ytnfhlbmapfoifaa

namespace Go.Proofs.Ytnfhlbmapfoifaa
open Go.RowKit
set_option linter.unusedVariables false

theorem infoI : (Try.prog.info? 3).map (fun i => (i.zero, i.size, i.bytes)) = some (some (.int .i64 0), 1, 8) := by kernel_rfl
theorem own_ints {w : World} {base : Nat} {a : Option Addr} {l : List Int} {cap : Nat} (h : w.ownsRow base 3 1 (.slice a l.length cap) l.length (l.map (Value.int .i64))) : IsInts w a l := fun i hi => by
  obtain ⟨g, c, e, _, _, _, _, hc⟩ := own_cell h (by omega)
  cases e
  refine ⟨g, 0, rfl, ?_⟩
  rw [Nat.zero_add]
  exact hc i _ (by simp [gi, hi])
set_option maxHeartbeats 1000000 in
theorem clone99 {w : World} {base : Nat} {v : Value} {l : List Int} (h : w.ownsRow base 3 1 v l.length (l.map (Value.int .i64))) (hl : l.length ≤ 16) :
    Calls Try.prog 99 #[v] w fun e w' => ∃ v', e = .returned v' ∧ w'.ownsRow w.heap.size 3 1 v' l.length (l.map (Value.int .i64)) ∧ Below w.heap.size w w' := by
  obtain ⟨i0, hi0, hz0, hz1, hz2⟩ := info_parts infoI
  rcases h.2 with ⟨rfl, h0⟩ | ⟨g, cap, cur, rfl, hbg, hh, _⟩
  · have hx : l = [] := List.eq_nil_of_length_eq_zero h0
    subst hx
    have he := Lib.run_eql_slice_nil (P := Try.prog)
    go_enter Try.func99, Try.ntmps99
    go_wp2
    go_ret
    exact ⟨_, rfl, World.ownsRow_nil w _ _ _, Below.refl _ _⟩
  · have hm := World.ownsRow_made (e := 3) (size := 1) w #[] 0 (base := w.heap.size) (Nat.le_refl _) (by simp [maxLen]) (by simp)
    obtain ⟨v', w', hr, hn, hg⟩ := append_rows (P := Try.prog) w.heap.size 76 76 3 i0 _ 1 8 Try.underlying76 hi0 hz0 hz1 hz2 rfl (by decide) _ 0 [] hm (some ⟨g, 0, none⟩) l.length cap (l.map (Value.int .i64)) (by simp) (fun h0 => ⟨_, rfl, fun j u hj => by
      have hc := (h.cells (g := g) rfl) j u hj
      have e : ((⟨g, 0, none⟩ : Addr).add j) = ⟨g, j, none⟩ := by unfold Addr.add; split <;> simp_all
      rw [e] at hc ⊢
      exact cell_stays ((Below.refl _ w).alloc (Nat.le_refl _) _) hc⟩) (by intro u hu; simp at hu; obtain ⟨x, _, rfl⟩ := hu; rfl) (by simp [maxLen]; omega) (by omega) (by simp)
    rw [Nat.zero_add, List.nil_append] at hn
    have HR := Lib.hid hr
    have HN := Lib.hid (And.intro hn hg)
    have he := Lib.run_eql_slice_nil (P := Try.prog)
    clear hr hn hg hm h hh hi0 hz0 hz1 hz2 hbg
    go_enter Try.func99, Try.ntmps99
    go_wp2_with (at_builtin; refine wpList_append_run rfl (.tmp 5) (.tmp 6) 76 rfl _ _ _ _ rfl rfl HR.out ?_)
    go_ret
    exact ⟨v', rfl, HN.out.1, ((Below.refl _ w).alloc (Nat.le_refl _) _).grown HN.out.2 (by simp) (fun k hk => by cases hk; exact Nat.le_refl _)⟩
set_option maxHeartbeats 1000000 in
theorem clone103 {w : World} {base : Nat} {v : Value} {l : List Int} (h : w.ownsRow base 3 1 v l.length (l.map (Value.int .i64))) (hl : l.length ≤ 16) :
    Calls Try.prog 103 #[v] w fun e w' => ∃ v', e = .returned v' ∧ w'.ownsRow w.heap.size 3 1 v' l.length (l.map (Value.int .i64)) ∧ Below w.heap.size w w' := by
  obtain ⟨i0, hi0, hz0, hz1, hz2⟩ := info_parts infoI
  rcases h.2 with ⟨rfl, h0⟩ | ⟨g, cap, cur, rfl, hbg, hh, _⟩
  · have hx : l = [] := List.eq_nil_of_length_eq_zero h0
    subst hx
    have he := Lib.run_eql_slice_nil (P := Try.prog)
    go_enter Try.func103, Try.ntmps103
    go_wp2
    go_ret
    exact ⟨_, rfl, World.ownsRow_nil w _ _ _, Below.refl _ _⟩
  · have hm := World.ownsRow_made (e := 3) (size := 1) w #[] 0 (base := w.heap.size) (Nat.le_refl _) (by simp [maxLen]) (by simp)
    obtain ⟨v', w', hr, hn, hg⟩ := append_rows (P := Try.prog) w.heap.size 42 42 3 i0 _ 1 8 Try.underlying42 hi0 hz0 hz1 hz2 rfl (by decide) _ 0 [] hm (some ⟨g, 0, none⟩) l.length cap (l.map (Value.int .i64)) (by simp) (fun h0 => ⟨_, rfl, fun j u hj => by
      have hc := (h.cells (g := g) rfl) j u hj
      have e : ((⟨g, 0, none⟩ : Addr).add j) = ⟨g, j, none⟩ := by unfold Addr.add; split <;> simp_all
      rw [e] at hc ⊢
      exact cell_stays ((Below.refl _ w).alloc (Nat.le_refl _) _) hc⟩) (by intro u hu; simp at hu; obtain ⟨x, _, rfl⟩ := hu; rfl) (by simp [maxLen]; omega) (by omega) (by simp)
    rw [Nat.zero_add, List.nil_append] at hn
    have HR := Lib.hid hr
    have HN := Lib.hid (And.intro hn hg)
    have he := Lib.run_eql_slice_nil (P := Try.prog)
    clear hr hn hg hm h hh hi0 hz0 hz1 hz2 hbg
    go_enter Try.func103, Try.ntmps103
    go_wp2_with (at_builtin; refine wpList_append_run rfl (.tmp 5) (.tmp 6) 42 rfl _ _ _ _ rfl rfl HR.out ?_)
    go_ret
    exact ⟨v', rfl, HN.out.1, ((Below.refl _ w).alloc (Nat.le_refl _) _).grown HN.out.2 (by simp) (fun k hk => by cases hk; exact Nat.le_refl _)⟩
end Go.Proofs.Ytnfhlbmapfoifaa

