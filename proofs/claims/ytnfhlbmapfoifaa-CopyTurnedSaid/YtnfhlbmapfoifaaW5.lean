/- A way: whether a card comes from another one; what can be of a card. What can be of a card, by all that come from it. -/
import Derived.Test.YtnfhlbmapfoifaaW1
import Derived.Deep.RegionHeld3
namespace Go.Proofs.Ytnfhlbmapfoifaa
open Go.RowKit
set_option linter.unusedVariables false

theorem upW_stays {wl : List Int} {L : Nat} {c : Int} (h : upW wl L c = -1) : ∀ d, upW wl (L + d) c = -1
  | 0 => h
  | d + 1 => by rw [show L + (d + 1) = (L + d) + 1 from rfl, upW_snoc, upW_stays h d]; rfl
theorem comesF_none (wl : List Int) (frm : Int) (f : Nat) : comesF wl frm f (-1) = false := by cases f <;> simp [comesF]
theorem comesF_hit (wl : List Int) {frm : Int} (f : Nat) (h : frm ≠ -1) : comesF wl frm (f + 1) frm = true := by simp [comesF, h]
theorem comesF_on (wl : List Int) {frm u : Int} (f : Nat) (h : u ≠ -1) (h' : u ≠ frm) : comesF wl frm (f + 1) u = comesF wl frm f (gi wl u.toNat) := by simp [comesF, h, h']
set_option maxHeartbeats 1000000 in
theorem comes_any {n : Nat} {wl : List Int} (hw : GoodW n wl) (hn : n ≤ 5) (hr : roundB wl = false) {card frm : Nat} (hc : card < n) (hf : frm < n) {a : Option Addr} {cap : Nat} {w : World} (ha : IsInts w a wl) :
    Calls Try.prog 56 #[.slice a wl.length cap, .int .i64 card, .int .i64 frm] w fun e w' => e = .returned (.bool (comesB wl card frm)) ∧ w = w' := by
  have HL := Lib.hid hw.1
  have HR := Lib.hid (roundB_false.1 hr card (by rw [hw.1]; exact hc))
  have hl5 : wl.length ≤ 5 := by rw [hw.1]; exact hn
  have hcl : card < wl.length := by rw [hw.1]; exact hc
  obtain ⟨b, off, rfl, hc0⟩ := ha card hcl
  clear hr
  go_enter Try.func56, Try.ntmps56
  go_wp2
  clear hc0
  go_loopg [7] (wl.length + 1) (fun f q wr => ∃ (u : Int) (m : Nat), q = .int .i64 u ∧ Hid (u = upW wl m (card : Int)) ∧ f + m = wl.length + 2 ∧ Hid (comesB wl card frm = comesF wl frm f u) ∧ -1 ≤ u ∧ u < n ∧ w = wr)
  case atStart => exact ⟨gi wl card, 1, rfl, by simp [Hid, upW], rfl, rfl, (hw.gi hc).1, (hw.gi hc).2, rfl⟩
  case round =>
    obtain ⟨u, m, rfl, HU, hfm, HC, hu0, hu1, rfl⟩ := hrel
    by_cases h1 : u = -1
    · subst h1
      have HE := Lib.hid (comesF_none wl frm gk)
      go_wp2
      go_ret
      exact ⟨ret_bool (by rw [HC.out, HE.out]), rfl⟩
    · obtain ⟨f, rfl⟩ : ∃ f, gk = f + 1 := ⟨gk - 1, by
        have : gk ≠ 0 := fun e => h1 (by
          have := upW_stays HR.out 2
          rw [HU.out, show m = wl.length + 2 by omega]; exact this)
        omega⟩
      obtain ⟨un, rfl⟩ := Int.eq_ofNat_of_zero_le (show 0 ≤ u by omega)
      have hun : un < wl.length := by have := HL.out; omega
      have hb : ((un : Int) != -1) = true := by simp
      have HN := Lib.hid h1
      by_cases h2 : un = frm
      · subst h2
        have HH := Lib.hid (comesF_hit wl (frm := (un : Int)) f (by omega))
        clear h1 hfm
        go_wp2
        go_ret
        exact ⟨ret_bool (by rw [HC.out, HH.out]), rfl⟩
      · have hb2 : ((un : Int) == (frm : Int)) = false := by simp; omega
        have HH := Lib.hid (comesF_on wl (frm := (frm : Int)) f h1 (by omega))
        obtain ⟨b', off', he, hc1⟩ := ha un hun
        obtain ⟨rfl, rfl⟩ : b = b' ∧ off = off' := by simpa using he
        have hgi := hw.gi (k := un) (by omega)
        have HS : Hid (upW wl (m + 1) (card : Int) = gi wl un) := by rw [Hid, upW_snoc, ← HU.out, if_neg HN.out]; rfl
        have HF := Lib.hid hfm
        clear h1 he hfm
        go_wp2
        go_roundg f
        case rel => exact ⟨gi wl un, m + 1, rfl, HS.out.symm, by have := HF.out; omega, by rw [Hid, HC.out, HH.out]; rfl, hgi.1, hgi.2, rfl⟩
        case measure => omega
theorem res_c24 {fn : Func} {p : Tmp} (h : fn.results = #[.cell p 24]) (tmps : Array Value) {w : World} {b : Nat} {x y : Int} (hp : tmps.getD p undef = .pointer (some ⟨b, 0, none⟩))
    (h0 : w.cell? ⟨b, 0, none⟩ = some (.int .i64 x)) (h1 : w.cell? ⟨b, 1, none⟩ = some (.int .i64 y)) : (results fn tmps).run Try.prog w = .ok (.agg #[.int .i64 x, .int .i64 y]) w := by
  have hp' : tmps[p]?.getD undef = .pointer (some ⟨b, 0, none⟩) := by simpa using hp
  simp [results, h, hp', h0, h1, go_sem]
theorem res_c24t {fn : Func} {p u : Tmp} (h : fn.results = #[.cell p 24, .tmp u]) (tmps : Array Value) {w : World} {b : Nat} {x y : Int} {v : Value} (hp : tmps.getD p undef = .pointer (some ⟨b, 0, none⟩)) (hu : tmps.getD u undef = v)
    (h0 : w.cell? ⟨b, 0, none⟩ = some (.int .i64 x)) (h1 : w.cell? ⟨b, 1, none⟩ = some (.int .i64 y)) : (results fn tmps).run Try.prog w = .ok (.tuple #[.agg #[.int .i64 x, .int .i64 y], v]) w := by
  have hp' : tmps[p]?.getD undef = .pointer (some ⟨b, 0, none⟩) := by simpa using hp
  have hu' : tmps[u]?.getD undef = v := by simpa using hu
  simp [results, h, hp', hu', h0, h1, go_sem]
def ofF (what : Bool) : Nat := if what then 93 else 92
set_option maxHeartbeats 1000000 in
theorem of_any (what : Bool) (c : Prt) (w : World) : Calls Try.prog (ofF what) #[c.v] w fun e w' => e = .returned (.agg #[.int .i64 (c.of what).1, .int .i64 (c.of what).2]) ∧ Below w.heap.size w w' := by
  have HB : Hid (∀ x y : Int, Below w.heap.size w ((w.alloc (.cells c.arr 54)).alloc (.cells #[.int .i64 x, .int .i64 y] 24))) := fun x y => ((Below.refl _ w).alloc (Nat.le_refl _) _).alloc (by simp) _
  have HN : Hid (∀ x y : Int, ((w.alloc (.cells c.arr 54)).alloc (.cells #[.int .i64 x, .int .i64 y] 24)).heap[w.heap.size + 1]? = some (.cells #[.int .i64 x, .int .i64 y] 24 (0, 0))) := fun x y => by
    have := World.alloc_heap_new (w.alloc (.cells c.arr 54)) (.cells #[.int .i64 x, .int .i64 y] 24)
    rwa [World.size_alloc] at this
  cases what with
  | false =>
    show Calls Try.prog 92 #[c.v] w _
    go_enter Try.func92, Try.ntmps92
    go_wp2
    have hn := HN.out c.slo c.shi
    exact bodyPost_ret (v := .agg #[.int .i64 c.slo, .int .i64 c.shi]) (res_c24 rfl _ rfl (by rw [cell_of_heap hn]; rfl) (by rw [cell_of_heap hn]; rfl)) rfl ⟨rfl, HB.out _ _⟩
  | true =>
    show Calls Try.prog 93 #[c.v] w _
    go_enter Try.func93, Try.ntmps93
    go_wp2
    have hn := HN.out c.wlo c.whi
    exact bodyPost_ret (v := .agg #[.int .i64 c.wlo, .int .i64 c.whi]) (res_c24 rfl _ rfl (by rw [cell_of_heap hn]; rfl) (by rw [cell_of_heap hn]; rfl)) rfl ⟨rfl, HB.out _ _⟩

theorem cfOf (what : Bool) (args : Array Value) (w : World) : (callFunc (ofF what) args).run Try.prog w = .ok (.enter (ofF what) args) w := by
  cases what with
  | false => show (callFunc 92 args).run Try.prog w = _; simp [callFunc, Try.func92, Try.f92, go_sem, ofF]
  | true => show (callFunc 93 args).run Try.prog w = _; simp [callFunc, Try.func93, Try.f93, go_sem, ofF]
def regionAt (n : Nat) : Code → Option Code
  | .region id ops b => if id = n then some (.region id ops b) else none
  | .seq a b => match regionAt n a with
    | some c => some c
    | none => regionAt n b
  | .block _ c => regionAt n c
  | .scope c => regionAt n c
  | .loop c => regionAt n c
  | .cond _ a b => match regionAt n a with
    | some c => some c
    | none => regionAt n b
  | _ => none
theorem wp_seq_hid {P : Program} {x y : Code} {Q : Exit → Act → World → Prop} {a : Act} {w : World} (h : ∀ K, Hid (∀ a' w', y.wp P Q a' w' → K a' w') → x.wp P (Exit.then K Q) a w) : (Code.seq x y).wp P Q a w :=
  wp_seq (h _ fun _ _ h => h)
/-- What the closure that tells what can be of a card has captured. -/
structure WhatW (w : World) (bl bpb bw bs : Nat) (what : Bool) (p : Prs) (a : Option Addr) (cap bp g : Nat) (wl : List Int) (aw : Option Addr) (cw : Nat) : Prop where
  hl : w.heap[bl]? = some (.cells #[.func (.func (ofF what)) #[] #[], .int .i64 (p.by_ what).1, .int .i64 (p.by_ what).2] 120 (0, 0))
  hp : w.heap[bpb]? = some (.cells #[.pointer (some ⟨bp, 0, none⟩)] 79 (0, 0))
  hw : w.heap[bw]? = some (.cells #[.slice aw wl.length cw] 76 (0, 0))
  hs : w.heap[bs]? = some (.cells #[.func (.func 119) #[] #[.pointer (some ⟨bl, 0, none⟩), .pointer (some ⟨bpb, 0, none⟩), .pointer (some ⟨bw, 0, none⟩), .pointer (some ⟨bs, 0, none⟩)]] 143 (0, 0))
  hP : PileP w bp p a cap g
  hi : IsInts w aw wl
theorem WhatW.mono {w w' : World} {bl bpb bw bs : Nat} {what : Bool} {p : Prs} {a : Option Addr} {cap bp g : Nat} {wl : List Int} {aw : Option Addr} {cw : Nat} (h : WhatW w bl bpb bw bs what p a cap bp g wl aw cw) (hb : Below w.heap.size w w') : WhatW w' bl bpb bw bs what p a cap bp g wl aw cw :=
  ⟨(hb.block _ (heap_lt h.hl)).trans h.hl, (hb.block _ (heap_lt h.hp)).trans h.hp, (hb.block _ (heap_lt h.hw)).trans h.hw, (hb.block _ (heap_lt h.hs)).trans h.hs, h.hP.mono hb, h.hi.mono hb⟩
structure what1F (W1 : World) (bl bpb bp b off card n cap : Nat) (what : Bool) (c : Prt) (d : Nat → Bool) (x13 x14 x15 x16 x17 x18 x19 x20 x21 x22 x23 x8 : Value) (w : World) : Prop where
  same : Below W1.heap.size W1 w
  f0 : d 0 = true → x13 = .pointer (some ⟨bl, 0, none⟩)
  f1 : d 1 = true → x14 = .func (.func (ofF what)) #[] #[]
  f2 : d 2 = true → x15 = .pointer (some ⟨bp, 0, none⟩)
  f3 : d 3 = true → x16 = .pointer (some ⟨bp, 0, none⟩)
  f4 : d 4 = true → x17 = .pointer (some ⟨bp, 0, none⟩)
  f5 : d 5 = true → x18 = .pointer (some ⟨bp, 0, none⟩)
  f6 : d 6 = true → x19 = .slice (some ⟨b, off, none⟩) n cap
  f7 : d 7 = true → x20 = .int .i64 card
  f8 : d 8 = true → x21 = .pointer (some ⟨b, off + card * 5, none⟩)
  f9 : d 9 = true → x22 = .agg c.arr
  f10 : d 10 = true → x23 = .agg #[.int .i64 (c.of what).1, .int .i64 (c.of what).2]
  f11 : d 11 = true → ∃ bq : Nat, x8 = .pointer (some ⟨bq, 0, none⟩) ∧ W1.heap.size ≤ bq ∧ w.heap[bq]? = some (.cells (if d 12 then #[.int .i64 (c.of what).1, .int .i64 (c.of what).2] else #[.int .i64 0, .int .i64 0]) 24 (0, 0))
  o12 : d 12 = true → d 11 = true
section
variable {W1 : World} {bl bpb bp b off card n cap : Nat} {what : Bool} {c : Prt} {d : Nat → Bool} {x13 x14 x15 x16 x17 x18 x19 x20 x21 x22 x23 x8 : Value} {w w' : World}
theorem what1F.s0 (F : what1F W1 bl bpb bp b off card n cap what c d x13 x14 x15 x16 x17 x18 x19 x20 x21 x22 x23 x8 w) : what1F W1 bl bpb bp b off card n cap what c (upd d 0) (.pointer (some ⟨bl, 0, none⟩)) x14 x15 x16 x17 x18 x19 x20 x21 x22 x23 x8 w := ⟨F.same, fun _ => rfl, F.f1, F.f2, F.f3, F.f4, F.f5, F.f6, F.f7, F.f8, F.f9, F.f10, F.f11, F.o12⟩
theorem what1F.s1 (F : what1F W1 bl bpb bp b off card n cap what c d x13 x14 x15 x16 x17 x18 x19 x20 x21 x22 x23 x8 w) : what1F W1 bl bpb bp b off card n cap what c (upd d 1) x13 (.func (.func (ofF what)) #[] #[]) x15 x16 x17 x18 x19 x20 x21 x22 x23 x8 w := ⟨F.same, F.f0, fun _ => rfl, F.f2, F.f3, F.f4, F.f5, F.f6, F.f7, F.f8, F.f9, F.f10, F.f11, F.o12⟩
theorem what1F.s2 (F : what1F W1 bl bpb bp b off card n cap what c d x13 x14 x15 x16 x17 x18 x19 x20 x21 x22 x23 x8 w) : what1F W1 bl bpb bp b off card n cap what c (upd d 2) x13 x14 (.pointer (some ⟨bp, 0, none⟩)) x16 x17 x18 x19 x20 x21 x22 x23 x8 w := ⟨F.same, F.f0, F.f1, fun _ => rfl, F.f3, F.f4, F.f5, F.f6, F.f7, F.f8, F.f9, F.f10, F.f11, F.o12⟩
theorem what1F.s3 (F : what1F W1 bl bpb bp b off card n cap what c d x13 x14 x15 x16 x17 x18 x19 x20 x21 x22 x23 x8 w) : what1F W1 bl bpb bp b off card n cap what c (upd d 3) x13 x14 x15 (.pointer (some ⟨bp, 0, none⟩)) x17 x18 x19 x20 x21 x22 x23 x8 w := ⟨F.same, F.f0, F.f1, F.f2, fun _ => rfl, F.f4, F.f5, F.f6, F.f7, F.f8, F.f9, F.f10, F.f11, F.o12⟩
theorem what1F.s4 (F : what1F W1 bl bpb bp b off card n cap what c d x13 x14 x15 x16 x17 x18 x19 x20 x21 x22 x23 x8 w) : what1F W1 bl bpb bp b off card n cap what c (upd d 4) x13 x14 x15 x16 (.pointer (some ⟨bp, 0, none⟩)) x18 x19 x20 x21 x22 x23 x8 w := ⟨F.same, F.f0, F.f1, F.f2, F.f3, fun _ => rfl, F.f5, F.f6, F.f7, F.f8, F.f9, F.f10, F.f11, F.o12⟩
theorem what1F.s5 (F : what1F W1 bl bpb bp b off card n cap what c d x13 x14 x15 x16 x17 x18 x19 x20 x21 x22 x23 x8 w) : what1F W1 bl bpb bp b off card n cap what c (upd d 5) x13 x14 x15 x16 x17 (.pointer (some ⟨bp, 0, none⟩)) x19 x20 x21 x22 x23 x8 w := ⟨F.same, F.f0, F.f1, F.f2, F.f3, F.f4, fun _ => rfl, F.f6, F.f7, F.f8, F.f9, F.f10, F.f11, F.o12⟩
theorem what1F.s6 (F : what1F W1 bl bpb bp b off card n cap what c d x13 x14 x15 x16 x17 x18 x19 x20 x21 x22 x23 x8 w) : what1F W1 bl bpb bp b off card n cap what c (upd d 6) x13 x14 x15 x16 x17 x18 (.slice (some ⟨b, off, none⟩) n cap) x20 x21 x22 x23 x8 w := ⟨F.same, F.f0, F.f1, F.f2, F.f3, F.f4, F.f5, fun _ => rfl, F.f7, F.f8, F.f9, F.f10, F.f11, F.o12⟩
theorem what1F.s7 (F : what1F W1 bl bpb bp b off card n cap what c d x13 x14 x15 x16 x17 x18 x19 x20 x21 x22 x23 x8 w) : what1F W1 bl bpb bp b off card n cap what c (upd d 7) x13 x14 x15 x16 x17 x18 x19 (.int .i64 card) x21 x22 x23 x8 w := ⟨F.same, F.f0, F.f1, F.f2, F.f3, F.f4, F.f5, F.f6, fun _ => rfl, F.f8, F.f9, F.f10, F.f11, F.o12⟩
theorem what1F.s8 (F : what1F W1 bl bpb bp b off card n cap what c d x13 x14 x15 x16 x17 x18 x19 x20 x21 x22 x23 x8 w) : what1F W1 bl bpb bp b off card n cap what c (upd d 8) x13 x14 x15 x16 x17 x18 x19 x20 (.pointer (some ⟨b, off + card * 5, none⟩)) x22 x23 x8 w := ⟨F.same, F.f0, F.f1, F.f2, F.f3, F.f4, F.f5, F.f6, F.f7, fun _ => rfl, F.f9, F.f10, F.f11, F.o12⟩
theorem what1F.s9 (F : what1F W1 bl bpb bp b off card n cap what c d x13 x14 x15 x16 x17 x18 x19 x20 x21 x22 x23 x8 w) : what1F W1 bl bpb bp b off card n cap what c (upd d 9) x13 x14 x15 x16 x17 x18 x19 x20 x21 (.agg c.arr) x23 x8 w := ⟨F.same, F.f0, F.f1, F.f2, F.f3, F.f4, F.f5, F.f6, F.f7, F.f8, fun _ => rfl, F.f10, F.f11, F.o12⟩
theorem what1F.s10 (F : what1F W1 bl bpb bp b off card n cap what c d x13 x14 x15 x16 x17 x18 x19 x20 x21 x22 x23 x8 w) : what1F W1 bl bpb bp b off card n cap what c (upd d 10) x13 x14 x15 x16 x17 x18 x19 x20 x21 x22 (.agg #[.int .i64 (c.of what).1, .int .i64 (c.of what).2]) x8 w := ⟨F.same, F.f0, F.f1, F.f2, F.f3, F.f4, F.f5, F.f6, F.f7, F.f8, F.f9, fun _ => rfl, F.f11, F.o12⟩
theorem what1F.below (F : what1F W1 bl bpb bp b off card n cap what c d x13 x14 x15 x16 x17 x18 x19 x20 x21 x22 x23 x8 w) (hb : Below w.heap.size w w') : what1F W1 bl bpb bp b off card n cap what c d x13 x14 x15 x16 x17 x18 x19 x20 x21 x22 x23 x8 w' := by
  refine ⟨F.same.trans (hb.mono F.same.size), F.f0, F.f1, F.f2, F.f3, F.f4, F.f5, F.f6, F.f7, F.f8, F.f9, F.f10, ?_, F.o12⟩
  · intro h
    obtain ⟨bq, h1, h2, h3⟩ := F.f11 h
    exact ⟨bq, h1, h2, (hb.block _ (heap_lt h3)).trans h3⟩
theorem what1F.s11 (F : what1F W1 bl bpb bp b off card n cap what c d x13 x14 x15 x16 x17 x18 x19 x20 x21 x22 x23 x8 w) (h12 : d 12 = false) : what1F W1 bl bpb bp b off card n cap what c (upd d 11) x13 x14 x15 x16 x17 x18 x19 x20 x21 x22 x23 (.pointer (some ⟨w.heap.size, 0, none⟩)) (w.alloc (.cells #[.int .i64 0, .int .i64 0] 24)) := by
  have G := F.below ((Below.refl _ w).alloc (Nat.le_refl _) (.cells #[.int .i64 0, .int .i64 0] 24))
  refine ⟨G.same, G.f0, G.f1, G.f2, G.f3, G.f4, G.f5, G.f6, G.f7, G.f8, G.f9, G.f10, ?_, fun h => (by have h2 : d 12 = true := h; rw [h12] at h2; cases h2)⟩
  intro _
  have e : upd d 11 12 = false := h12
  rw [e]
  exact ⟨_, rfl, F.same.size, World.alloc_heap_new w _⟩
theorem what1F.s12 (F : what1F W1 bl bpb bp b off card n cap what c d x13 x14 x15 x16 x17 x18 x19 x20 x21 x22 x23 x8 w) (h11 : d 11 = true) {bq : Nat} (hb : W1.heap.size ≤ bq) (hx : x8 = .pointer (some ⟨bq, 0, none⟩)) (hh : w.heap[bq]? = some (.cells #[.int .i64 0, .int .i64 0] 24 (0, 0))) : what1F W1 bl bpb bp b off card n cap what c (upd d 12) x13 x14 x15 x16 x17 x18 x19 x20 x21 x22 x23 x8 ((w.setCell ⟨bq, 0, none⟩ (.int .i64 (c.of what).1)).setCell ⟨bq, 1, none⟩ (.int .i64 (c.of what).2)) := by
  refine ⟨((F.same).setCell (p := ⟨bq, 0, none⟩) hb (.int .i64 (c.of what).1)).setCell (p := ⟨bq, 1, none⟩) hb (.int .i64 (c.of what).2), F.f0, F.f1, F.f2, F.f3, F.f4, F.f5, F.f6, F.f7, F.f8, F.f9, F.f10, ?_, fun _ => h11⟩
  intro _
  have e : upd d 12 12 = true := rfl
  rw [e]
  exact ⟨bq, hx, hb, (heap_setCell_at (k := 1) (heap_setCell_at (k := 0) hh (.int .i64 (c.of what).1)) (.int .i64 (c.of what).2))⟩
end
noncomputable def what1C : Code := (Try.f119.body.bind (regionAt 1)).getD .skip
set_option maxRecDepth 100000 in
set_option maxHeartbeats 4000000 in
theorem what1 {W1 : World} {bl bpb bp b off card n cap : Nat} {what : Bool} {c : Prt} {Q : Exit → Act → World → Prop} (hL : Hid (W1.cell? ⟨bl, 0, none⟩ = some (.func (.func (ofF what)) #[] #[]))) (hPb : Hid (W1.cell? ⟨bpb, 0, none⟩ = some (.pointer (some ⟨bp, 0, none⟩)))) (hS : Hid (W1.cell? ⟨bp, 0, none⟩ = some (.slice (some ⟨b, off, none⟩) n cap))) (hc : card < n) (hn : n ≤ 5)
    (hM : Hid (W1.cell? ⟨b, off + card * 5, none⟩ = some (.int .i64 c.slo) ∧ W1.cell? ⟨b, off + card * 5 + 1, none⟩ = some (.int .i64 c.shi) ∧ W1.cell? ⟨b, off + card * 5 + 2, none⟩ = some (.int .i64 c.wlo) ∧ W1.cell? ⟨b, off + card * 5 + 3, none⟩ = some (.int .i64 c.whi) ∧ W1.cell? ⟨b, off + card * 5 + 4, none⟩ = some (.int .i64 c.marks)))
    {s3 s4 s5 s6 s7 s8 s9 s10 s11 s12 s13 s14 s15 s16 s17 s18 s19 s20 s21 s22 s23 s24 s25 s26 s27 s28 s29 s30 s31 s32 s33 s34 s35 s36 s37 s38 s39 s40 s41 s42 s43 s44 s45 s46 s47 s48 s49 s50 s51 s52 s53 s54 s55 s56 s57 s58 s59 s60 s61 s62 s63 s64 s65 s66 s67 s68 : Value} {dd : List Deferred}
    (hQ : ∀ (x13 x14 x15 x16 x17 x18 x19 x20 x21 x22 x23 x8 : Value) (w' : World), Below W1.heap.size W1 w' → x13 = .pointer (some ⟨bl, 0, none⟩) → x14 = .func (.func (ofF what)) #[] #[] → x15 = .pointer (some ⟨bp, 0, none⟩) → x16 = .pointer (some ⟨bp, 0, none⟩) → x17 = .pointer (some ⟨bp, 0, none⟩) → x18 = .pointer (some ⟨bp, 0, none⟩) → x19 = .slice (some ⟨b, off, none⟩) n cap → x20 = .int .i64 card → x21 = .pointer (some ⟨b, off + card * 5, none⟩) → x22 = .agg c.arr → x23 = .agg #[.int .i64 (c.of what).1, .int .i64 (c.of what).2] → (∃ bq : Nat, x8 = .pointer (some ⟨bq, 0, none⟩) ∧ W1.heap.size ≤ bq ∧ w'.heap[bq]? = some (.cells #[.int .i64 (c.of what).1, .int .i64 (c.of what).2] 24 (0, 0))) → Q .normal { tmps := #[.int .i64 card, .pointer (some ⟨bl, 0, none⟩), .pointer (some ⟨bpb, 0, none⟩), s3, s4, s5, s6, s7, x8, s9, s10, s11, s12, x13, x14, x15, x16, x17, x18, x19, x20, x21, x22, x23, s24, s25, s26, s27, s28, s29, s30, s31, s32, s33, s34, s35, s36, s37, s38, s39, s40, s41, s42, s43, s44, s45, s46, s47, s48, s49, s50, s51, s52, s53, s54, s55, s56, s57, s58, s59, s60, s61, s62, s63, s64, s65, s66, s67, s68], defers := dd } w') :
    Code.wp Try.prog what1C Q { tmps := #[.int .i64 card, .pointer (some ⟨bl, 0, none⟩), .pointer (some ⟨bpb, 0, none⟩), s3, s4, s5, s6, s7, s8, s9, s10, s11, s12, s13, s14, s15, s16, s17, s18, s19, s20, s21, s22, s23, s24, s25, s26, s27, s28, s29, s30, s31, s32, s33, s34, s35, s36, s37, s38, s39, s40, s41, s42, s43, s44, s45, s46, s47, s48, s49, s50, s51, s52, s53, s54, s55, s56, s57, s58, s59, s60, s61, s62, s63, s64, s65, s66, s67, s68], defers := dd } W1 := by
  have HQ := Lib.hid hQ
  clear hQ
  conv => arg 2; whnf
  refine wp_region_inv mixed (by kernel_rfl) (fun d_ a_ w' => ∃ x13 x14 x15 x16 x17 x18 x19 x20 x21 x22 x23 x8, a_ = { tmps := #[.int .i64 card, .pointer (some ⟨bl, 0, none⟩), .pointer (some ⟨bpb, 0, none⟩), s3, s4, s5, s6, s7, x8, s9, s10, s11, s12, x13, x14, x15, x16, x17, x18, x19, x20, x21, x22, x23, s24, s25, s26, s27, s28, s29, s30, s31, s32, s33, s34, s35, s36, s37, s38, s39, s40, s41, s42, s43, s44, s45, s46, s47, s48, s49, s50, s51, s52, s53, s54, s55, s56, s57, s58, s59, s60, s61, s62, s63, s64, s65, s66, s67, s68], defers := dd } ∧ what1F W1 bl bpb bp b off card n cap what c d_ x13 x14 x15 x16 x17 x18 x19 x20 x21 x22 x23 x8 w') ?_ ?_ ?_
  · refine ⟨s13, s14, s15, s16, s17, s18, s19, s20, s21, s22, s23, s8, rfl, (Below.refl _ W1).drew, ?_, ?_, ?_, ?_, ?_, ?_, ?_, ?_, ?_, ?_, ?_, ?_, ?_⟩ <;> (intro h; cases h)
  · refine ⟨?_, ?_, ?_, ?_, ?_, ?_, ?_, ?_, ?_, ?_, ?_, ?_, ?_, trivial⟩
    all_goals
      rintro d_ a_ w1 K hd_ hdep ⟨x13, x14, x15, x16, x17, x18, x19, x20, x21, x22, x23, x8, rfl, F⟩ HK
      simp [Region.binds] at hdep
      have hb1 := F.same
    · have HF := Lib.hid F.s0
      clear F
      clear hb1
      go_simp
      exact HK.out _ _ ⟨_, _, _, _, _, _, _, _, _, _, _, _, rfl, HF.out⟩
    · obtain rfl := F.f0 (by simp [hdep])
      have k := cell_stays hb1 hL.out
      have HF := Lib.hid F.s1
      clear F
      clear hb1
      go_simp
      exact HK.out _ _ ⟨_, _, _, _, _, _, _, _, _, _, _, _, rfl, HF.out⟩
    · have k := cell_stays hb1 hPb.out
      have HF := Lib.hid F.s2
      clear F
      clear hb1
      go_simp
      exact HK.out _ _ ⟨_, _, _, _, _, _, _, _, _, _, _, _, rfl, HF.out⟩
    · obtain rfl := F.f2 (by simp [hdep])
      have HF := Lib.hid F.s3
      clear F
      clear hb1
      go_simp
      exact HK.out _ _ ⟨_, _, _, _, _, _, _, _, _, _, _, _, rfl, HF.out⟩
    · obtain rfl := F.f3 (by simp [hdep])
      have HF := Lib.hid F.s4
      clear F
      clear hb1
      go_simp
      exact HK.out _ _ ⟨_, _, _, _, _, _, _, _, _, _, _, _, rfl, HF.out⟩
    · obtain rfl := F.f4 (by simp [hdep])
      have HF := Lib.hid F.s5
      clear F
      clear hb1
      go_simp
      exact HK.out _ _ ⟨_, _, _, _, _, _, _, _, _, _, _, _, rfl, HF.out⟩
    · obtain rfl := F.f5 (by simp [hdep])
      have k := cell_stays hb1 hS.out
      have HF := Lib.hid F.s6
      clear F
      clear hb1
      go_simp
      exact HK.out _ _ ⟨_, _, _, _, _, _, _, _, _, _, _, _, rfl, HF.out⟩
    · have HF := Lib.hid F.s7
      clear F
      clear hb1
      go_simp
      exact HK.out _ _ ⟨_, _, _, _, _, _, _, _, _, _, _, _, rfl, HF.out⟩
    · obtain rfl := F.f6 (by simp [hdep])
      obtain rfl := F.f7 (by simp [hdep])
      have HF := Lib.hid F.s8
      clear F
      clear hb1
      go_simp
      exact HK.out _ _ ⟨_, _, _, _, _, _, _, _, _, _, _, _, rfl, HF.out⟩
    · obtain rfl := F.f8 (by simp [hdep])
      obtain ⟨m0, m1, m2, m3, m4⟩ := hM.out
      have k0 := cell_stays hb1 m0
      have k1 := cell_stays hb1 m1
      have k2 := cell_stays hb1 m2
      have k3 := cell_stays hb1 m3
      have k4 := cell_stays hb1 m4
      clear m0 m1 m2 m3 m4
      have HF := Lib.hid F.s9
      clear F
      clear hb1
      go_simp
      exact HK.out _ _ ⟨_, _, _, _, _, _, _, _, _, _, _, _, rfl, HF.out⟩
    · obtain rfl := F.f1 (by simp [hdep])
      obtain rfl := F.f9 (by simp [hdep])
      have hcf := cfOf what
      have HF := Lib.hid F
      clear F
      go_simp
      refine (of_any what c w1).mono ?_
      rintro e w5 ⟨rfl, hb5⟩
      exact HK.out _ _ ⟨_, _, _, _, _, _, _, _, _, _, _, _, rfl, (HF.out.below hb5).s10⟩
    · have n12 : d_ 12 = false := by
        cases e : d_ 12 with
        | false => rfl
        | true => have h2 := F.o12 e; exact absurd (show d_ 11 = false from hd_) (by rw [h2]; simp)
      have HF := Lib.hid (F.s11 n12)
      clear F hb1
      go_simp
      exact HK.out _ _ ⟨_, _, _, _, _, _, _, _, _, _, _, _, rfl, HF.out⟩
    · obtain rfl := F.f10 (by simp [hdep])
      have ha11 : d_ 11 = true := by simp [hdep]
      obtain ⟨bq, hx, hWb, hh⟩ := F.f11 ha11
      have hds : d_ 12 = false := hd_
      rw [hds] at hh
      have hh' : w1.heap[bq]? = some (.cells #[.int .i64 0, .int .i64 0] 24 (0, 0)) := hh
      have z0 : ∀ k, w1.frozen? ⟨bq, k, none⟩ = false := fun k => frozen_of_heap hh'
      have zc0 : ∃ v, w1.cell? ⟨bq, 0, none⟩ = some v := ⟨_, by rw [cell_of_heap hh']; rfl⟩
      obtain ⟨vc0, zc0⟩ := zc0
      have zc1 : ∃ v, w1.cell? ⟨bq, 1, none⟩ = some v := ⟨_, by rw [cell_of_heap hh']; rfl⟩
      obtain ⟨vc1, zc1⟩ := zc1
      have HF := Lib.hid (F.s12 ha11 hWb hx hh')
      clear F hh hh' hb1
      subst hx
      go_simp
      exact HK.out _ _ ⟨_, _, _, _, _, _, _, _, _, _, _, _, rfl, HF.out⟩
  · rintro d_ a_ w1 hall ⟨x13, x14, x15, x16, x17, x18, x19, x20, x21, x22, x23, x8, rfl, F⟩
    have hall' : ∀ k, k < 13 → d_ k = true := hall
    have E11 := F.f11 (hall' 11 (by decide))
    rw [hall' 12 (by decide)] at E11
    exact HQ.out _ _ _ _ _ _ _ _ _ _ _ _ w1 F.same (F.f0 (hall' 0 (by decide))) (F.f1 (hall' 1 (by decide))) (F.f2 (hall' 2 (by decide))) (F.f3 (hall' 3 (by decide))) (F.f4 (hall' 4 (by decide))) (F.f5 (hall' 5 (by decide))) (F.f6 (hall' 6 (by decide))) (F.f7 (hall' 7 (by decide))) (F.f8 (hall' 8 (by decide))) (F.f9 (hall' 9 (by decide))) (F.f10 (hall' 10 (by decide))) E11
end Go.Proofs.Ytnfhlbmapfoifaa

namespace Go.Proofs.Ytnfhlbmapfoifaa
open Go.RowKit
set_option linter.unusedVariables false

/-- No more cards than so many come from a card, one from the other. -/
def Dep (wl : List Int) : Nat → Nat → Prop
  | 0, _ => False
  | d + 1, card => ∀ j : Nat, j < wl.length → gi wl j = (card : Int) → Dep wl d j
theorem not_dep {wl : List Int} : ∀ (d card : Nat), ¬ Dep wl (d + 1) card → ∃ j : Nat, j < wl.length ∧ upW wl (d + 1) (j : Int) = (card : Int)
  | 0, card, h => by
    apply Classical.byContradiction
    intro hno
    exact h (fun j hj he => (hno ⟨j, hj, by simp [upW]; exact he⟩).elim)
  | d + 1, card, h => by
    apply Classical.byContradiction
    intro hno
    refine h (fun j hj he => Classical.byContradiction fun hd => ?_)
    obtain ⟨i, hi, hu⟩ := not_dep d j hd
    refine hno ⟨i, hi, ?_⟩
    rw [upW_snoc, hu, if_neg (by omega)]
    exact he
theorem dep_succ {wl : List Int} : ∀ (d card : Nat), Dep wl d card → Dep wl (d + 1) card
  | 0, _, h => h.elim
  | d + 1, _, h => fun j hj he => dep_succ d j (h j hj he)
theorem dep_of {wl : List Int} (h : roundB wl = false) {card : Nat} (hc : card < wl.length) : Dep wl (wl.length + 1) card := by
  apply dep_succ
  obtain ⟨L, hL⟩ : ∃ L, wl.length = L + 1 := ⟨wl.length - 1, by omega⟩
  apply Classical.byContradiction
  intro hd
  rw [hL] at hd
  obtain ⟨j, hj, hu⟩ := not_dep L card hd
  have := roundB_false.1 h j hj
  rw [hL, hu] at this
  omega
theorem goW_bd {by_ : Int × Int} {rec : Nat → (Int × Int) × Bool} {wl : List Int} {card : Nat} {B D : Int} (hb1 : 0 ≤ by_.1 ∧ by_.1 ≤ 16384) (hb2 : 0 ≤ by_.2 ∧ by_.2 ≤ 16384) (hD : D + 16384 ≤ B) :
    ∀ (l : List Nat) (own : Int × Int), (∀ j ∈ l, 0 ≤ (rec j).1.1 ∧ (rec j).1.1 ≤ D ∧ 0 ≤ (rec j).1.2) → 0 ≤ own.1 ∧ own.1 ≤ B → 0 ≤ own.2 ∧ own.2 ≤ 16384 →
    0 ≤ (goW by_ rec wl card own l).1.1 ∧ (goW by_ rec wl card own l).1.1 ≤ B ∧ 0 ≤ (goW by_ rec wl card own l).1.2 ∧ (goW by_ rec wl card own l).1.2 ≤ 16384
  | [], own, _, h1, h2 => ⟨h1.1, h1.2, h2.1, h2.2⟩
  | j :: l, own, hr, h1, h2 => by
    have hj := hr j (by simp)
    unfold goW
    split
    · dsimp only
      split
      · exact goW_bd hb1 hb2 hD l _ (fun k hk => hr k (by simp [hk])) ⟨by dsimp only; omega, by dsimp only; omega⟩ ⟨by dsimp only; omega, by dsimp only; omega⟩
      · exact ⟨h1.1, h1.2, h2.1, h2.2⟩
    · exact goW_bd hb1 hb2 hD l _ (fun k hk => hr k (by simp [hk])) h1 h2
theorem valid_parts {p : Prs} (hv : p.valid = true) : p.cards.length ≤ 5 ∧ (∀ k, k < p.cards.length → (gp p.cards k).ok = true) ∧ spanOk p.llo p.lhi = true ∧ spanOk p.olo p.ohi = true := by
  unfold Prs.valid at hv
  simp only [Bool.and_eq_true, List.all_eq_true, decide_eq_true_eq] at hv
  exact ⟨hv.1.1.1, fun k hk => by simpa [gp, hk] using hv.1.1.2 (p.cards[k]) (by simp), hv.1.2, hv.2⟩
theorem span_bd {lo hi : Int} (h : spanOk lo hi = true) : (0 ≤ lo ∧ lo ≤ 16384) ∧ (0 ≤ hi ∧ hi ≤ 16384) := by
  unfold spanOk at h
  simp only [Bool.and_eq_true, decide_eq_true_eq] at h
  omega
theorem by_bd {p : Prs} (hv : p.valid = true) (what : Bool) : (0 ≤ (p.by_ what).1 ∧ (p.by_ what).1 ≤ 16384) ∧ (0 ≤ (p.by_ what).2 ∧ (p.by_ what).2 ≤ 16384) := by
  obtain ⟨_, _, h3, h4⟩ := valid_parts hv
  cases what
  · exact span_bd h3
  · exact span_bd h4
theorem of_bd {p : Prs} (hv : p.valid = true) (what : Bool) {k : Nat} (hk : k < p.cards.length) : (0 ≤ ((gp p.cards k).of what).1 ∧ ((gp p.cards k).of what).1 ≤ 16384) ∧ (0 ≤ ((gp p.cards k).of what).2 ∧ ((gp p.cards k).of what).2 ≤ 16384) := by
  have h := (valid_parts hv).2.1 k hk
  unfold Prt.ok at h
  simp only [Bool.and_eq_true] at h
  cases what
  · exact span_bd h.1.1
  · exact span_bd h.1.2
theorem whatF_bd {p : Prs} (hv : p.valid = true) {wl : List Int} (hl : wl.length = p.cards.length) (what : Bool) : ∀ (d card : Nat), card < p.cards.length →
    0 ≤ (whatF p wl what d card).1.1 ∧ (whatF p wl what d card).1.1 ≤ 16384 * d ∧ 0 ≤ (whatF p wl what d card).1.2 ∧ (whatF p wl what d card).1.2 ≤ 16384
  | 0, card, _ => by simp [whatF]
  | d + 1, card, hc => by
    have ho := of_bd hv what hc
    have hb := by_bd hv what
    exact goW_bd (D := 16384 * d) hb.1 hb.2 (by omega) _ _ (fun j hj => by
      have := whatF_bd hv hl what d j (by rw [← hl]; exact List.mem_range.1 hj)
      exact ⟨this.1, this.2.1, this.2.2.1⟩) ⟨by omega, by omega⟩ ⟨by omega, by omega⟩
theorem drop_range {L j : Nat} (h : j < L) : (List.range L).drop j = j :: (List.range L).drop (j + 1) := by
  rw [List.drop_eq_getElem_cons (by simpa using h)]
  simp
theorem goW_skip (by_ : Int × Int) (rec : Nat → (Int × Int) × Bool) (wl : List Int) (card : Nat) (own : Int × Int) {j L : Nat} (h : j < L) (hne : gi wl j ≠ (card : Int)) :
    goW by_ rec wl card own ((List.range L).drop j) = goW by_ rec wl card own ((List.range L).drop (j + 1)) := by
  rw [drop_range h]; simp [goW, hne]
theorem goW_no (by_ : Int × Int) (rec : Nat → (Int × Int) × Bool) (wl : List Int) (card : Nat) (own : Int × Int) {j L : Nat} (h : j < L) (he : gi wl j = (card : Int)) (hs : (rec j).2 = false) :
    goW by_ rec wl card own ((List.range L).drop j) = (own, false) := by
  rw [drop_range h]; simp [goW, he, hs]
theorem goW_yes (by_ : Int × Int) (rec : Nat → (Int × Int) × Bool) (wl : List Int) (card : Nat) (own : Int × Int) {j L : Nat} (h : j < L) (he : gi wl j = (card : Int)) (hs : (rec j).2 = true) :
    goW by_ rec wl card own ((List.range L).drop j) = goW by_ rec wl card (max own.1 ((rec j).1.1 + by_.1), min own.2 ((rec j).1.2 + by_.2)) ((List.range L).drop (j + 1)) := by
  rw [drop_range h]; simp [goW, he, hs]
theorem goW_end (by_ : Int × Int) (rec : Nat → (Int × Int) × Bool) (wl : List Int) (card : Nat) (own : Int × Int) (L : Nat) : goW by_ rec wl card own ((List.range L).drop L) = (own, decide (own.1 ≤ own.2)) := by
  rw [List.drop_of_length_le (by simp)]; rfl
end Go.Proofs.Ytnfhlbmapfoifaa

