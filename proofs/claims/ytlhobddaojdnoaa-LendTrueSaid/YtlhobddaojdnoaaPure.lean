/- What a cabinet of lent cards can come to, in plain Lean: no program in sight. -/
namespace Go.Proofs.Ytlhobddaojdnoaa

structure Ln where
  kind : Int
  card : Int
  person : Int
  slot : Int
deriving DecidableEq

structure Cab where
  slots : Int
  homes : List Int
  wrong : Int
  loans : List Ln

/-- The k-th number, the k-th loan. -/
def gi (l : List Int) (k : Nat) : Int := l.getD k 0
def gl (l : List Ln) (k : Nat) : Ln := l.getD k ⟨0, 0, 0, 0⟩

def inR (n lo hi : Int) : Bool := decide (lo ≤ n) && decide (n ≤ hi)

namespace Cab
def card (c : Cab) (n : Int) : Bool := inR n 0 ((c.homes.length : Int) - 1)
def slotOf (c : Cab) (n : Int) : Bool := inR n 0 (c.slots - 1)
def lent (c : Cab) (l : Ln) : Bool := c.card l.card && inR l.person 0 7
def look (c : Cab) (l : Ln) : Bool := c.slotOf l.slot && (decide (l.card = -1) || c.card l.card)
def loanOk (c : Cab) (l : Ln) : Bool :=
  if l.kind = 0 then c.lent l else if l.kind = 1 then c.lent l else if l.kind = 2 then c.look l else false
def homesOk (c : Cab) : Bool := decide (c.homes.Nodup) && c.homes.all c.slotOf
def sizes (c : Cab) : Bool := inR c.slots 1 6 && decide (c.homes.length ≤ 5) && inR c.wrong 0 12 && decide (c.loans.length ≤ 12)
def valid (c : Cab) : Bool := c.sizes && c.homesOk && c.loans.all c.loanOk
end Cab

/-- Which card lies in a slot, from card k on; -1: none. -/
def liesFrom : List Int → Int → Nat → Int
  | [], _, _ => -1
  | x :: r, slot, k => if x = slot then (k : Int) else liesFrom r slot (k + 1)
def lies (at_ : List Int) (slot : Int) : Int := liesFrom at_ slot 0

/-- What a loan can come to: where the cards are then, and whether one was put back wrong. -/
def step (c : Cab) (at_ : List Int) (l : Ln) : List (List Int × Bool) :=
  if l.kind = 0 then (if gi at_ l.card.toNat = -1 then [] else [(at_.set l.card.toNat (-1), false)])
  else if l.kind = 1 then
    (if gi at_ l.card.toNat = -1 then
      (List.range c.slots.toNat).filterMap fun (s : Nat) =>
        if lies at_ (s : Int) = -1 then some (at_.set l.card.toNat (s : Int), !decide ((s : Int) = gi c.homes l.card.toNat)) else none
     else [])
  else (if lies at_ l.slot = l.card then [(at_, false)] else [])

/-- All ways through some loans. -/
def paths (c : Cab) : List Ln → List Int → List (List Int × List Bool)
  | [], at_ => [(at_, [])]
  | l :: ls, at_ => (step c at_ l).flatMap fun x => (paths c ls x.1).map fun y => (y.1, x.2 :: y.2)

def wrongs (bs : List Bool) : Nat := bs.countP id

/-- A rule: whether a loan (its number, itself) may be right, or wrong. -/
abbrev Rule := Nat → Ln → Bool → Bool
def okAll (r : Rule) : Nat → List Ln → List Bool → Bool
  | _, [], _ => true
  | _, _, [] => true
  | i, l :: ls, b :: bs => r i l b && okAll r (i + 1) ls bs

def anyRule : Rule := fun _ _ _ => true
def mustRule (k : Int) (w : Bool) : Rule := fun i _ b => !decide ((i : Int) = k) || (b == w)
def honestRule (p : Int) : Rule := fun _ l b => !decide (l.person = p) || !b

/-- All truths by a rule, for so many loans, if at most so many are wrong. -/
def truthsBy (c : Cab) (r : Rule) (ls : List Ln) (W : Int) : List (List Int × List Bool) :=
  (paths c ls c.homes).filter fun x => okAll r 0 ls x.2 && decide ((wrongs x.2 : Int) ≤ W)

def truths (c : Cab) : List (List Int × List Bool) := truthsBy c anyRule c.loans c.wrong

/-- A set of small numbers. -/
def bitsOf (l : List Nat) : Nat := l.foldl (fun s n => s ||| 2 ^ n) 0

def checkFrom (c : Cab) : Nat → Nat → Int × Int
  | 0, _ => (0, 4)
  | f + 1, i => if (truthsBy c anyRule (c.loans.take (i + 1)) c.wrong).isEmpty then ((i : Int), 0) else checkFrom c f (i + 1)
def check (c : Cab) : Int × Int := if c.valid then checkFrom c c.loans.length 0 else (0, 1)

def openE (c : Cab) (ok : Bool) : Int :=
  if !c.valid then 1 else if !ok then 2 else if (truths c).isEmpty then 4 else 0

def whereE (c : Cab) (card : Int) : Int × Bool × Int :=
  let e := openE c (c.card card)
  if e = 0 then
    let l := (truths c).map fun x => gi x.1 card.toNat
    ((bitsOf ((l.filter fun s => !decide (s = -1)).map Int.toNat) : Int), l.any (fun s => decide (s = -1)), 0)
  else (0, false, e)

def slotE (c : Cab) (slot : Int) : Int × Bool × Int :=
  let e := openE c (c.slotOf slot)
  if e = 0 then
    let l := (truths c).map fun x => lies x.1 slot
    ((bitsOf ((l.filter fun s => !decide (s = -1)).map Int.toNat) : Int), l.any (fun s => decide (s = -1)), 0)
  else (0, false, e)

def minL : List Nat → Nat
  | [] => 0
  | x :: l => l.foldl min x
def maxL : List Nat → Nat := fun l => l.foldl max 0

def wrongsE (c : Cab) : Int × Int :=
  if !c.valid then (0, 1) else
  let l := truthsBy c anyRule c.loans c.loans.length
  if l.isEmpty then (0, 4) else ((minL (l.map fun x => wrongs x.2) : Int), 0)

def blameE (c : Cab) : Int × Int × Int :=
  let e := openE c true
  if e = 0 then
    let is := (List.range c.loans.length).filter fun i => decide ((gl c.loans i).kind = 1)
    ((bitsOf (is.filter fun (i : Nat) => (truthsBy c (mustRule i false) c.loans c.wrong).isEmpty) : Int),
     (bitsOf (is.filter fun (i : Nat) => !(truthsBy c (mustRule i true) c.loans c.wrong).isEmpty) : Int), 0)
  else (0, 0, e)

def peopleE (c : Cab) : Int × Int × Int :=
  let e := openE c true
  if e = 0 then
    let is := (List.range c.loans.length).filter fun i => decide ((gl c.loans i).kind = 1)
    ((bitsOf ((List.range 8).filter fun (p : Nat) => (truthsBy c (honestRule p) c.loans c.wrong).isEmpty) : Int),
     (bitsOf ((is.filter fun (i : Nat) => !(truthsBy c (mustRule i true) c.loans c.wrong).isEmpty).map fun i => (gl c.loans i).person.toNat) : Int), 0)
  else (0, 0, e)

def away (c : Cab) (at_ : List Int) : Nat := (at_.zip c.homes).countP fun x => !decide (x.1 = -1) && !decide (x.1 = x.2)

def misplacedE (c : Cab) : (Int × Int) × Int :=
  let e := openE c true
  if e = 0 then
    let l := (truths c).map fun x => away c x.1
    (((minL l : Int), (maxL l : Int)), 0)
  else ((0, 0), e)

/-- Each state once. -/
def dedup : List (List Int) → List (List Int)
  | [] => []
  | x :: l => if l.contains x then dedup l else x :: dedup l
def states (c : Cab) : List (List Int) := dedup ((truths c).map (·.1))

def worst (l : List (List Int)) (slot : Int) : Nat := maxL (l.map fun a => l.countP fun b => decide (lies b slot = lies a slot))
def nextFrom (l : List (List Int)) : Nat → Nat → Nat → Nat → Int × Int
  | 0, _, best, left => ((best : Int), (left : Int))
  | f + 1, s, best, left => if worst l (s : Int) < left then nextFrom l f (s + 1) s (worst l (s : Int)) else nextFrom l f (s + 1) best left
def nextE (c : Cab) : Int × Int × Int :=
  let e := openE c true
  if e = 0 then
    let l := states c
    if l.length ≤ 1 then (0, 0, 4) else ((nextFrom l c.slots.toNat 0 0 (l.length + 1)).1, (nextFrom l c.slots.toNat 0 0 (l.length + 1)).2, 0)
  else (0, 0, e)

def sampleC (wrong : Int) (looked : Bool) : Cab :=
  { slots := 4, homes := [0, 1, 2], wrong := wrong,
    loans := [⟨0, 0, 0, 0⟩, ⟨0, 1, 1, 0⟩, ⟨1, 0, 0, 0⟩, ⟨1, 1, 1, 0⟩] ++ if looked then [⟨2, 0, 0, 1⟩] else [] }

theorem alive1 : check (sampleC 1 true) = (4, 0) ∧ whereE (sampleC 1 false) 0 = (9, false, 0) ∧ slotE (sampleC 1 false) 3 = (3, true, 0) ∧ wrongsE (sampleC 1 true) = (2, 0) := by
  decide +kernel
theorem alive2 : blameE (sampleC 2 true) = (12, 12, 0) ∧ peopleE (sampleC 1 false) = (0, 3, 0) ∧ misplacedE (sampleC 2 true) = ((2, 2), 0) ∧ nextE (sampleC 1 false) = (3, 1, 0) := by
  decide +kernel
theorem names1 : (check (sampleC 1 false)).2 = 4 ∧ (check (sampleC 2 true)).2 = 4 ∧ (whereE (sampleC 1 false) 1).1 = 10 ∧ (whereE (sampleC 1 false) 2).1 = 4 ∧ slotE (sampleC 1 false) 0 = (1, true, 0) ∧ wrongsE (sampleC 1 false) = (0, 0) := by
  decide +kernel
theorem names2 : blameE (sampleC 1 false) = (0, 12, 0) ∧ peopleE (sampleC 2 true) = (3, 3, 0) ∧ misplacedE (sampleC 1 false) = ((0, 1), 0) ∧ nextE (sampleC 2 true) = (0, 1, 0) := by
  decide +kernel

end Go.Proofs.Ytlhobddaojdnoaa
