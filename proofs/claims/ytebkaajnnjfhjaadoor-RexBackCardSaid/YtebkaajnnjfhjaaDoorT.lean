/-
  The trees of layer 6 as an inductive type, their prints, and the reader of layer 7 over lists of bytes: no program in sight.
-/
import Derived.Test.YtebkaajnnjfhjaaDoorSet
namespace Go.Proofs.YtebkaajnnjfhjaaDoor
set_option linter.unusedVariables false
set_option linter.unusedSimpArgs false
namespace Tr
abbrev B := List UInt8

/-! ### trees and prints -/
inductive T where
  | emp : T
  | set : W4 → T
  | seq : T → T → T
  | alt : T → T → T
  | tms : T → Int → Int → T
  deriving DecidableEq

def hexd (n : Nat) : UInt8 := if n < 10 then UInt8.ofNat (48 + n) else UInt8.ofNat (87 + n)
def marks : B := [38, 33, 124, 42, 43, 63, 123, 125, 91, 93, 40, 41, 46, 92]
def inside : B := [92, 93, 94, 45]
def one (c : UInt8) (behind : B) : B := if c.toNat < 33 ∨ 126 < c.toNat then [92, 120, hexd (c.toNat / 16), hexd (c.toNat % 16)] else if behind.contains c then [92, c] else [c]
/-- The members, ascending. -/
def mems (s : W4) : B := ((List.range 256).filter fun n => s.has n).map UInt8.ofNat
def runs : B → List (UInt8 × UInt8)
  | [] => []
  | x :: t => match runs t with
    | [] => [(x, x)]
    | (y, z) :: r => if y.toNat = x.toNat + 1 then (x, z) :: r else (x, x) :: (y, z) :: r
def prun (r : UInt8 × UInt8) : B := one r.1 inside ++ ((if r.1.toNat + 1 < r.2.toNat then [45] else []) ++ (if r.1.toNat < r.2.toNat then one r.2 inside else []))
def pset (s : W4) : B :=
  if (mems s).length = 256 then [46] else match mems s with
    | [c] => one c marks
    | l => 91 :: ((runs l).flatMap prun ++ [93])
def dgt (n : Int) : UInt8 := UInt8.ofNat (48 + n.toNat)
def ptm (mn mx : Int) : B :=
  if mx = -1 then (if mn = 0 then [42] else [43]) else if mn = 0 ∧ mx = 1 then [63] else if mn = mx then [123, dgt mn, 125] else [123, dgt mn, 44, dgt mx, 125]
def T.isAlt : T → Bool
  | .alt _ _ => true
  | _ => false
def T.isSeq : T → Bool
  | .seq _ _ => true
  | _ => false
def T.isTms : T → Bool
  | .tms _ _ _ => true
  | _ => false
def wr (b : Bool) (l : B) : B := if b then 40 :: (l ++ [41]) else l
def pn : T → B
  | .emp => [40, 41]
  | .set s => pset s
  | .seq a b => wr a.isAlt (pn a) ++ wr (b.isAlt || b.isSeq) (pn b)
  | .alt a b => pn a ++ 124 :: wr b.isAlt (pn b)
  | .tms a mn mx => wr (a.isSeq || a.isAlt || a.isTms) (pn a) ++ ptm mn mx
/-- May its numbers be? -/
def T.Ok : T → Prop
  | .emp => True
  | .set s => s.Ok
  | .seq a b => a.Ok ∧ b.Ok
  | .alt a b => a.Ok ∧ b.Ok
  | .tms a mn mx => a.Ok ∧ ((mx = -1 ∧ (mn = 0 ∨ mn = 1)) ∨ (0 ≤ mn ∧ mn ≤ mx ∧ mx ≤ 9))
/-- How many ( of the print are open at once. -/
def wn (b : Bool) (n : Nat) : Nat := if b then n + 1 else n
def nst : T → Nat
  | .emp => 1
  | .set _ => 0
  | .seq a b => max (wn a.isAlt (nst a)) (wn (b.isAlt || b.isSeq) (nst b))
  | .alt a b => max (nst a) (wn b.isAlt (nst b))
  | .tms a _ _ => wn (a.isSeq || a.isAlt || a.isTms) (nst a)

/-! ### the reader -/
inductive R (α : Type) where
  | ok (v : α) (l : B) (p : Nat) : R α
  | no (p : Nat) (e : Int) : R α
def R.bnd {α β : Type} (r : R α) (f : α → B → Nat → R β) : R β :=
  match r with
  | .ok v l p => f v l p
  | .no p e => .no p e
/-- Is a byte next? -/
def nx (c : UInt8) (l : B) : Bool := l.head? == some c
def hv (c : UInt8) : Option Nat := if 48 ≤ c.toNat ∧ c.toNat ≤ 57 then some (c.toNat - 48) else if 97 ≤ c.toNat ∧ c.toNat ≤ 102 then some (c.toNat - 87) else if 65 ≤ c.toNat ∧ c.toNat ≤ 70 then some (c.toNat - 55) else none
def hx2 : B → Option UInt8
  | x :: a :: b :: _ => if x = 120 then (match hv a, hv b with
    | some m, some n => some (UInt8.ofNat (16 * m + n))
    | _, _ => none) else none
  | _ => none
/-- What is behind a backslash that stood at a place. -/
def esc (place : Nat) (of : B) (l : B) (p : Nat) : R UInt8 :=
  match l with
  | [] => .no place 8
  | c :: t => if of.contains c then .ok c t (p + 1) else match hx2 (c :: t) with
    | some x => .ok x (t.drop 2) (p + 3)
    | none => .no place 8
def item (l : B) (p : Nat) : R UInt8 :=
  match l with
  | [] => .no p 8
  | c :: t => if c = 92 then esc p inside t (p + 1) else if inside.contains c then .no p 8 else .ok c t (p + 1)
def cls : Nat → W4 → B → Nat → R W4
  | 0, _, _, p => .no p 99
  | f + 1, s, l, p => if nx 93 l then .ok s (l.drop 1) (p + 1) else
    (item l p).bnd fun a l1 p1 => if nx 45 l1 then (item (l1.drop 1) (p1 + 1)).bnd fun b l2 p2 => if b.toNat < a.toNat then .no (p1 + 1) 8 else cls f (s.or (W4.range a.toNat b.toNat)) l2 p2
      else cls f (s.or (W4.range a.toNat a.toNat)) l1 p1
def klass (f : Nat) (l : B) (p : Nat) : R W4 :=
  if nx 94 l then (cls f W4.zero (l.drop 1) (p + 1)).bnd fun s l1 p1 => .ok s.not l1 p1 else cls f W4.zero l p
/-- One that begins with the byte c, at p; l is what is behind c. -/
def atm (f : Nat) (grp : Nat → B → Nat → R T) (c : UInt8) (l : B) (p : Nat) : R T :=
  if c = 40 then grp p l (p + 1) else
  if c = 46 then .ok (.set W4.zero.not) l (p + 1) else
  if c = 91 then (klass f l (p + 1)).bnd fun s l1 p1 => .ok (.set s) l1 p1 else
  if c = 92 then (esc p marks l (p + 1)).bnd fun x l1 p1 => .ok (.set (W4.ofList [x])) l1 p1 else
  if marks.contains c then .no p 8 else .ok (.set (W4.ofList [c])) l (p + 1)
def digit (l : B) (p : Nat) : R Int :=
  match l with
  | [] => .no p 8
  | c :: t => if 48 ≤ c.toNat ∧ c.toNat ≤ 57 then .ok (c.toNat - 48 : Int) t (p + 1) else .no p 8
def brace (mn mx : Int) (l : B) (p : Nat) : R (Option (Int × Int)) := if nx 125 l then .ok (some (mn, mx)) (l.drop 1) (p + 1) else .no p 8
def tim (l : B) (p : Nat) : R (Option (Int × Int)) :=
  if nx 42 l then .ok (some (0, -1)) (l.drop 1) (p + 1) else
  if nx 43 l then .ok (some (1, -1)) (l.drop 1) (p + 1) else
  if nx 63 l then .ok (some (0, 1)) (l.drop 1) (p + 1) else
  if nx 123 l then
    (digit (l.drop 1) (p + 1)).bnd fun mn l1 p1 =>
      if nx 44 l1 then (digit (l1.drop 1) (p1 + 1)).bnd fun mx l2 p2 => if mx < mn then .no (p1 + 1) 8 else brace mn mx l2 p2
      else brace mn mn l1 p1
  else .ok none l p
def tmd (t : T) : Option (Int × Int) → T
  | none => t
  | some (a, b) => .tms t a b
def sqd (t : T) : Option T → T
  | none => t
  | some a => .seq a t
def stops (l : B) : Bool := match l with
  | [] => true
  | c :: _ => c == 124 || c == 41 || c == 38
def bra (f0 : Nat) (grp : Nat → B → Nat → R T) : Nat → Option T → B → Nat → R T
  | 0, _, _, p => .no p 99
  | f + 1, acc, l, p => if stops l then .ok (acc.getD .emp) l p else match l with
    | [] => .no p 99
    | c :: t => (atm f0 grp c t p).bnd fun x l1 p1 => (tim l1 p1).bnd fun m l2 p2 => bra f0 grp f (some (sqd (tmd x m) acc)) l2 p2
def pts (f0 : Nat) (grp : Nat → B → Nat → R T) : Nat → T → B → Nat → R T
  | 0, _, _, p => .no p 99
  | f + 1, acc, l, p => if nx 124 l then (bra f0 grp f0 none (l.drop 1) (p + 1)).bnd fun t l1 p1 => pts f0 grp f (.alt acc t) l1 p1 else .ok acc l p
def pat (f0 : Nat) (grp : Nat → B → Nat → R T) (l : B) (p : Nat) : R T := (bra f0 grp f0 none l p).bnd fun t l1 p1 => pts f0 grp f0 t l1 p1
/-- What is behind a ( that stood at a place; d more may be opened. -/
def grp (f0 : Nat) : Nat → Nat → B → Nat → R T
  | 0, place, _, _ => .no place 3
  | d + 1, _, l, p => (pat f0 (grp f0 d) l p).bnd fun t l1 p1 => if nx 41 l1 then .ok t (l1.drop 1) (p1 + 1) else .no p1 8
def bangs : Bool → B → Nat → Bool × B × Nat
  | b, 33 :: t, p => bangs (!b) t (p + 1)
  | b, l, p => (b, l, p)
def cons (f0 d : Nat) : Nat → List (Bool × T) → B → Nat → R (List (Bool × T))
  | 0, _, _, p => .no p 99
  | f + 1, acc, l, p =>
    let b := bangs false l p
    (pat f0 (grp f0 d) b.2.1 b.2.2).bnd fun t l1 p1 =>
      if l1 = [] then .ok (acc ++ [(b.1, t)]) l1 p1 else if nx 38 l1 then (if acc.length + 1 = 20 then .no p1 3 else cons f0 d f (acc ++ [(b.1, t)]) (l1.drop 1) (p1 + 1)) else .no p1 8
end Tr
end Go.Proofs.YtebkaajnnjfhjaaDoor
