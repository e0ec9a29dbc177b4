/-
  The reader of layer 23 over lists of bytes: no program in sight.
-/
namespace Go.Proofs.YtckcgiimeaklcaaDoor
set_option linter.unusedVariables false
set_option linter.unusedSimpArgs false
namespace Ab
abbrev B := List UInt8

/-! ### elements as trees -/
inductive T where
  | txt : B → T
  | spn : Nat → Nat → T
  | nam : B → T
  | both : T → T → T
  | eith : T → T → T
  | oft : T → Int → Int → T
  deriving DecidableEq
structure El where
  k : Int
  t : B
  a : Int
  b : Int
  lo : Int
  hi : Int
  deriving DecidableEq
def sz : T → Nat
  | .txt _ => 1
  | .spn _ _ => 1
  | .nam _ => 1
  | .both x y => sz x + sz y + 1
  | .eith x y => sz x + sz y + 1
  | .oft x _ _ => sz x + 1
theorem sz_pos (t : T) : 1 ≤ sz t := by cases t <;> simp [sz]
def rootI (n : Nat) (t : T) : Int := (n : Int) + sz t - 1
/-- Its elements, the first one being number n; the root is the last one. -/
def post (n : Nat) : T → List El
  | .txt t => [⟨0, t, 0, 0, 0, 0⟩]
  | .spn a b => [⟨1, [], 0, 0, a, b⟩]
  | .nam t => [⟨2, t, 0, 0, 0, 0⟩]
  | .both x y => post n x ++ post (n + sz x) y ++ [⟨3, [], rootI n x, rootI (n + sz x) y, 0, 0⟩]
  | .eith x y => post n x ++ post (n + sz x) y ++ [⟨4, [], rootI n x, rootI (n + sz x) y, 0, 0⟩]
  | .oft x mn mx => post n x ++ [⟨5, [], rootI n x, 0, mn, mx⟩]
theorem post_len (t : T) : ∀ n, (post n t).length = sz t := by
  induction t with
  | txt t => intro n; rfl
  | spn a b => intro n; rfl
  | nam t => intro n; rfl
  | both a b iha ihb => intro n; simp [post, sz, iha, ihb]; omega
  | eith a b iha ihb => intro n; simp [post, sz, iha, ihb]; omega
  | oft a mn mx iha => intro n; simp [post, sz, iha]

/-! ### the reader: n is how many elements there are -/
inductive R (α : Type) where
  | ok (v : α) (l : B) (n : Nat) : R α
  | no (e : Int) : R α
def R.bnd {α β : Type} (r : R α) (f : α → B → Nat → R β) : R β :=
  match r with
  | .ok v l n => f v l n
  | .no e => .no e
def letter (c : UInt8) : Bool := decide (97 ≤ (c ||| 32).toNat) && decide ((c ||| 32).toNat ≤ 122)
def dig (c : UInt8) : Bool := decide (48 ≤ c.toNat) && decide (c.toNat ≤ 57)
def hv (c : UInt8) : Option Nat := if 48 ≤ c.toNat ∧ c.toNat ≤ 57 then some (c.toNat - 48) else if 97 ≤ c.toNat ∧ c.toNat ≤ 102 then some (c.toNat - 87) else if 65 ≤ c.toNat ∧ c.toNat ≤ 70 then some (c.toNat - 55) else none
def blanks (l : B) : B := l.dropWhile (· == 32)
def nmc (c : UInt8) : Bool := letter c || dig c || c == 45
def name : B → B × B
  | [] => ([], [])
  | c :: t => if letter c then (c :: t.takeWhile nmc, t.dropWhile nmc) else ([], c :: t)
/-- One or two digits; is there one, and what is behind. -/
def number : B → Int × Bool × B
  | [] => (0, false, [])
  | c :: t => if dig c then (match t with
      | [] => ((c.toNat : Int) - 48, true, [])
      | d :: r => if dig d then (10 * ((c.toNat : Int) - 48) + ((d.toNat : Int) - 48), true, r) else ((c.toNat : Int) - 48, true, d :: r))
    else (0, false, c :: t)
def hex : B → Option (Nat × B)
  | a :: b :: r => match hv a, hv b with
    | some m, some n => some (16 * m + n, r)
    | _, _ => none
  | _ => none
def nx (c : UInt8) (l : B) : Bool := l.head? == some c
/-- One element more. -/
def add (t : T) (l : B) (n : Nat) : R T := if n = 1500 then .no 3 else .ok t l (n + 1)
def odd (c : UInt8) : Bool := decide (c.toNat < 32) || decide (126 < c.toNat)
/-- What is behind a ". -/
def lit (l : B) (n : Nat) : R T :=
  match l.dropWhile (· != 34) with
  | [] => .no 8
  | _ :: r => if (l.takeWhile (· != 34)).any odd then .no 8 else add (.txt (l.takeWhile (· != 34))) r n
def spans (l : B) (n : Nat) : R T :=
  match hex l with
  | none => .no 8
  | some (x, l1) => if nx 45 l1 then (match hex (l1.drop 1) with
      | none => .no 8
      | some (y, l2) => if y < x then .no 8 else add (.spn x y) l2 n)
    else add (.spn x x) l1 n
def named (l : B) (n : Nat) : R T := if (name l).1 = [] then .no 8 else add (.nam (name l).1) (name l).2 n
def elm (grp : UInt8 → B → Nat → R T) (l : B) (n : Nat) : R T :=
  if nx 40 l then grp 41 (l.drop 1) n else
  if nx 91 l then (grp 93 (l.drop 1) n).bnd fun t l1 n1 => add (.oft t 0 1) l1 n1 else
  if nx 34 l then lit (l.drop 1) n else
  if nx 37 l && nx 120 (l.drop 1) then spans (l.drop 2) n else named l n
def rpt (grp : UInt8 → B → Nat → R T) (l : B) (n : Nat) : R T :=
  let a := number l
  if nx 42 a.2.2 then
    let b := number (a.2.2.drop 1)
    if b.2.1 = true ∧ b.1 < a.1 then .no 8 else (elm grp b.2.2 n).bnd fun t l1 n1 => add (.oft t a.1 (if b.2.1 then b.1 else -1)) l1 n1
  else if a.2.1 then (elm grp a.2.2 n).bnd fun t l1 n1 => add (.oft t a.1 a.1) l1 n1
  else elm grp a.2.2 n
def stops (l : B) : Bool := match l with
  | [] => true
  | c :: _ => c == 47 || c == 41 || c == 93
def catl (grp : UInt8 → B → Nat → R T) : Nat → T → B → Nat → R T
  | 0, _, _, _ => .no 99
  | f + 1, acc, l, n => if stops l then .ok acc l n else (rpt grp l n).bnd fun t l1 n1 => (add (.both acc t) l1 n1).bnd fun b l2 n2 => catl grp f b (blanks l2) n2
def cat (f0 : Nat) (grp : UInt8 → B → Nat → R T) (l : B) (n : Nat) : R T := (rpt grp (blanks l) n).bnd fun t l1 n1 => catl grp f0 t (blanks l1) n1
def altl (f0 : Nat) (grp : UInt8 → B → Nat → R T) : Nat → T → B → Nat → R T
  | 0, _, _, _ => .no 99
  | f + 1, acc, l, n => if nx 47 l then (cat f0 grp (l.drop 1) n).bnd fun t l1 n1 => (add (.eith acc t) l1 n1).bnd fun b l2 n2 => altl f0 grp f b l2 n2 else .ok acc l n
def alt (f0 : Nat) (grp : UInt8 → B → Nat → R T) (l : B) (n : Nat) : R T := (cat f0 grp l n).bnd fun t l1 n1 => altl f0 grp f0 t l1 n1
/-- What is behind a ( or a [; d more may be opened. -/
def grp (f0 : Nat) : Nat → UInt8 → B → Nat → R T
  | 0, _, _, _ => .no 3
  | d + 1, e, l, n => (alt f0 (grp f0 d) l n).bnd fun t l1 n1 => if nx e l1 then .ok t (l1.drop 1) n1 else .no 8
/-- The rules that there are: names and trees, in their row. -/
abbrev Rs := List (B × T)
def szs : Rs → Nat
  | [] => 0
  | r :: t => sz r.2 + szs t
def els : Nat → Rs → List El
  | _, [] => []
  | n, r :: t => post n r.2 ++ els (n + sz r.2) t
/-- The number of a rule's root. -/
def root (n : Nat) : Rs → B → Option Int
  | [], _ => none
  | r :: t, b => if r.1 = b then some (rootI n r.2) else root (n + sz r.2) t b
def hasR (rs : Rs) (b : B) : Bool := rs.any (·.1 == b)
/-- A line. -/
def rule (f0 : Nat) (rs : Rs) (l : B) : R (Option (B × T)) :=
  if blanks l = [] then .ok none [] (szs rs) else if rs.length = 100 then .no 3 else
  if (name (blanks l)).1 = [] then .no 8 else
  if nx 61 (blanks (name (blanks l)).2) then
    (alt f0 (grp f0 16) ((blanks (name (blanks l)).2).drop 1) (szs rs)).bnd fun t l1 n1 => if hasR rs (name (blanks l)).1 = true ∨ l1 ≠ [] then .no 8 else .ok (some ((name (blanks l)).1, t)) l1 n1
  else .no 8
inductive Rd where
  | good (rs : Rs) (lines : List Int) : Rd
  | bad (line : Int) (e : Int) : Rd
def addR (rs : Rs) : Option (B × T) → Rs
  | none => rs
  | some r => rs ++ [r]
def addL (ln : List Int) (i : Nat) : Option (B × T) → List Int
  | none => ln
  | some r => ln ++ List.replicate (sz r.2) (i : Int)
/-- The lines from number i on. -/
def lines : Nat → Rs → List Int → List B → Rd
  | _, rs, ln, [] => .good rs ln
  | i, rs, ln, s :: t => if nx 59 s then lines (i + 1) rs ln t else match rule 8001 rs s with
    | .no e => .bad i e
    | .ok r _ _ => lines (i + 1) (addR rs r) (addL ln i r) t
/-- The first name that no rule has: its line. -/
def missing (rs : Rs) : List El → List Int → Option Int
  | x :: t, i :: r => if x.k = 2 ∧ hasR rs x.t = false then some i else missing rs t r
  | _, _ => none
/-- Lines, parted by newlines. -/
def split : B → List B
  | [] => [[]]
  | c :: t => if c = 10 then [] :: split t else match split t with
    | [] => [[c]]
    | x :: r => (c :: x) :: r
def read (l : B) : Rd :=
  if 8000 < l.length then .bad 0 3 else match lines 1 [] [] (split l) with
  | .bad i e => .bad i e
  | .good rs ln => match missing rs (els 0 rs) ln with
    | some i => .bad i 4
    | none => .good rs ln
end Ab
end Go.Proofs.YtckcgiimeaklcaaDoor
