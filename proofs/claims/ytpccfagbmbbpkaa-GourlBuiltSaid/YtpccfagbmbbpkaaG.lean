/-
  Plain words for what package gourl tells of a text. No program in sight.
-/
import Derived.Test.YtpccfagbmbbpkaaPlain
import Derived.Test.YtpccfagbmbbpkaaSet
namespace Go.Proofs.Ytpccfagbmbbpkaa
namespace Gu

abbrev B := List UInt8
def ltr (c : Nat) : Bool := decide (97 ≤ c ∧ c ≤ 122) || decide (65 ≤ c ∧ c ≤ 90)
def dgt (c : Nat) : Bool := decide (48 ≤ c ∧ c ≤ 57)
def pln (c : Nat) : Bool := dgt c || ltr c
def ctl (c : Nat) : Bool := decide (c < 32) || decide (c = 127)
def mem (l : B) (c : Nat) : Bool := l.any fun d => decide (d.toNat = c)
def sch3 : B := [43, 45, 46]
def usrB : B := [45, 46, 95, 58, 126, 33, 36, 38, 39, 40, 41, 42, 43, 44, 59, 61, 37, 64]
def hstB : B := [45, 95, 46, 126, 33, 36, 38, 39, 40, 41, 42, 43, 44, 59, 61, 58, 91, 93, 60, 62, 34]
def bef (c : UInt8) (l : B) : B := l.takeWhile (· != c)
def aft (c : UInt8) (l : B) : B := (l.dropWhile (· != c)).drop 1
def lst (c : UInt8) : B → Int
  | [] => -1
  | d :: t => if 0 ≤ lst c t then lst c t + 1 else if d = c then 0 else -1
def sch : Nat → B → Int × Bool
  | _, [] => (-1, true)
  | i, c :: t => if c = 58 then ((i : Int), decide (0 < i)) else if !(pln c.toNat || mem sch3 c.toNat) || (decide (i = 0) && decide (c.toNat < 65)) then (-1, true) else sch (i + 1) t
def port : B → Bool
  | [] => true
  | c :: t => decide (c = 58) && t.all fun d => dgt d.toNat
def esch : B → Bool
  | c :: a :: b :: _ => Pc.ok a.toNat && Pc.ok b.toNat && (decide (8 ≤ Pc.v a.toNat) || [c, a, b] == [37, 50, 53])
  | _ => false
def named : B → Bool
  | [] => true
  | c :: t => (if c = 37 then esch (c :: t) else pln c.toNat || mem hstB c.toNat || decide (128 ≤ c.toNat)) && named t
/-- How many bytes of a place are its host; -1: it is refused. -/
def placeN (l : B) : Int := if l.head? = some 91 then (if lst 93 l < 0 then -1 else lst 93 l + 1) else if lst 58 l < 0 then l.length else lst 58 l
def place (l : B) : B × Bool := if placeN l < 0 then ([], false) else (l.take (placeN l).toNat, port (l.drop (placeN l).toNat) && named (l.take (placeN l).toNat))
def usrA (l : B) : Bool := l.all fun c => pln c.toNat || mem usrB c.toNat
def usr (l : B) : Bool := usrA l && Pc.valid l
def host (l : B) : B × Bool := if lst 64 l < 0 then place l else if usr (l.take (lst 64 l).toNat) then place (l.drop ((lst 64 l).toNat + 1)) else ([], false)
def two (l : B) (s : Bool) : Bool := List.isPrefixOf [47, 47] l && (s || !List.isPrefixOf [47, 47, 47] l)
def rooted (l : B) (s : Bool) : Option (B × B) :=
  if two l s then
    if (host (bef 47 (l.drop 2))).2 then
      if Pc.valid ((l.drop 2).drop (bef 47 (l.drop 2)).length) then some ((host (bef 47 (l.drop 2))).1, (l.drop 2).drop (bef 47 (l.drop 2)).length) else none
    else none
  else if Pc.valid l then some ([], l) else none
def rest (w : B) : B := bef 63 ((bef 35 w).drop ((sch 0 (bef 35 w)).1 + 1).toNat)
def parse (w : B) : Option (B × B) :=
  if !Pc.valid (aft 35 w) || !((bef 35 w).all fun c => !ctl c.toNat) then none
  else if !(sch 0 (bef 35 w)).2 then none
  else if !List.isPrefixOf [47] (rest w) then
    if 0 ≤ (sch 0 (bef 35 w)).1 then some ([], [])
    else if mem (bef 47 (rest w)) 58 then none
    else rooted (rest w) false
  else rooted (rest w) (decide (0 ≤ (sch 0 (bef 35 w)).1))

theorem lst_ge (c : UInt8) (l : B) : -1 ≤ lst c l ∧ lst c l < l.length := by
  induction l with
  | nil => simp [lst]
  | cons d t ih => rw [lst, List.length_cons]; split <;> (try split) <;> omega
theorem bef_len (c : UInt8) (l : B) : (bef c l).length ≤ l.length := by
  unfold bef
  exact (List.takeWhile_sublist _).length_le
theorem placeN_le (l : B) : -1 ≤ placeN l ∧ placeN l ≤ l.length := by
  have h1 := lst_ge 93 l
  have h2 := lst_ge 58 l
  unfold placeN
  split <;> split <;> omega
theorem sch_le (l : B) : ∀ i, -1 ≤ (sch i l).1 ∧ (sch i l).1 < (i : Int) + l.length := by
  induction l with
  | nil => intro i; simp [sch]; omega
  | cons c t ih =>
    intro i
    rw [sch, List.length_cons]
    split
    · simp only; omega
    · split
      · simp only; omega
      · have := ih (i + 1); omega
theorem sch_bd (l : B) : -1 ≤ (sch 0 l).1 ∧ (sch 0 l).1 < l.length := by have := sch_le l 0; omega
/-- Sets as predicates. -/
def PL : W4 := (W4.range 48 57).or ((W4.range 97 122).or (W4.range 65 90))
theorem ok_PL : PL.Ok := W4.ok_or (W4.ok_range _ _) (W4.ok_or (W4.ok_range _ _) (W4.ok_range _ _))
theorem has_PL (c : Nat) (h : c < 256) : PL.has c = pln c := by
  unfold PL pln dgt ltr
  rw [W4.has_or, W4.has_or, W4.has_range _ _ _ (by omega) h, W4.has_range _ _ _ (by omega) h, W4.has_range _ _ _ (by omega) h]
def SM (l : B) : W4 := PL.or (W4.ofList l)
theorem ok_SM (l : B) : (SM l).Ok := W4.ok_or ok_PL (W4.ok_ofList l)
theorem has_SM (l : B) (c : Nat) (h : c < 256) : (SM l).has c = (pln c || mem l c) := by
  unfold SM
  rw [W4.has_or, has_PL c h, W4.has_ofList l c h]; rfl
def HS : W4 := (SM hstB).or (W4.range 128 255)
theorem ok_HS : HS.Ok := W4.ok_or (ok_SM _) (W4.ok_range _ _)
theorem has_HS (c : Nat) (h : c < 256) : HS.has c = (pln c || mem hstB c || decide (128 ≤ c)) := by
  unfold HS
  rw [W4.has_or, has_SM _ c h, W4.has_range _ _ _ (by omega) h]
  congr 1
  rw [Bool.eq_iff_iff]; simp; omega
def NC : W4 := ((W4.range 0 31).or (W4.ofList [127])).not
theorem ok_NC : NC.Ok := W4.ok_not _
theorem has_NC (c : Nat) (h : c < 256) : NC.has c = !ctl c := by
  unfold NC ctl
  rw [W4.has_not (W4.ok_or (W4.ok_range _ _) (W4.ok_ofList _)), W4.has_or, W4.has_range _ _ _ (by omega) h, W4.has_ofList _ c h]
  congr 1
  rw [Bool.eq_iff_iff]; simp; omega
end Gu
end Go.Proofs.Ytpccfagbmbbpkaa
