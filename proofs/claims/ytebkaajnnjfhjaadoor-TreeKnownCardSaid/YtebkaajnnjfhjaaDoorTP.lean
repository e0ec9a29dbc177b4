/-
  What stands in a print: its bytes, its brackets. No program in sight.
-/
import Derived.Test.YtebkaajnnjfhjaaDoorTC
namespace Go.Proofs.YtebkaajnnjfhjaaDoor
set_option linter.unusedVariables false
set_option linter.unusedSimpArgs false
namespace Tr

/-- What is open behind a byte, and whether a class is. -/
def stp (c : UInt8) (o : Int) (i : Bool) : Int × Bool :=
  if c = 92 then (o, i) else if i then (o, c != 93) else if c = 91 then (o, true) else if c = 40 then (o + 1, false) else if c = 41 then (o - 1, false) else (o, false)
def scan : B → Int → Bool → Option (Int × Bool)
  | [], o, i => some (o, i)
  | c :: t, o, i => if c.toNat < 33 ∨ 126 < c.toNat then none else if (stp c o i).1 < 0 then none else scan (if c = 92 then t.drop 1 else t) (stp c o i).1 (stp c o i).2
termination_by l => l.length
decreasing_by simp_wf; split <;> simp <;> omega

theorem scan_plain {c : UInt8} (h1 : 33 ≤ c.toNat) (h2 : c.toNat ≤ 126) (h : c ≠ 92) (t : B) (o : Int) (i : Bool) (ho : 0 ≤ (stp c o i).1) : scan (c :: t) o i = scan t (stp c o i).1 (stp c o i).2 := by
  rw [scan, if_neg (by omega), if_neg (by omega), if_neg h]
theorem scan_esc (x : UInt8) (t : B) (o : Int) (i : Bool) (ho : 0 ≤ o) : scan (92 :: x :: t) o i = scan t o i := by
  have e : stp 92 o i = (o, i) := by unfold stp; rw [if_pos rfl]
  rw [scan, e, if_neg (by decide), if_neg (by simpa using ho), if_pos rfl]
  rfl
theorem hexd_fine : ∀ n : Fin 16, 33 ≤ (hexd n.val).toNat ∧ (hexd n.val).toNat ≤ 126 ∧ hexd n.val ≠ 92 ∧ hexd n.val ≠ 93 ∧ hexd n.val ≠ 91 ∧ hexd n.val ≠ 40 ∧ hexd n.val ≠ 41 := by decide
theorem stp_fine {c : UInt8} (h : c ≠ 92 ∧ c ≠ 93 ∧ c ≠ 91 ∧ c ≠ 40 ∧ c ≠ 41) (o : Int) (i : Bool) : stp c o i = (o, i) := by
  obtain ⟨h1, h2, h3, h4, h5⟩ := h
  unfold stp
  rw [if_neg h1]
  cases i
  · simp [h3, h4, h5]
  · simp [h2]
theorem scan_fine {c : UInt8} (h : 33 ≤ c.toNat ∧ c.toNat ≤ 126 ∧ c ≠ 92 ∧ c ≠ 93 ∧ c ≠ 91 ∧ c ≠ 40 ∧ c ≠ 41) (t : B) (o : Int) (i : Bool) (ho : 0 ≤ o) : scan (c :: t) o i = scan t o i := by
  have e := stp_fine h.2.2 o i
  rw [scan_plain h.1 h.2.1 h.2.2.1 _ _ _ (by rw [e]; exact ho), e]
theorem scan_hex (c : UInt8) (rest : B) (o : Int) (i : Bool) (ho : 0 ≤ o) : scan (92 :: 120 :: hexd (c.toNat / 16) :: hexd (c.toNat % 16) :: rest) o i = scan rest o i := by
  have hc := UInt8.toNat_lt c
  rw [scan_esc _ _ _ _ ho, scan_fine (hexd_fine ⟨c.toNat / 16, by omega⟩) _ _ _ ho, scan_fine (hexd_fine ⟨c.toNat % 16, by omega⟩) _ _ _ ho]
theorem scan_ins (c : UInt8) (rest : B) (o : Int) (ho : 0 ≤ o) : scan (one c inside ++ rest) o true = scan rest o true := by
  unfold one
  split
  · exact scan_hex c rest o true ho
  · split
    · exact scan_esc c rest o true ho
    · rename_i h1 h2
      have h' : inside.contains c = false := by simpa using h2
      have n1 : c ≠ 92 := by rintro rfl; exact absurd h' (by decide)
      have n2 : c ≠ 93 := by rintro rfl; exact absurd h' (by decide)
      have e : stp c o true = (o, true) := by unfold stp; rw [if_neg n1]; simp [n2]
      show scan (c :: rest) o true = _
      rw [scan_plain (by omega) (by omega) n1 _ _ _ (by rw [e]; exact ho), e]
theorem scan_out (c : UInt8) (rest : B) (o : Int) (ho : 0 ≤ o) : scan (one c marks ++ rest) o false = scan rest o false := by
  unfold one
  split
  · exact scan_hex c rest o false ho
  · split
    · exact scan_esc c rest o false ho
    · rename_i h1 h2
      have h' : marks.contains c = false := by simpa using h2
      refine scan_fine ⟨by omega, by omega, ?_, ?_, ?_, ?_, ?_⟩ rest o false ho
      all_goals (rintro rfl; exact absurd h' (by decide))
theorem scan_prun (r : UInt8 × UInt8) (rest : B) (o : Int) (ho : 0 ≤ o) : scan (prun r ++ rest) o true = scan rest o true := by
  unfold prun
  rw [List.append_assoc, List.append_assoc, scan_ins _ _ _ ho]
  have h2 : ∀ rest, scan ((if r.1.toNat < r.2.toNat then one r.2 inside else []) ++ rest) o true = scan rest o true := by
    intro rest
    split
    · exact scan_ins _ _ _ ho
    · rfl
  split
  · show scan (45 :: _) o true = _
    rw [scan_fine (by decide) _ _ _ ho]
    exact h2 rest
  · exact h2 rest
theorem scan_runs (rs : List (UInt8 × UInt8)) (rest : B) (o : Int) (ho : 0 ≤ o) : scan (rs.flatMap prun ++ rest) o true = scan rest o true := by
  induction rs with
  | nil => rfl
  | cons r rs ih => rw [List.flatMap_cons, List.append_assoc, scan_prun _ _ _ ho, ih]
theorem scan_set (s : W4) (hs : s.Ok) (rest : B) (o : Int) (ho : 0 ≤ o) : scan (pset s ++ rest) o false = scan rest o false := by
  rcases pset_cases s hs with ⟨e, h⟩ | ⟨c, e, h⟩ | e
  · rw [e]
    exact scan_fine (by decide) rest o false ho
  · rw [e]
    exact scan_out c rest o ho
  · rw [e]
    show scan (91 :: (((runs (mems s)).flatMap prun ++ [93]) ++ rest)) o false = _
    rw [List.append_assoc, scan_plain (by decide) (by decide) (by decide) _ _ _ (by exact ho)]
    show scan ((runs (mems s)).flatMap prun ++ 93 :: rest) o true = _
    rw [scan_runs _ _ _ ho, scan_plain (by decide) (by decide) (by decide) _ _ _ (by exact ho)]
    rfl
theorem scan_wr (b : Bool) (l rest : B) (o : Int) (ho : 0 ≤ o) (h : ∀ rest o, 0 ≤ o → scan (l ++ rest) o false = scan rest o false) : scan (wr b l ++ rest) o false = scan rest o false := by
  cases b
  · exact h rest o ho
  · show scan (40 :: ((l ++ [41]) ++ rest)) o false = _
    rw [List.append_assoc, scan_plain (by decide) (by decide) (by decide) _ _ _ (by show (0 : Int) ≤ o + 1; omega)]
    show scan (l ++ 41 :: rest) (o + 1) false = _
    rw [h _ _ (by omega), scan_plain (by decide) (by decide) (by decide) _ _ _ (by show (0 : Int) ≤ o + 1 - 1; omega)]
    show scan rest (o + 1 - 1) false = _
    rw [show o + 1 - 1 = o by omega]
theorem dgt_fine (n : Int) (h0 : 0 ≤ n) (h9 : n ≤ 9) : 33 ≤ (dgt n).toNat ∧ (dgt n).toNat ≤ 126 ∧ dgt n ≠ 92 ∧ dgt n ≠ 93 ∧ dgt n ≠ 91 ∧ dgt n ≠ 40 ∧ dgt n ≠ 41 := by
  obtain ⟨k, rfl⟩ := Int.eq_ofNat_of_zero_le h0
  have : ∀ k : Fin 10, 33 ≤ (dgt (k.val : Int)).toNat ∧ (dgt (k.val : Int)).toNat ≤ 126 ∧ dgt (k.val : Int) ≠ 92 ∧ dgt (k.val : Int) ≠ 93 ∧ dgt (k.val : Int) ≠ 91 ∧ dgt (k.val : Int) ≠ 40 ∧ dgt (k.val : Int) ≠ 41 := by decide
  exact this ⟨k, by omega⟩
theorem scan_ptm (mn mx : Int) (h : (mx = -1 ∧ (mn = 0 ∨ mn = 1)) ∨ (0 ≤ mn ∧ mn ≤ mx ∧ mx ≤ 9)) (rest : B) (o : Int) (ho : 0 ≤ o) : scan (ptm mn mx ++ rest) o false = scan rest o false := by
  unfold ptm
  split
  · split <;> exact scan_fine (by decide) _ _ _ ho
  · split
    · exact scan_fine (by decide) _ _ _ ho
    · have h' : 0 ≤ mn ∧ mn ≤ mx ∧ mx ≤ 9 := by omega
      split
      · show scan (123 :: dgt mn :: 125 :: rest) o false = _
        rw [scan_fine (by decide) _ _ _ ho, scan_fine (dgt_fine mn (by omega) (by omega)) _ _ _ ho, scan_fine (by decide) _ _ _ ho]
      · show scan (123 :: dgt mn :: 44 :: dgt mx :: 125 :: rest) o false = _
        rw [scan_fine (by decide) _ _ _ ho, scan_fine (dgt_fine mn (by omega) (by omega)) _ _ _ ho, scan_fine (by decide) _ _ _ ho, scan_fine (dgt_fine mx (by omega) (by omega)) _ _ _ ho, scan_fine (by decide) _ _ _ ho]
theorem scan_pn (t : T) (ht : t.Ok) : ∀ rest o, 0 ≤ o → scan (pn t ++ rest) o false = scan rest o false := by
  induction t with
  | emp => exact fun rest o ho => scan_wr true [] rest o ho (fun _ _ _ => rfl)
  | set s => exact fun rest o ho => scan_set s ht rest o ho
  | seq a b iha ihb =>
    intro rest o ho
    show scan ((wr _ (pn a) ++ wr _ (pn b)) ++ rest) o false = _
    rw [List.append_assoc, scan_wr _ _ _ _ ho (iha ht.1), scan_wr _ _ _ _ ho (ihb ht.2)]
  | alt a b iha ihb =>
    intro rest o ho
    show scan ((pn a ++ 124 :: wr _ (pn b)) ++ rest) o false = _
    rw [List.append_assoc, iha ht.1 _ _ ho]
    show scan (124 :: (wr _ (pn b) ++ rest)) o false = _
    rw [scan_fine (by decide) _ _ _ ho, scan_wr _ _ _ _ ho (ihb ht.2)]
  | tms a mn mx iha =>
    intro rest o ho
    show scan ((wr _ (pn a) ++ ptm mn mx) ++ rest) o false = _
    rw [List.append_assoc, scan_wr _ _ _ _ ho (iha ht.1), scan_ptm _ _ ht.2 _ _ ho]
theorem scan_parts (l : List (Bool × T)) (hok : ∀ x ∈ l, x.2.Ok) : scan (pparts l) 0 false = some (0, false) := by
  have hb : ∀ (n : Bool) (rest : B), scan ((if n then [33] else []) ++ rest) 0 false = scan rest 0 false := by
    intro n rest
    cases n
    · rfl
    · exact scan_fine (by decide) _ _ _ (by omega)
  induction l with
  | nil => rw [pparts, scan]
  | cons x r ih =>
    obtain ⟨n, t⟩ := x
    have ht : t.Ok := hok (n, t) (by simp)
    rcases r with _ | ⟨y, r⟩
    · have e : pparts [(n, t)] = (if n then [33] else []) ++ (pn t ++ []) := by unfold pparts; rw [List.append_nil]
      rw [e, hb, scan_pn t ht _ _ (by omega), scan]
    · have e : pparts ((n, t) :: y :: r) = (if n then [33] else []) ++ (pn t ++ 38 :: pparts (y :: r)) := rfl
      rw [e, hb, scan_pn t ht _ _ (by omega), scan_fine (by decide) _ _ _ (by omega)]
      exact ih fun x hx => hok x (List.mem_cons_of_mem _ hx)
theorem pparts_ne {l : List (Bool × T)} (h : l ≠ []) (hok : ∀ x ∈ l, x.2.Ok) : pparts l ≠ [] := by
  rcases l with _ | ⟨⟨n, t⟩, r⟩
  · exact absurd rfl h
  obtain ⟨c, u, e, _⟩ := pn_head t (hok (n, t) (by simp))
  rcases r with _ | ⟨y, r⟩
  · unfold pparts; rw [e]; simp
  · unfold pparts; rw [e]; simp

/-! ### how many are open at once -/
def mstp (c : UInt8) (n m : Int) (i : Bool) : Int := if c = 92 then m else if i then m else if c = 91 then m else if c = 40 then max m (n + 1) else m
def opn : B → Int → Int → Bool → Int
  | [], _, m, _ => m
  | c :: t, n, m, i => opn (if c = 92 then t.drop 1 else t) (stp c n i).1 (mstp c n m i) (stp c n i).2
termination_by l => l.length
decreasing_by simp_wf; split <;> simp <;> omega
theorem opn_esc (x : UInt8) (t : B) (n m : Int) (i : Bool) : opn (92 :: x :: t) n m i = opn t n m i := by
  have e : stp 92 n i = (n, i) := by unfold stp; rw [if_pos rfl]
  have e' : mstp 92 n m i = m := by unfold mstp; rw [if_pos rfl]
  rw [opn, e, e', if_pos rfl]
  rfl
theorem opn_plain {c : UInt8} (h : c ≠ 92) (t : B) (n m : Int) (i : Bool) : opn (c :: t) n m i = opn t (stp c n i).1 (mstp c n m i) (stp c n i).2 := by rw [opn, if_neg h]
theorem opn_fine {c : UInt8} (h : c ≠ 92 ∧ c ≠ 93 ∧ c ≠ 91 ∧ c ≠ 40 ∧ c ≠ 41) (t : B) (n m : Int) (i : Bool) : opn (c :: t) n m i = opn t n m i := by
  have e' : mstp c n m i = m := by unfold mstp; rw [if_neg h.1, if_neg h.2.2.1, if_neg h.2.2.2.1]; simp
  rw [opn_plain h.1, stp_fine h, e']
theorem opn_hex (c : UInt8) (rest : B) (n m : Int) (i : Bool) : opn (92 :: 120 :: hexd (c.toNat / 16) :: hexd (c.toNat % 16) :: rest) n m i = opn rest n m i := by
  have hc := UInt8.toNat_lt c
  rw [opn_esc, opn_fine (hexd_fine ⟨c.toNat / 16, by omega⟩).2.2, opn_fine (hexd_fine ⟨c.toNat % 16, by omega⟩).2.2]
theorem opn_in (c : UInt8) (rest : B) (n m : Int) : opn (one c inside ++ rest) n m true = opn rest n m true := by
  unfold one
  split
  · exact opn_hex c rest n m true
  · split
    · exact opn_esc c rest n m true
    · rename_i h1 h2
      have h' : inside.contains c = false := by simpa using h2
      have n1 : c ≠ 92 := by rintro rfl; exact absurd h' (by decide)
      have n2 : c ≠ 93 := by rintro rfl; exact absurd h' (by decide)
      have e : stp c n true = (n, true) := by unfold stp; rw [if_neg n1]; simp [n2]
      have e' : mstp c n m true = m := by unfold mstp; simp
      show opn (c :: rest) n m true = _
      rw [opn_plain n1, e, e']
theorem opn_out (c : UInt8) (rest : B) (n m : Int) : opn (one c marks ++ rest) n m false = opn rest n m false := by
  unfold one
  split
  · exact opn_hex c rest n m false
  · split
    · exact opn_esc c rest n m false
    · rename_i h1 h2
      have h' : marks.contains c = false := by simpa using h2
      refine opn_fine ⟨?_, ?_, ?_, ?_, ?_⟩ rest n m false
      all_goals (rintro rfl; exact absurd h' (by decide))
theorem opn_prun (r : UInt8 × UInt8) (rest : B) (n m : Int) : opn (prun r ++ rest) n m true = opn rest n m true := by
  unfold prun
  rw [List.append_assoc, List.append_assoc, opn_in]
  have h2 : ∀ rest, opn ((if r.1.toNat < r.2.toNat then one r.2 inside else []) ++ rest) n m true = opn rest n m true := by
    intro rest
    split
    · exact opn_in _ _ _ _
    · rfl
  split
  · show opn (45 :: _) n m true = _
    rw [opn_fine (by decide)]
    exact h2 rest
  · exact h2 rest
theorem opn_runs (rs : List (UInt8 × UInt8)) (rest : B) (n m : Int) : opn (rs.flatMap prun ++ rest) n m true = opn rest n m true := by
  induction rs with
  | nil => rfl
  | cons r rs ih => rw [List.flatMap_cons, List.append_assoc, opn_prun, ih]
theorem opn_set (s : W4) (hs : s.Ok) (rest : B) (n m : Int) : opn (pset s ++ rest) n m false = opn rest n m false := by
  rcases pset_cases s hs with ⟨e, h⟩ | ⟨c, e, h⟩ | e
  · rw [e]
    exact opn_fine (by decide) rest n m false
  · rw [e]
    exact opn_out c rest n m
  · rw [e]
    show opn (91 :: (((runs (mems s)).flatMap prun ++ [93]) ++ rest)) n m false = _
    rw [List.append_assoc, opn_plain (by decide)]
    show opn ((runs (mems s)).flatMap prun ++ 93 :: rest) n m true = _
    rw [opn_runs, opn_plain (by decide)]
    rfl
theorem opn_wr (b : Bool) (l rest : B) (k : Nat) (n m : Int) (hm : n ≤ m) (h : ∀ rest n m, n ≤ m → opn (l ++ rest) n m false = opn rest n (max m (n + k)) false) :
    opn (wr b l ++ rest) n m false = opn rest n (max m (n + (wn b k : Nat))) false := by
  cases b
  · exact h rest n m hm
  · show opn (40 :: ((l ++ [41]) ++ rest)) n m false = _
    rw [List.append_assoc, opn_plain (by decide)]
    show opn (l ++ 41 :: rest) (n + 1) (max m (n + 1)) false = _
    rw [h _ _ _ (by omega), opn_plain (by decide)]
    show opn rest (n + 1 - 1) (max (max m (n + 1)) (n + 1 + k)) false = _
    have e : max (max m (n + 1)) (n + 1 + k) = max m (n + (wn true k : Nat)) := by unfold wn; simp only [if_true]; omega
    rw [e, show n + 1 - 1 = n by omega]
theorem opn_ptm (mn mx : Int) (h : (mx = -1 ∧ (mn = 0 ∨ mn = 1)) ∨ (0 ≤ mn ∧ mn ≤ mx ∧ mx ≤ 9)) (rest : B) (n m : Int) : opn (ptm mn mx ++ rest) n m false = opn rest n m false := by
  unfold ptm
  split
  · split <;> exact opn_fine (by decide) _ _ _ _
  · split
    · exact opn_fine (by decide) _ _ _ _
    · have h' : 0 ≤ mn ∧ mn ≤ mx ∧ mx ≤ 9 := by omega
      split
      · show opn (123 :: dgt mn :: 125 :: rest) n m false = _
        rw [opn_fine (by decide), opn_fine (dgt_fine mn (by omega) (by omega)).2.2, opn_fine (by decide)]
      · show opn (123 :: dgt mn :: 44 :: dgt mx :: 125 :: rest) n m false = _
        rw [opn_fine (by decide), opn_fine (dgt_fine mn (by omega) (by omega)).2.2, opn_fine (by decide), opn_fine (dgt_fine mx (by omega) (by omega)).2.2, opn_fine (by decide)]
theorem opn_pn (t : T) (ht : t.Ok) : ∀ rest n m, n ≤ m → opn (pn t ++ rest) n m false = opn rest n (max m (n + (nst t : Nat))) false := by
  induction t with
  | emp => exact fun rest n m h => opn_wr true [] rest 0 n m h (fun rest n m h => by show opn rest n m false = _; congr 1; omega)
  | set s =>
    intro rest n m h
    show opn (pset s ++ rest) n m false = _
    rw [opn_set s ht]
    congr 1
    show m = max m (n + ((0 : Nat) : Int)); omega
  | seq a b iha ihb =>
    intro rest n m h
    show opn ((wr _ (pn a) ++ wr _ (pn b)) ++ rest) n m false = _
    rw [List.append_assoc, opn_wr _ _ _ _ _ _ h (iha ht.1), opn_wr _ _ _ _ _ _ (by omega) (ihb ht.2)]
    congr 1
    show _ = max m (n + ((max (wn a.isAlt (nst a)) (wn (b.isAlt || b.isSeq) (nst b)) : Nat) : Int)); omega
  | alt a b iha ihb =>
    intro rest n m h
    show opn ((pn a ++ 124 :: wr _ (pn b)) ++ rest) n m false = _
    rw [List.append_assoc, iha ht.1 _ _ _ h]
    show opn (124 :: (wr _ (pn b) ++ rest)) n _ false = _
    rw [opn_fine (by decide), opn_wr _ _ _ _ _ _ (by omega) (ihb ht.2)]
    congr 1
    show _ = max m (n + ((max (nst a) (wn b.isAlt (nst b)) : Nat) : Int)); omega
  | tms a mn mx iha =>
    intro rest n m h
    show opn ((wr _ (pn a) ++ ptm mn mx) ++ rest) n m false = _
    rw [List.append_assoc, opn_wr _ _ _ _ _ _ h (iha ht.1), opn_ptm _ _ ht.2]
    rfl
theorem opn_parts (l : List (Bool × T)) (hok : ∀ x ∈ l, x.2.Ok) : ∀ m, 0 ≤ m → opn (pparts l) 0 m false = max m (nsts l : Nat) := by
  have hb : ∀ (n : Bool) (rest : B) (m : Int), opn ((if n then [33] else []) ++ rest) 0 m false = opn rest 0 m false := by
    intro n rest m
    cases n
    · rfl
    · exact opn_fine (by decide) _ _ _ _
  induction l with
  | nil => intro m hm; rw [pparts, opn]; show m = max m ((0 : Nat) : Int); omega
  | cons x r ih =>
    intro m hm
    obtain ⟨n, t⟩ := x
    have ht : t.Ok := hok (n, t) (by simp)
    rcases r with _ | ⟨y, r⟩
    · have e : pparts [(n, t)] = (if n then [33] else []) ++ (pn t ++ []) := by unfold pparts; rw [List.append_nil]
      rw [e, hb, opn_pn t ht _ _ _ hm, opn]
      show _ = max m ((max (nst t) 0 : Nat) : Int)
      omega
    · have e : pparts ((n, t) :: y :: r) = (if n then [33] else []) ++ (pn t ++ 38 :: pparts (y :: r)) := rfl
      rw [e, hb, opn_pn t ht _ _ _ hm, opn_fine (by decide), ih (fun x hx => hok x (List.mem_cons_of_mem _ hx)) _ (by omega)]
      show _ = max m ((max (nst t) (nsts (y :: r)) : Nat) : Int)
      omega
end Tr
end Go.Proofs.YtebkaajnnjfhjaaDoor
