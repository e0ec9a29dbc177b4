/-
  What TallyRow asks of a tally: the one row in order, its least and greatest, the mean of one. No program in sight.
-/
import Derived.Test.YtedllapajgcfeaaGreatDoorOfg
namespace Go.Proofs.YtedllapajgcfeaaGreatDoor
set_option linter.unusedVariables false
set_option linter.unusedSimpArgs false
set_option exponentiation.threshold 3000
open Ieee

def canS (l : List Nat) : List Nat := (canonL l).mergeSort (fun a b => decide (rk a ≤ rk b))
theorem canS_perm (l : List Nat) : (canS l).Perm (canonL l) := List.mergeSort_perm _ _
theorem canS_sorted (l : List Nat) : (canS l).Pairwise Rle := by
  have h := List.pairwise_mergeSort (le := fun a b => decide (rk a ≤ rk b)) (fun a b c h1 h2 => decide_eq_true (Int.le_trans (of_decide_eq_true h1) (of_decide_eq_true h2))) (fun a b => by
    rcases Int.le_total (rk a) (rk b) with h | h
    · simp [h]
    · simp [h]) (canonL l)
  exact h.imp fun h => of_decide_eq_true h
def Can (x : Nat) : Prop := x < 18446744073709551616 ∧ (nanB x = true → x = 9221120237041090561)
theorem can_canon {x : Nat} (h : x < 18446744073709551616) : Can (canon x) := by
  unfold canon
  cases hn : nanB x
  · exact ⟨h, fun k => by rw [if_neg (by decide)] at k; rw [hn] at k; cases k⟩
  · exact ⟨by rw [if_pos rfl]; decide, fun _ => rfl⟩
theorem can_eq {x y : Nat} (hx : Can x) (hy : Can y) (h : rk x = rk y) : x = y := by
  cases nx : nanB x
  · cases ny : nanB y
    · exact rk_inj hx.1 hy.1 nx ny h
    · have := rk_gt nx
      rw [h, rk_nan ny] at this
      omega
  · cases ny : nanB y
    · have := rk_gt ny
      rw [← h, rk_nan nx] at this
      omega
    · rw [hx.2 nx, hy.2 ny]
theorem map_inj {L M : List Nat} (hL : ∀ x ∈ L, Can x) (hM : ∀ x ∈ M, Can x) (h : L.map rk = M.map rk) : L = M := by
  induction L generalizing M with
  | nil => cases M with
    | nil => rfl
    | cons y M => cases h
  | cons x L ih =>
    cases M with
    | nil => cases h
    | cons y M =>
      simp only [List.map_cons, List.cons.injEq] at h
      rw [can_eq (hL x (by simp)) (hM y (by simp)) h.1, ih (fun z hz => hL z (by simp [hz])) (fun z hz => hM z (by simp [hz])) h.2]
theorem canon_can {l : List Nat} (h : Fin64 l) : ∀ x ∈ canonL l, Can x := by
  intro x hx
  obtain ⟨y, hy, rfl⟩ := List.mem_map.1 hx
  exact can_canon (h y hy)
/-- The row in order is one. -/
theorem canS_uniq {l M : List Nat} (h64 : Fin64 l) (hp : M.Perm (canonL l)) (hs : M.Pairwise Rle) : M = canS l := by
  have hc := canon_can h64
  refine map_inj (fun x hx => hc x (hp.mem_iff.1 hx)) (fun x hx => hc x ((canS_perm l).mem_iff.1 hx)) ?_
  refine so_unique (by rw [List.pairwise_map]; exact hs) (by rw [List.pairwise_map]; exact canS_sorted l) ?_
  exact (hp.trans (canS_perm l).symm).map rk
theorem so_rle {M : List Nat} {n : Nat} (h : So 0 n M) (hn : M.length = n) : M.Pairwise Rle := by
  rw [List.pairwise_iff_getElem]
  intro i j hi hj hij
  have := h i j (Nat.zero_le _) hij (by omega)
  rw [List.getD_eq_getElem?_getD, List.getElem?_eq_getElem hi, List.getD_eq_getElem?_getD, List.getElem?_eq_getElem hj] at this
  exact this
theorem canS_congr {l l' : List Nat} (h64 : Fin64 l) (hp : (canonL l').Perm (canonL l)) : canS l' = canS l := canS_uniq h64 ((canS_perm l').trans hp) (canS_sorted l')
theorem canon_canon (x : Nat) : canon (canon x) = canon x := by
  unfold canon
  cases h : nanB x
  · have e : (if false = true then 9221120237041090561 else x) = x := rfl
    rw [e, h]; rfl
  · rw [if_pos rfl, show nanB 9221120237041090561 = true by decide +kernel, if_pos rfl]
theorem canonL_canonL (l : List Nat) : canonL (canonL l) = canonL l := by
  unfold canonL
  rw [List.map_map]
  exact List.map_congr_left fun x _ => canon_canon x
/-- The tally of a list. -/
def tal (l : List Nat) : Ty := tly l.length (keepL (canS l))
theorem tal_congr {l l' : List Nat} (h64 : Fin64 l) (hp : (canonL l').Perm (canonL l)) : tal l' = tal l := by
  have h := hp.length_eq
  rw [canonL_len, canonL_len] at h
  unfold tal
  rw [h, canS_congr h64 hp]
theorem tal_perm {l l' : List Nat} (h64 : Fin64 l) (hp : l'.Perm l) : tal l' = tal l := tal_congr h64 (hp.map canon)
theorem odd_canon (x : Nat) : oddB (canon x) = oddB x := by
  unfold canon
  cases h : nanB x
  · rfl
  · rw [if_pos rfl]
    have e : oddB x = true := by unfold oddB; rw [h]; rfl
    rw [e]; decide +kernel
theorem canon_plain {x : Nat} (h : oddB x = false) : canon x = x := by
  unfold canon
  rw [odd_nan h]; rfl
def plainN (l : List Nat) : Nat := (l.filter (fun x => !oddB x)).length
theorem plainN_take (l : List Nat) (k : Nat) (h : k < l.length) : plainN (l.take (k + 1)) = plainN (l.take k) + (if oddB (l.getD k 0) then 0 else 1) := by
  have := keep_take l k h
  unfold plainN
  unfold keepL at this
  rw [this, List.length_append]
  cases oddB (l.getD k 0) <;> rfl
theorem keep_len (l : List Nat) : (keepL (canS l)).length = plainN l := by
  have h := ((canS_perm l).filter (fun x => !oddB x)).length_eq
  unfold keepL plainN
  rw [h]
  unfold canonL
  rw [List.filter_map, List.length_map]
  congr 1
  exact List.filter_congr fun x _ => by show (!oddB (canon x)) = _; rw [odd_canon]
theorem mem_keep {l : List Nat} {x : Nat} (hx : x ∈ l) (ho : oddB x = false) : x ∈ keepL (canS l) := by
  unfold keepL
  rw [List.mem_filter]
  refine ⟨(canS_perm l).mem_iff.2 ?_, by rw [ho]; rfl⟩
  exact List.mem_map.2 ⟨x, hx, canon_plain ho⟩
theorem keep_sorted (l : List Nat) : (keepL (canS l)).Pairwise Rle := (canS_sorted l).sublist List.filter_sublist
theorem getD_lt {F : List Nat} {i : Nat} (h : i < F.length) : F.getD i 0 = F[i] := by rw [List.getD_eq_getElem?_getD, List.getElem?_eq_getElem h]; rfl
theorem least_le {F : List Nat} (h : F.Pairwise Rle) {x : Nat} (hx : x ∈ F) : rk (F.getD 0 0) ≤ rk x ∧ rk x ≤ rk (F.getD (F.length - 1) 0) := by
  obtain ⟨i, hi, rfl⟩ := List.getElem_of_mem hx
  have hp := List.pairwise_iff_getElem.1 h
  rw [getD_lt (by omega), getD_lt (by omega)]
  constructor
  · rcases Nat.eq_zero_or_pos i with h0 | h0
    · subst h0; exact Int.le_refl _
    · exact hp 0 i (by omega) hi h0
  · rcases Nat.eq_or_lt_of_le (show i ≤ F.length - 1 by omega) with h0 | h0
    · subst h0; exact Int.le_refl _
    · exact hp i (F.length - 1) hi (by omega) h0
theorem ty_fin {l : List Nat} (h64 : Fin64 l) (hl : l.length ≤ 1000) : (tal l).least < 18446744073709551616 ∧ (tal l).greatest < 18446744073709551616 ∧ (tal l).mean < 18446744073709551616 := by
  unfold tal tly
  split
  · exact ⟨(by decide : 9218868437227405312 < 18446744073709551616), (by decide : 18442240474082181120 < 18446744073709551616), (by decide : 9221120237041090561 < 18446744073709551616)⟩
  · rename_i h
    have h1 : 1 ≤ (keepL (canS l)).length := by
      rcases hk : keepL (canS l) with _ | ⟨x, F⟩
      · exact absurd hk h
      · simp
    have h2 : ∀ x ∈ keepL (canS l), x < 18446744073709551616 := fun x hx => (canon_can h64 x ((canS_perm l).mem_iff.1 (List.mem_filter.1 hx).1)).1
    have h3 : (keepL (canS l)).length ≤ 1000 := by
      have := keep_le (canS l)
      have h4 := (canS_perm l).length_eq
      rw [canonL_len] at h4
      omega
    refine ⟨?_, ?_, (div_ok (fsum_ok _ (keep_odd _)).1 h1 h3).2.2⟩
    · show (keepL (canS l)).getD 0 0 < _
      rw [getD_lt (by omega)]; exact h2 _ (List.getElem_mem _)
    · show (keepL (canS l)).getD ((keepL (canS l)).length - 1) 0 < _
      rw [getD_lt (by omega)]; exact h2 _ (List.getElem_mem _)
/-- A finite word is the word nearest to what it stands for, however that is written. -/
theorem near_self (x c : Nat) (h64 : x < 18446744073709551616) (he : Fl.ex x < 2047) (hm : Fl.mg x ≠ 0) : double.nearest (Fl.sg x) (Fl.mg x * 2 ^ c) ((Fl.pl x : Int) - 1074 - c) = x := by
  have hf := Fl.fr_lt x
  have hx : double.word (Fl.sg x) (Fl.rung x) = x := by
    rcases sg_cases x h64 with ⟨h, h1⟩ | ⟨h, h1⟩
    · rw [h, Fl.word_t, Fl.rung_eq]; omega
    · rw [h, Fl.word_f, Fl.rung_eq]; omega
  by_cases h0 : Fl.ex x = 0
  · have hmg : Fl.mg x = Fl.fr x := by unfold Fl.mg; rw [if_pos h0]
    have hpl : Fl.pl x = 0 := by unfold Fl.pl; omega
    rw [hmg] at hm ⊢
    rw [hpl]
    have hp := Fl.two_pos c
    have hn : Fl.fr x * 2 ^ c ≠ 0 := Nat.mul_ne_zero hm (by omega)
    have hlog : (Fl.fr x * 2 ^ c).log2 < 52 + c := by
      rw [Nat.log2_lt hn, Nat.pow_add]
      exact Nat.mul_lt_mul_of_pos_right hf hp
    rw [Fl.nearest_eq _ _ _ hn]
    have e1 : max (((0 : Nat) : Int) - 1074 - c + ((Fl.fr x * 2 ^ c).log2 : Int) - 52) (-1074) = -1074 := by omega
    rw [e1]
    have e2 : (((0 : Nat) : Int) - 1074 - c - -1074).toNat = 0 := by omega
    have e3 : (-1074 - (((0 : Nat) : Int) - 1074 - c)).toNat = c := by omega
    rw [e2, e3, Fl.shl, Nat.pow_zero, Nat.mul_one, Fl.cut_even _ _ _ (by omega)]
    have e4 : ((-1074 : Int) - -1074).toNat = 0 := by omega
    rw [e4, Nat.zero_mul, Nat.zero_add, Nat.min_eq_left (by omega)]
    have hr : Fl.rung x = Fl.fr x := by unfold Fl.rung; rw [h0]; omega
    rw [← hr]; exact hx
  · have hmg : Fl.mg x = 4503599627370496 + Fl.fr x := by unfold Fl.mg; rw [if_neg h0]
    have hpl : Fl.pl x = Fl.ex x - 1 := rfl
    rw [hmg, Fl.nearest_up _ _ _ _ (by omega) (by omega) (by omega)]
    unfold Fl.wd
    have hr : Fl.pl x * 4503599627370496 + (4503599627370496 + Fl.fr x) = Fl.rung x := by
      rw [hpl]; unfold Fl.rung
      obtain ⟨q, hq⟩ : ∃ q, Fl.ex x = q + 1 := ⟨Fl.ex x - 1, by omega⟩
      rw [hq]; simp only [Nat.add_sub_cancel, Nat.succ_mul]; omega
    rw [hr]; exact hx
theorem fadd_zero (x : Nat) (h64 : x < 18446744073709551616) (he : Fl.ex x < 2047) (hm : Fl.mg x ≠ 0) : fadd 0 x = x := by
  have e0 : double.read 0 = .number false 0 (-1074) := by decide +kernel
  have h : double.add 0 x = some (double.nearest (Fl.sg x) (Fl.mg x * 2 ^ Fl.pl x) (-1074)) := by
    show ((double.read 0).sum (double.read x)).map double.write = _
    rw [e0, Fl.read_fin x he]
    simp only [Datum.sum]
    have hb : min (-1074 : Int) ((Fl.pl x : Int) - 1074) = -1074 := by omega
    rw [hb]
    have t1 : ((Fl.pl x : Int) - 1074 - -1074).toNat = Fl.pl x := by omega
    have t0 : ((-1074 : Int) - -1074).toNat = 0 := by omega
    rw [t1, t0]
    have hp := Fl.two_pos (Fl.pl x)
    have hn : 0 < Fl.mg x * 2 ^ Fl.pl x := Nat.mul_pos (by omega) hp
    have s0 : signed false 0 0 = 0 := rfl
    cases hs : Fl.sg x
    · have s1 : signed false (Fl.mg x) (Fl.pl x) = ((Fl.mg x * 2 ^ Fl.pl x : Nat) : Int) := by unfold signed; rw [Fl.shl]; simp
      rw [s0, s1, Int.zero_add, if_neg (by omega), Int.natAbs_natCast]
      have : decide (((Fl.mg x * 2 ^ Fl.pl x : Nat) : Int) < 0) = false := decide_eq_false (by omega)
      rw [this]; rfl
    · have s1 : signed true (Fl.mg x) (Fl.pl x) = -((Fl.mg x * 2 ^ Fl.pl x : Nat) : Int) := by unfold signed; rw [Fl.shl]; simp
      rw [s0, s1, Int.zero_add, if_neg (by omega), Int.natAbs_neg, Int.natAbs_natCast]
      have : decide (-((Fl.mg x * 2 ^ Fl.pl x : Nat) : Int) < 0) = true := decide_eq_true (by omega)
      rw [this]; rfl
  unfold fadd
  rw [h]
  show double.nearest _ _ _ = x
  have := near_self x (Fl.pl x) h64 he hm
  rw [show (Fl.pl x : Int) - 1074 - (Fl.pl x : Int) = -1074 by omega] at this
  exact this
theorem mg_lt (x : Nat) : Fl.mg x < 9007199254740992 := by
  have := Fl.fr_lt x
  unfold Fl.mg
  split <;> omega
theorem fdiv_one (x : Nat) (h64 : x < 18446744073709551616) (he : Fl.ex x < 2047) (hm : Fl.mg x ≠ 0) : fdiv x (fint 1) = x := by
  have e1 : double.read (fint 1) = .number false 4503599627370496 (-52) := by decide +kernel
  have hlog : (Fl.mg x).log2 < 53 := (Nat.log2_lt hm).2 (mg_lt x)
  have h : double.div x (fint 1) = some (double.nearest (Fl.sg x) (Fl.mg x * 2 ^ (55 - (Fl.mg x).log2)) ((Fl.pl x : Int) - 1074 - (55 - (Fl.mg x).log2 : Nat))) := by
    show ((double.read x).quotient (double.fractionBits + 2) (double.read (fint 1))).map double.write = _
    rw [e1, Fl.read_fin x he]
    simp only [Datum.quotient]
    rw [if_neg (by decide)]
    have hmore : double.fractionBits + 2 + Nat.log2 4503599627370496 - (Fl.mg x).log2 = (54 - (Fl.mg x).log2) + 52 := by
      have l1 : Nat.log2 4503599627370496 = 52 := by decide +kernel
      rw [l1, show double.fractionBits = 52 from rfl]; omega
    rw [hmore]
    have hd : Fl.mg x <<< (54 - (Fl.mg x).log2 + 52) = Fl.mg x * 2 ^ (54 - (Fl.mg x).log2) * 4503599627370496 := by
      rw [Fl.shl, Nat.pow_add, show 2 ^ 52 = 4503599627370496 from by decide, Nat.mul_assoc]
    rw [hd, Nat.mul_div_cancel _ (by decide), Nat.mul_mod_left]
    have e3 : 2 * (Fl.mg x * 2 ^ (54 - (Fl.mg x).log2)) + ((0 : Nat) != 0).toNat = Fl.mg x * 2 ^ (55 - (Fl.mg x).log2) := by
      rw [show 55 - (Fl.mg x).log2 = (54 - (Fl.mg x).log2) + 1 from by omega, Nat.pow_succ]
      show 2 * _ + 0 = _
      rw [Nat.add_zero, Nat.mul_comm, Nat.mul_assoc]
    have e4 : (Fl.pl x : Int) - 1074 - -52 - ((54 - (Fl.mg x).log2 + 52 : Nat) : Int) - 1 = (Fl.pl x : Int) - 1074 - ((55 - (Fl.mg x).log2 : Nat) : Int) := by omega
    rw [e3, e4]
    have e5 : (Fl.sg x ^^ false) = Fl.sg x := by cases Fl.sg x <;> rfl
    rw [e5]
    rfl
  unfold fdiv
  rw [h]
  exact near_self x _ h64 he hm
/-- The mean of one plain number is equal to it. -/
theorem mean_one (x : Nat) (h64 : x < 18446744073709551616) (ho : oddB x = false) : FloatKind.f64.format.order (fdiv (fadd 0 x) (fint 1)) x = some .eq := by
  have he := (odd_iff x).1 ho
  by_cases hm : Fl.mg x = 0
  · have hr : x % 9223372036854775808 = 0 := by
      rw [← Fl.rung_eq]
      unfold Fl.mg at hm
      unfold Fl.rung
      by_cases h0 : Fl.ex x = 0
      · rw [if_pos h0] at hm; rw [h0, hm]
      · rw [if_neg h0] at hm; omega
    have hx : x = 0 ∨ x = 9223372036854775808 := by omega
    rcases hx with rfl | rfl <;> decide +kernel
  · rw [fadd_zero x h64 he hm, fdiv_one x h64 he hm]
    exact ordself_no (odd_nan ho)
theorem keep_one {x : Nat} (ho : oddB x = false) : keepL (canS [x]) = [x] := by
  have h1 : canonL [x] = [x] := by show [canon x] = [x]; rw [canon_plain ho]
  have h2 : canS [x] = [x] := by
    have := canS_perm [x]
    rw [h1] at this
    exact List.perm_singleton.1 this
  rw [h2]
  unfold keepL
  rw [List.filter_cons, ho]; rfl
theorem tal_one {x : Nat} (ho : oddB x = false) : tal [x] = ⟨1, 0, x, x, fdiv (fadd 0 x) (fint 1)⟩ := by
  unfold tal
  rw [keep_one ho]
  rfl
theorem tal_facts (l : List Nat) : (tal l).many = l.length ∧ (tal l).odd + plainN l = l.length ∧ (plainN l = 0 → (tal l).mean = 9221120237041090561 ∧ rk (tal l).greatest < rk (tal l).least) ∧ (0 < plainN l → rk (tal l).least ≤ rk (tal l).greatest) ∧ ∀ x ∈ l, oddB x = false → rk (tal l).least ≤ rk x ∧ rk x ≤ rk (tal l).greatest := by
  have hk := keep_len l
  have hle : plainN l ≤ l.length := List.length_filter_le _ _
  unfold tal tly
  by_cases h : keepL (canS l) = []
  · rw [if_pos h]
    rw [h] at hk
    have hk0 : plainN l = 0 := hk.symm
    refine ⟨rfl, by rw [hk0]; rfl, fun _ => ⟨rfl, by show rk 18442240474082181120 < rk 9218868437227405312; decide +kernel⟩, fun h0 => by omega, fun x hx ho => ?_⟩
    have := mem_keep hx ho
    rw [h] at this
    cases this
  · rw [if_neg h]
    have hpos : 0 < plainN l := by
      rw [← hk]
      exact List.length_pos_iff.2 h
    refine ⟨rfl, ?_, fun h0 => by omega, fun _ => ?_, fun x hx ho => least_le (keep_sorted l) (mem_keep hx ho)⟩
    · show l.length - (keepL (canS l)).length + plainN l = l.length
      rw [hk]; omega
    · obtain ⟨x, hx⟩ := List.exists_mem_of_ne_nil _ h
      have := least_le (keep_sorted l) hx
      exact Int.le_trans this.1 this.2
/-- The row as TallyRow turns it. -/
def turnL (l : List Nat) (t k : Nat) : List Nat := (List.range k).map fun i => l.getD ((l.length - 1 - i + t) % l.length) 0
theorem turnL_succ (l : List Nat) (t k : Nat) : turnL l t (k + 1) = turnL l t k ++ [l.getD ((l.length - 1 - k + t) % l.length) 0] := by
  unfold turnL
  rw [List.range_succ, List.map_append]; rfl
theorem turnL_perm (l : List Nat) (t : Nat) : (turnL l t l.length).Perm l := by
  rcases Nat.eq_zero_or_pos l.length with h0 | h0
  · have : l = [] := List.eq_nil_of_length_eq_zero h0
    subst this
    exact List.Perm.refl _
  · have hr : t % l.length < l.length := Nat.mod_lt _ h0
    generalize hrr : t % l.length = r at hr
    have e : turnL l t l.length = (l.drop r ++ l.take r).reverse := by
      refine List.ext_getElem (by simp [turnL]; omega) fun i h1 h2 => ?_
      have hi : i < l.length := by simpa [turnL] using h1
      rw [List.getElem_reverse]
      simp only [turnL, List.getElem_map, List.getElem_range]
      have hm : (l.length - 1 - i + t) % l.length = (l.length - 1 - i + r) % l.length := by rw [← hrr, Nat.add_mod_mod]
      rw [hm]
      have hlen : (l.drop r ++ l.take r).length - 1 - i = l.length - 1 - i := by simp; omega
      simp only [hlen]
      have hjl : l.length - 1 - i < l.length := by omega
      by_cases c : l.length - 1 - i + r < l.length
      · rw [Nat.mod_eq_of_lt c, List.getElem_append_left (by simp; omega), List.getElem_drop, getD_lt c]
        congr 1; omega
      · rw [List.getElem_append_right (by simp; omega), List.getElem_take]
        have h3 : (l.length - 1 - i + r) % l.length = l.length - 1 - i + r - l.length := by
          rw [Nat.mod_eq_sub_mod (by omega), Nat.mod_eq_of_lt (by omega)]
        rw [h3, getD_lt (by omega)]
        congr 1
        simp; omega
    rw [e]
    refine (List.reverse_perm _).trans ?_
    exact List.perm_append_comm.trans (by rw [List.take_append_drop])
end Go.Proofs.YtedllapajgcfeaaGreatDoor
