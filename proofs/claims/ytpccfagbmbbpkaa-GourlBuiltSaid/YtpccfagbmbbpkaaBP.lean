/-
  The plain law of GourlBuilt: what is put together is told again.
-/
import Derived.Test.YtpccfagbmbbpkaaLaw
import Derived.Test.YtpccfagbmbbpkaaLBehind
namespace Go.Proofs.Ytpccfagbmbbpkaa

theorem lst_none {c : UInt8} {l : Pc.B} (h : ∀ d ∈ l, d ≠ c) : Gu.lst c l = -1 := by
  induction l with
  | nil => rfl
  | cons d t ih =>
    rw [Gu.lst, ih (fun x hx => h x (by simp [hx])), if_neg (by omega), if_neg (h d (by simp))]
theorem lst_app {c : UInt8} {l m : Pc.B} (h : ∀ d ∈ m, d ≠ c) : Gu.lst c (l ++ c :: m) = l.length := by
  induction l with
  | nil => rw [List.nil_append, Gu.lst, lst_none h, if_neg (by omega), if_pos rfl]; rfl
  | cons d t ih => rw [List.cons_append, Gu.lst, ih, if_pos (by omega), List.length_cons]; omega
theorem valid_no {l : Pc.B} (h : ∀ d ∈ l, d ≠ 37) : Pc.valid l = true := by
  induction l with
  | nil => rfl
  | cons d t ih => rw [Pc.valid_ne t (h d (by simp)), ih (fun x hx => h x (by simp [hx]))]
theorem byte_all : ∀ n : Fin 256, (Gu.pln n.val = true → UInt8.ofNat n.val ≠ 37 ∧ UInt8.ofNat n.val ≠ 47 ∧ UInt8.ofNat n.val ≠ 58 ∧ UInt8.ofNat n.val ≠ 64 ∧ UInt8.ofNat n.val ≠ 63 ∧ UInt8.ofNat n.val ≠ 35 ∧ UInt8.ofNat n.val ≠ 91 ∧ Gu.ctl n.val = false) ∧ ((Gu.pln n.val = true ∨ Gu.mem [47, 58, 64] n.val = true ∨ UInt8.ofNat n.val = 37 ∨ Pc.ok (n.val : Nat) = true) → UInt8.ofNat n.val ≠ 63 ∧ UInt8.ofNat n.val ≠ 35 ∧ Gu.ctl n.val = false) ∧ (Gu.dgt n.val = true → Gu.pln n.val = true) := by decide +kernel
theorem byte_p (d : UInt8) (h : Gu.pln d.toNat = true) : d ≠ 37 ∧ d ≠ 47 ∧ d ≠ 58 ∧ d ≠ 64 ∧ d ≠ 63 ∧ d ≠ 35 ∧ d ≠ 91 ∧ Gu.ctl d.toNat = false := by
  have := (byte_all ⟨d.toNat, d.toNat_lt⟩).1 h
  simp only [UInt8.ofNat_toNat] at this
  exact this
theorem byte_e (d : UInt8) (h : Gu.pln d.toNat = true ∨ Gu.mem [47, 58, 64] d.toNat = true ∨ d = 37 ∨ Pc.ok d.toNat = true) : d ≠ 63 ∧ d ≠ 35 ∧ Gu.ctl d.toNat = false := by
  have := (byte_all ⟨d.toNat, d.toNat_lt⟩).2.1
  simp only [UInt8.ofNat_toNat] at this
  exact this h
theorem byte_d (d : UInt8) (h : Gu.dgt d.toNat = true) : Gu.pln d.toNat = true := (byte_all ⟨d.toNat, d.toNat_lt⟩).2.2 h
def AllP (l : Pc.B) : Prop := ∀ d ∈ l, Gu.pln d.toNat = true
def AllD (l : Pc.B) : Prop := ∀ d ∈ l, Gu.dgt d.toNat = true
theorem AllD.p {l : Pc.B} (h : AllD l) : AllP l := fun d hd => byte_d d (h d hd)
theorem named_p {l : Pc.B} (h : AllP l) : Gu.named l = true := by
  induction l with
  | nil => rfl
  | cons d t ih =>
    rw [Gu.named, if_neg (byte_p d (h d (by simp))).1, h d (by simp), ih (fun x hx => h x (by simp [hx]))]; rfl
theorem take_app (l m : Pc.B) : (l ++ m).take ((l.length : Int)).toNat = l := List.take_left' (by omega)
theorem drop_app (l m : Pc.B) : (l ++ m).drop ((l.length : Int)).toNat = m := List.drop_left' (by omega)
theorem drop_app1 (l m : Pc.B) (c : UInt8) : (l ++ c :: m).drop (((l.length : Int)).toNat + 1) = m := by
  rw [show l ++ c :: m = (l ++ [c]) ++ m by simp]
  exact List.drop_left' (by simp)
theorem place_built {h pt : Pc.B} (hh : AllP h) (hp : AllD pt) : Gu.place (h ++ 58 :: pt) = (h, true) := by
  have hN : Gu.placeN (h ++ 58 :: pt) = h.length := by
    unfold Gu.placeN
    rw [if_neg (by
      cases h with
      | nil => simp
      | cons d t => simpa using (byte_p d (hh d (by simp))).2.2.2.2.2.2.1),
      lst_app (fun d hd => (byte_p d (hp.p d hd)).2.2.1), if_neg (by omega)]
  unfold Gu.place
  rw [hN, if_neg (by omega), take_app, drop_app, named_p hh]
  have : (pt.all fun d => Gu.dgt d.toNat) = true := List.all_eq_true.2 hp
  simp [Gu.port, this]
theorem host_built {u h pt : Pc.B} (hu : AllP u) (hh : AllP h) (hp : AllD pt) : Gu.host (u ++ 64 :: (h ++ 58 :: pt)) = (h, true) := by
  have hl : Gu.lst 64 (u ++ 64 :: (h ++ 58 :: pt)) = u.length := by
    refine lst_app ?_
    intro d hd
    simp only [List.mem_append, List.mem_cons] at hd
    rcases hd with hd | rfl | hd
    · exact (byte_p d (hh d hd)).2.2.2.1
    · decide
    · exact (byte_p d (hp.p d hd)).2.2.2.1
  unfold Gu.host
  rw [hl, if_neg (by omega), take_app, drop_app1, place_built hh hp]
  have h1 : Gu.usrA u = true := by
    unfold Gu.usrA
    rw [List.all_eq_true]
    intro d hd
    rw [hu d hd]; rfl
  have h2 : Pc.valid u = true := valid_no fun d hd => (byte_p d (hu d hd)).1
  unfold Gu.usr
  rw [h1, h2]; rfl
theorem rooted_built {u h pt e : Pc.B} (hu : AllP u) (hh : AllP h) (hp : AllD pt) (he : Pc.valid e = true) (s : Bool) : Gu.rooted (47 :: 47 :: (u ++ 64 :: (h ++ 58 :: (pt ++ 47 :: e)))) s = some (h, 47 :: e) := by
  have hA : u ++ 64 :: (h ++ 58 :: (pt ++ 47 :: e)) = (u ++ 64 :: (h ++ 58 :: pt)) ++ 47 :: e := by simp
  have h47 : ∀ d ∈ u ++ 64 :: (h ++ 58 :: pt), d ≠ 47 := by
    intro d hd
    simp only [List.mem_append, List.mem_cons] at hd
    rcases hd with hd | rfl | hd | rfl | hd
    · exact (byte_p d (hu d hd)).2.1
    · decide
    · exact (byte_p d (hh d hd)).2.1
    · decide
    · exact (byte_p d (hp.p d hd)).2.1
  have htwo : Gu.two (47 :: 47 :: (u ++ 64 :: (h ++ 58 :: (pt ++ 47 :: e)))) s = true := by
    unfold Gu.two
    cases u with
    | nil => simp [List.isPrefixOf]
    | cons d t =>
      have : ((47 : UInt8) == d) = false := by
        have := (byte_p d (hu d (by simp))).2.1
        simpa using fun e => this e.symm
      simp [List.isPrefixOf, this]
  have hv : Pc.valid (47 :: e) = true := by rw [Pc.valid_ne e (by decide), he]
  unfold Gu.rooted
  rw [htwo, if_pos rfl]
  rw [show (47 :: 47 :: (u ++ 64 :: (h ++ 58 :: (pt ++ 47 :: e))) : Pc.B).drop 2 = (u ++ 64 :: (h ++ 58 :: pt)) ++ 47 :: e from hA]
  rw [bef_app h47, host_built hu hh hp, if_pos rfl, List.drop_left' rfl, hv, if_pos rfl]
theorem sch_47 (t : Pc.B) : Gu.sch 0 (47 :: t) = (-1, true) := by rw [Gu.sch]; rfl
theorem sch_x (t : Pc.B) : Gu.sch 0 (120 :: 58 :: t) = (1, true) := by rw [Gu.sch, Gu.sch]; rfl
def Built (u h pt e q b : Pc.B) : Pc.B := 47 :: 47 :: (u ++ 64 :: (h ++ 58 :: (pt ++ 47 :: (e ++ 63 :: (q ++ 35 :: b)))))
theorem built_eq {u h pt e q b : Pc.B} (hu : AllP u) (hh : AllP h) (hp : AllD pt) (he : Pc.valid e = true) (he' : ∀ d ∈ e, d ≠ 63 ∧ d ≠ 35 ∧ Gu.ctl d.toNat = false) (hq : ∀ d ∈ q, d ≠ 35 ∧ Gu.ctl d.toNat = false) (hb : Pc.valid b = true) : Gu.parse (Built u h pt e q b) = some (h, 47 :: e) ∧ Gu.parse (120 :: 58 :: Built u h pt e q b) = some (h, 47 :: e) := by
  obtain ⟨R, hR⟩ : ∃ R : Pc.B, 47 :: 47 :: (u ++ 64 :: (h ++ 58 :: (pt ++ 47 :: e))) = R := ⟨_, rfl⟩
  have hroot := fun s => rooted_built hu hh hp he s
  have hRb : ∀ d ∈ R, d ≠ 63 ∧ d ≠ 35 ∧ Gu.ctl d.toNat = false := by
    rw [← hR]
    intro d hd
    simp only [List.mem_append, List.mem_cons] at hd
    have key : ∀ {l : Pc.B}, AllP l → d ∈ l → d ≠ 63 ∧ d ≠ 35 ∧ Gu.ctl d.toNat = false := fun hl hd => ⟨(byte_p d (hl d hd)).2.2.2.2.1, (byte_p d (hl d hd)).2.2.2.2.2.1, (byte_p d (hl d hd)).2.2.2.2.2.2.2⟩
    rcases hd with rfl | rfl | hd | rfl | hd | rfl | hd | rfl | hd
    · decide
    · decide
    · exact key hu hd
    · decide
    · exact key hh hd
    · decide
    · exact key hp.p hd
    · decide
    · exact he' d hd
  have hW : Built u h pt e q b = (R ++ 63 :: q) ++ 35 :: b := by unfold Built; rw [← hR]; simp
  rw [hR] at hroot
  have hpre : List.isPrefixOf [47] R = true := by rw [← hR]; simp [List.isPrefixOf]
  have hsch : ∀ t, Gu.sch 0 (R ++ t) = (-1, true) := by rw [← hR]; intro t; exact sch_47 _
  rw [hW]
  clear hW
  clear hR
  have hno : ∀ d ∈ R ++ 63 :: q, d ≠ 35 ∧ Gu.ctl d.toNat = false := by
    intro d hd
    simp only [List.mem_append, List.mem_cons] at hd
    rcases hd with hd | rfl | hd
    · exact (hRb d hd).2
    · decide
    · exact hq d hd
  have gen : ∀ (x : Pc.B) (n : Int), (∀ d ∈ x, d ≠ 35 ∧ Gu.ctl d.toNat = false) → Gu.sch 0 (x ++ (R ++ 63 :: q)) = (n, true) → (n + 1).toNat = x.length → Gu.parse (x ++ ((R ++ 63 :: q) ++ 35 :: b)) = some (h, 47 :: e) := by
    intro x n hx hs hn
    have hx' : ∀ d ∈ x ++ (R ++ 63 :: q), d ≠ 35 ∧ Gu.ctl d.toNat = false := by
      intro d hd
      rcases List.mem_append.1 hd with hd | hd
      · exact hx d hd
      · exact hno d hd
    have hbf : Gu.bef 35 (x ++ ((R ++ 63 :: q) ++ 35 :: b)) = x ++ (R ++ 63 :: q) := by
      rw [← List.append_assoc]; exact bef_app fun d hd => (hx' d hd).1
    have haf : Gu.aft 35 (x ++ ((R ++ 63 :: q) ++ 35 :: b)) = b := by
      rw [← List.append_assoc]; exact aft_app fun d hd => (hx' d hd).1
    have hall : ((x ++ (R ++ 63 :: q)).all fun c => !Gu.ctl c.toNat) = true := by
      rw [List.all_eq_true]; intro d hd; rw [(hx' d hd).2]; rfl
    have hrest : Gu.rest (x ++ ((R ++ 63 :: q) ++ 35 :: b)) = R := by
      unfold Gu.rest
      rw [hbf, hs]
      show Gu.bef 63 (List.drop (n + 1).toNat _) = R
      rw [hn, List.drop_left' rfl]
      exact bef_app fun d hd => (hRb d hd).1
    unfold Gu.parse
    rw [haf, hb, hbf, hall, hs, hrest, hpre]
    simp only [hroot]
    rfl
  constructor
  · exact gen [] (-1) (by simp) (hsch _) rfl
  · refine gen [120, 58] 1 (by decide) (sch_x _) rfl
end Go.Proofs.Ytpccfagbmbbpkaa
