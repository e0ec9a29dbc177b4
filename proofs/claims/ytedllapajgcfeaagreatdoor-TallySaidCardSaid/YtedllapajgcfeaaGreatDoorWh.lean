/-
  internal/strconv.readFloat at a decimal number's text: walked.
-/
import Derived.Test.YtedllapajgcfeaaGreatDoorWa
import Derived.Test.YtedllapajgcfeaaGreatDoorStr
import Derived.Test.YtedllapajgcfeaaGreatDoorRe
import Derived.WalkMore
import Derived.Deep.DeepCutAuto
import Derived.Deep.QuietTactic
import Derived.BigQuiet
namespace Go.Proofs.YtedllapajgcfeaaGreatDoor
set_option linter.unusedVariables false
set_option linter.unusedSimpArgs false
open Go.RowKit Go.Proofs.YtedllapajgcfeaaGreatDoorW.PrintWords

theorem lower_any (c : Nat) (hc : c < 256) (w : World) : Calls Tryz.prog 96 #[.int .u8 c] w fun e w' => e = .returned (.int .u8 (c ||| 32 : Nat)) ∧ w' = w := by
  have h := u8_or_nat c 32 hc (by decide)
  have h' : bits .or .u8 (c : Int) 32 = ((c ||| 32 : Nat) : Int) := h
  go_enter Tryz.func96, Tryz.ntmps96
  go_wp2_with fail
  go_ret
  exact ⟨rfl, rfl⟩

theorem results_tmp7 {fn : Func} {a b c d e f g : Tmp} (h : fn.results = #[.tmp a, .tmp b, .tmp c, .tmp d, .tmp e, .tmp f, .tmp g]) (tmps : Array Value) (P : Program) (w : World) :
    (results fn tmps).run P w = .ok (.tuple #[tmps.getD a undef, tmps.getD b undef, tmps.getD c undef, tmps.getD d undef, tmps.getD e undef, tmps.getD f undef, tmps.getD g undef]) w := by
  simp [results, h]
theorem ret7 {a a' b b' c c' : Int} {neg : Bool} (h1 : a = a') (h2 : b = b') (h3 : c = c') : Ending.returned (.tuple #[.int .u64 a, .int .i64 b, .bool neg, .bool false, .bool false, .int .i64 c, .bool true]) = .returned (.tuple #[.int .u64 a', .int .i64 b', .bool neg, .bool false, .bool false, .int .i64 c', .bool true]) := by rw [h1, h2, h3]
theorem ev_take (ex : List UInt8) (q : Nat) (h : q < ex.length) : ev (ex.take (q + 1)) = ev (ex.take q) * 10 + (ex[q].toNat - 48) := by
  rw [Rf.take_snoc ex q h]
  unfold ev
  rw [List.foldl_append]
  rfl
theorem ev_lt (ex : List UInt8) (hd : ∀ j (h : j < ex.length), Rf.Dg ex[j]) : ∀ q, q ≤ ex.length → ev (ex.take q) < 10 ^ q := by
  intro q
  induction q with
  | zero => intro _; rw [List.take_zero]; decide
  | succ q ih =>
    intro hq
    have h1 := ih (by omega)
    have h2 := hd q (by omega)
    unfold Rf.Dg at h2
    rw [ev_take ex q (by omega), Nat.pow_succ]
    omega
theorem p18 {n : Nat} (h : n ≤ 18) : 10 ^ n ≤ 1000000000000000000 := by
  have : 10 ^ n ≤ 10 ^ 18 := Nat.pow_le_pow_right (by omega) h
  exact this
theorem i64w3 (x : Int) (h1 : -9223372036854775808 ≤ x) (h2 : x ≤ 9223372036854775807) : IntKind.i64.wrap x = x := by
  simp only [IntKind.wrap, IntKind.bits, IntKind.signed]
  simp
  omega
theorem u64w3 (x : Int) (h1 : 0 ≤ x) (h2 : x < 18446744073709551616) : IntKind.u64.wrap x = x := by
  simp only [IntKind.wrap, IntKind.bits, IntKind.signed]
  simp
  omega
theorem i64w2 (a b : Nat) (h : a + b ≤ 1000) : IntKind.i64.wrap ((a : Int) + (b : Int)) = (a : Int) + (b : Int) := by
  simp only [IntKind.wrap, IntKind.bits, IntKind.signed]
  simp
  omega
set_option maxRecDepth 100000 in
set_option maxHeartbeats 6400000 in
theorem read_any (neg : Bool) (M : List UInt8) (X : Option (Bool × List UInt8)) (HM : Rf.Mt M) (hM0 : 1 ≤ M.length) (hX : ∀ up ex, X = some (up, ex) → Xe up ex ∧ (Rf.rd M).mant ≠ 0) (hdig : (Rf.rd M).dig = true)
    (hhex : ∀ h : 0 < M.length, M[0] = 48 → (M.length + (xT X).length ≤ 2 ∨ ∃ h1 : 1 < M.length, M[1] = 46)) (hfst : ∀ h : 0 < M.length, Rf.Dg M[0])
    (l : List UInt8) (hl : l = sgB neg ++ M ++ xT X) (w : World) : Calls Tryz.prog 72 #[.string ⟨l.toArray⟩] w fun e w' => e = .returned (.tuple #[.int .u64 (Rf.rd M).mant, .int .i64 (expOf (Rf.rd M) (xV X)), .bool neg, .bool false, .bool false, .int .i64 l.length, .bool true]) ∧ ∃ n, w' = w.drewN n := by
  obtain ⟨i0, hi0⟩ : ∃ i0, i0 = (sgB neg).length := ⟨_, rfl⟩
  have hlen : l.length = i0 + M.length + (xT X).length := by rw [hl, List.length_append, List.length_append, hi0]
  have hxl : (xT X).length ≤ 5 := by
    unfold xT
    split
    · simp
    · rename_i up ex
      have := (hX up ex rfl).1.hi
      simp; omega
  have hi1 : i0 ≤ 1 := by rw [hi0, sgB_len]; split <;> omega
  have hml := HM.len
  have hat : ∀ j (h : j < M.length) (h' : i0 + j < l.length), l[i0 + j] = M[j] := by
    intro j h h'
    subst hl
    rw [List.getElem_append_left (by simp; omega), List.getElem_append_right (by omega)]
    congr 1
    omega
  have hl0 : 0 < l.length := by omega
  have hlt : l.length ≤ 60 := by omega
  have HH := Lib.hid (And.intro hlen (And.intro hxl (And.intro hi1 (And.intro hml (And.intro hi0 hM0)))))
  have HA := Lib.hid hat
  have HL := Lib.hid hl
  have HHX := Lib.hid hhex
  have hne : ¬ l = [] := fun e => by rw [e] at hl0; simp at hl0
  clear hlen hxl hi1 hml hat hl hhex hi0
  go_enter Tryz.func72, Tryz.ntmps72
  go_wp2_with fail
  go_step3
  go_upto_block 0 with (fail)
  go_cut [4, 7] (fun ng i wx => ng = .bool neg ∧ i = .int .i64 i0 ∧ w = wx)
  case first =>
    have h0 := HL.out
    cases neg
    · have e0 : l[0]'hl0 = M[0]'(by omega) := by
        have h1 : i0 = 0 := HH.out.2.2.2.2.1
        have := HA.out 0 (by omega) (by omega)
        simpa [h1] using this
      have hd := hfst (by omega)
      unfold Rf.Dg at hd
      rw [← e0] at hd
      have t43 : ((l[0].toNat : Int) == 43) = false := by simp; omega
      have t45 : ((l[0].toNat : Int) == 45) = false := by simp; omega
      have h1 : i0 = 0 := HH.out.2.2.2.2.1
      clear hd e0 h0
      as_aux_lemma =>
        go_wp2_with fail
        all_goals
          go_meet
          case rel => exact ⟨rfl, by rw [h1]; rfl, rfl⟩
    · have e0 : l[0]'hl0 = 45 := by subst h0; rfl
      have t43 : ((l[0].toNat : Int) == 43) = false := by rw [e0]; rfl
      have t45 : ((l[0].toNat : Int) == 45) = true := by rw [e0]; rfl
      have h1 : i0 = 1 := HH.out.2.2.2.2.1
      clear e0 h0
      as_aux_lemma =>
        go_wp2_with fail
        all_goals
          go_meet
          case rel => exact ⟨rfl, by rw [h1]; rfl, rfl⟩
  obtain ⟨rfl, rfl, rfl⟩ := hcut
  go_upto_region 12 with (fail)
  go_cut [54] (fun c wx => c = .bool false ∧ ∃ n, wx = w.drewN n)
  case first =>
    have e0 : l[i0]'(by have := HH.out; omega) = M[0]'(by omega) := HA.out 0 (by omega) (by have := HH.out; omega)
    have w2 := i64w2 i0 2 (by have := HH.out; omega)
    have w1 := i64w2 i0 1 (by have := HH.out; omega)
    have hi60 : i0 ≤ 60 := by have := HH.out; omega
    by_cases c1 : i0 + 2 < l.length
    · have d1 : decide ((i0 : Int) + 2 < (l.length : Int)) = true := by simp; omega
      have b0 : (i0 : Int) < (l.length : Int) := by omega
      have b1 : (i0 : Int) + 1 < (l.length : Int) := by omega
      by_cases c2 : M[0]'(by omega) = 48
      · have d2 : (((l[i0]'(by omega)).toNat : Int) == 48) = true := by rw [e0, c2]; rfl
        have e1 : l[i0 + 1]'(by omega) = 46 := by
          rcases HHX.out (by omega) c2 with h | ⟨h1, h2⟩
          · have := HH.out; omega
          · rw [HA.out 1 h1 (by omega), h2]
        have d3 : (((l[i0 + 1]'(by omega)).toNat : Int)) = 46 := by rw [e1]; rfl
        have hlow := fun z => lower_any 46 (by omega) z
        rw [show (((46 : Nat) ||| 32 : Nat) : Int) = 46 from rfl] at hlow
        have HLO := Lib.hid hlow
        clear e0 e1 c2 hlow
        as_aux_lemma =>
          first
          | (go_wp2_with (go_at_call 96; refine (HLO.out _).mono ?_; rintro e w1 ⟨rfl, rfl⟩)
             go_meet
             case rel => exact ⟨rfl, 0, rfl⟩)
          | (go_quiet ((go_at_call 96; exact Calls.quiet_of_same (HLO.out _)))
             go_wp2_with fail
             go_meet
             case rel => exact ⟨rfl, _, rfl⟩)
      · have d2 : (((l[i0]'(by omega)).toNat : Int) == 48) = false := by
          rw [e0]
          simp
          intro h
          apply c2
          exact UInt8.toNat_inj.mp (by rw [show (48 : UInt8).toNat = 48 from rfl]; omega)
        clear e0 c2
        as_aux_lemma =>
          first
          | (go_wp2_with fail
             go_meet
             case rel => exact ⟨rfl, 0, rfl⟩)
          | (go_quiet (fail)
             go_wp2_with fail
             go_meet
             case rel => exact ⟨rfl, _, rfl⟩)
    · have d1 : decide ((i0 : Int) + 2 < (l.length : Int)) = false := by simp; omega
      clear e0
      as_aux_lemma =>
        first
        | (go_wp2_with fail
           go_meet
           case rel => exact ⟨rfl, 0, rfl⟩)
        | (go_quiet (fail)
           go_wp2_with fail
           go_meet
           case rel => exact ⟨rfl, _, rfl⟩)
  obtain ⟨rfl, n1, rfl⟩ := hcut
  obtain ⟨wz, hwz⟩ : ∃ wz, wz = w.drewN n1 := ⟨_, rfl⟩
  rw [← hwz]
  have HWZ := Lib.hid hwz
  clear hwz
  go_wp2_with fail
  go_step3
  go_wp2_with fail
  go_loopw [2, 5, 7, 9, 13, 14, 15, 16, 17] (fun mt tr i us sd dg nd nm dp wr => ∃ j : Nat, j ≤ M.length ∧ mt = .int .u64 ((Rf.rd (M.take j)).mant : Nat) ∧ tr = .bool false ∧ i = .int .i64 ((i0 : Int) + (j : Int)) ∧ us = .bool false ∧ sd = .bool (Rf.rd (M.take j)).dot ∧ dg = .bool (Rf.rd (M.take j)).dig ∧ nd = .int .i64 ((Rf.rd (M.take j)).nd : Nat) ∧ nm = .int .i64 ((Rf.rd (M.take j)).nd : Nat) ∧ dp = .int .i64 (Rf.rd (M.take j)).dp ∧ wz = wr) (fun mt tr i us sd dg nd nm dp _ => 100 - (RowKit.intOf i).toNat)
  case atStart => exact ⟨0, by omega, rfl, rfl, by simp, rfl, rfl, rfl, rfl, rfl, rfl, rfl⟩
  case round =>
    obtain ⟨j, hj, rfl, rfl, rfl, rfl, rfl, rfl, rfl, rfl, rfl, rfl⟩ := hrel
    have HB := Rf.mant_lt M HM j hj
    have hn18 := HM.nd j hj
    by_cases hjm : j < M.length
    · have hch := HM.ch j hjm
      have hst : Rf.rd (M.take (j + 1)) = Rf.step (Rf.rd (M.take j)) M[j] := by rw [Rf.take_snoc M j hjm, Rf.rd_snoc]
      have hb : i0 + j < l.length := by have := HH.out; omega
      obtain ⟨c, hc⟩ : ∃ c : Nat, c = M[j].toNat := ⟨_, rfl⟩
      have hcl : (((l[i0 + j]'hb).toNat : Nat) : Int) = (c : Int) := by rw [HA.out j hjm hb, hc]
      have hb' : (i0 : Int) + (j : Int) < (l.length : Int) := by omega
      have hb2 : 0 ≤ (i0 : Int) + (j : Int) := by omega
      have a1 : IntKind.i64.wrap ((i0 : Int) + (j : Int) + 1) = (i0 : Int) + (j : Int) + 1 := by
        have := HH.out
        exact i64w3 _ (by omega) (by omega)
      have HST := Lib.hid hst
      have HCC := Lib.hid hc
      clear hst
      have e46 : M[j] = 46 ↔ c = 46 := by rw [hc]; exact ⟨fun h => by rw [h]; rfl, fun h => UInt8.toNat_inj.mp h⟩
      have e48 : M[j] = 48 ↔ c = 48 := by rw [hc]; exact ⟨fun h => by rw [h]; rfl, fun h => UInt8.toNat_inj.mp h⟩
      unfold Rf.step at HST
      generalize Rf.rd (M.take j) = st at *
      obtain ⟨mu, nu, de, dot, dg⟩ := st
      dsimp only at HB hn18 hch HST ⊢
      have hpow : mu < 1000000000000000000 := Nat.lt_of_lt_of_le HB.1 (p18 hn18)
      have hde1 := HB.2.1
      have hde2 := HB.2.2
      clear HB
      have hj40 : j ≤ 40 := by have := HM.len; omega
      by_cases c46 : M[j] = 46
      · have hc46 := e46.1 c46
        have hdot : dot = false := by
          rcases hch with h | h
          · unfold Rf.Dg at h; omega
          · exact h.2
        have HS2 := HST.out
        rw [if_pos c46] at HS2
        replace HS2 := Lib.hid HS2
        subst hdot
        have k1 : ((c : Int) == 95) = false := by rw [hc46]; rfl
        have k2 : ((c : Int) == 46) = true := by rw [hc46]; rfl
        clear HST c46 hch e46 e48 hpow hc hc46
        as_aux_lemma =>
          go_wp2_with fail
          go_roundw
          case rel => exact ⟨j + 1, by omega, by rw [HS2.out], rfl, by congr 1, rfl, by rw [HS2.out], by rw [HS2.out], by rw [HS2.out], by rw [HS2.out], by rw [HS2.out], trivial⟩
          case measure => simp [RowKit.intOf]; omega
      · have hdg : 48 ≤ c ∧ c ≤ 57 := by
          rcases hch with h | h
          · unfold Rf.Dg at h; omega
          · exact absurd h.1 c46
        have HS2 := HST.out
        rw [if_neg c46] at HS2
        have k1 : ((c : Int) == 95) = false := by simp; omega
        have k2 : ((c : Int) == 46) = false := by simp; omega
        have k3 : decide ((48 : Int) ≤ (c : Int)) = true := by simp; omega
        have k4 : decide ((c : Int) ≤ 57) = true := by simp; omega
        by_cases cz : M[j] = 48 ∧ nu = 0
        · rw [if_pos cz] at HS2
          replace HS2 := Lib.hid HS2
          obtain ⟨cz1, rfl⟩ := cz
          have hc48 := e48.1 cz1
          have k5 : ((c : Int) == 48) = true := by rw [hc48]; rfl
          have a2 := i64w3 (de - 1) (by omega) (by omega)
          clear HST c46 hch e46 e48 hpow hc cz1 hdg hc48
          as_aux_lemma =>
            go_wp2_with fail
            go_roundw
            case rel => exact ⟨j + 1, by omega, by rw [HS2.out], rfl, by congr 1, rfl, by rw [HS2.out], by rw [HS2.out], by rw [HS2.out], by rw [HS2.out], by rw [HS2.out], trivial⟩
            case measure => simp [RowKit.intOf]; omega
        · rw [if_neg cz, ← hc] at HS2
          replace HS2 := Lib.hid HS2
          have a2 := i64w3 ((nu : Int) + 1) (by omega) (by omega)
          have a3 : IntKind.u64.wrap ((mu : Int) * 10) = (mu : Int) * 10 := u64w3 _ (by omega) (by omega)
          have a4 : IntKind.u8.wrap ((c : Int) - 48) = (c : Int) - 48 := by
            simp only [IntKind.wrap, IntKind.bits, IntKind.signed]
            simp
            omega
          have a5 : IntKind.u64.wrap ((mu : Int) * 10 + ((c : Int) - 48)) = (mu : Int) * 10 + ((c : Int) - 48) := u64w3 _ (by omega) (by omega)
          have a6 : IntKind.u64.wrap ((c : Int) - 48) = (c : Int) - 48 := u64w3 _ (by omega) (by omega)
          have a7 : ((mu * 10 + (c - 48) : Nat) : Int) = (mu : Int) * 10 + ((c : Int) - 48) := by omega
          have k6 : decide ((nu : Int) < 19) = true := by simp; omega
          have A7 := Lib.hid a7
          by_cases c48 : c = 48
          · have k5 : ((c : Int) == 48) = true := by rw [c48]; rfl
            have k7 : ((nu : Int) == 0) = false := by
              have : nu ≠ 0 := fun h => cz ⟨e48.2 c48, h⟩
              simp; omega
            clear HST c46 hch e46 e48 hpow hc cz hdg c48 a7
            as_aux_lemma =>
              go_wp2_with fail
              go_roundw
              case rel => exact ⟨j + 1, by omega, by rw [HS2.out, A7.out], rfl, by congr 1, rfl, by rw [HS2.out], by rw [HS2.out], by rw [HS2.out]; exact congrArg (Value.int .i64) (by show (nu : Int) + 1 = ((nu + 1 : Nat) : Int); omega), by rw [HS2.out]; exact congrArg (Value.int .i64) (by show (nu : Int) + 1 = ((nu + 1 : Nat) : Int); omega), by rw [HS2.out], trivial⟩
              case measure => simp [RowKit.intOf]; omega
          · have k5 : ((c : Int) == 48) = false := by simp; omega
            clear HST c46 hch e46 e48 hpow hc cz hdg c48 a7
            as_aux_lemma =>
              go_wp2_with fail
              go_roundw
              case rel => exact ⟨j + 1, by omega, by rw [HS2.out, A7.out], rfl, by congr 1, rfl, by rw [HS2.out], by rw [HS2.out], by rw [HS2.out]; exact congrArg (Value.int .i64) (by show (nu : Int) + 1 = ((nu + 1 : Nat) : Int); omega), by rw [HS2.out]; exact congrArg (Value.int .i64) (by show (nu : Int) + 1 = ((nu + 1 : Nat) : Int); omega), by rw [HS2.out], trivial⟩
              case measure => simp [RowKit.intOf]; omega
    · obtain rfl : j = M.length := by omega
      rw [List.take_of_length_le (Nat.le_refl _)] at *
      generalize hst : Rf.rd M = st at *
      obtain ⟨mu, nu, de, dot, dg⟩ := st
      dsimp only at HB hn18 hdig hX ⊢
      subst hdig
      have hpow : mu < 1000000000000000000 := Nat.lt_of_lt_of_le HB.1 (p18 hn18)
      have hde1 := HB.2.1
      have hde2 := HB.2.2
      have hml := HM.len
      clear HB
      rcases X with _ | ⟨up, ex⟩
      · have hll : l.length = i0 + M.length := by have := HH.out.1; simpa [xT] using this
        have e1 : decide ((i0 : Int) + (M.length : Int) < (l.length : Int)) = false := by simp; omega
        have a1 := i64w3 ((nu : Int) - (nu : Int)) (by omega) (by omega)
        have a2 := i64w3 (de - (nu : Int)) (by omega) (by omega)
        have a3 : (nu : Int) - (nu : Int) = 0 := by omega
        have HLL := Lib.hid (show (l.length : Int) = (i0 : Int) + (M.length : Int) by omega)
        have i60 : i0 + M.length ≤ 60 := by omega
        clear hll hX
        by_cases hm0 : mu = 0
        · have k1 : ((mu : Int) != 0) = false := by simp [hm0]
          cases dot
          ·
            as_aux_lemma =>
              go_wp2_with fail
              (try simp only [Exit.inBlock, Exit.then, Exit.noGoto_ret])
              refine bodyPost_ret (results_tmp7 rfl _ _ _) rfl ?_
              refine ⟨ret7 ?_ ?_ HLL.out.symm, n1, HWZ.out⟩
              · first | (rw [hst]; done) | (rw [hst]; rfl) | (rw [hst, hm0]; rfl)
              · rw [hst]
                unfold expOf xV
                first
                | (rw [if_pos hm0]; done)
                | (rw [if_neg hm0]; simp; done)
                | (rw [if_neg hm0]; simp; omega)
          ·
            as_aux_lemma =>
              go_wp2_with fail
              (try simp only [Exit.inBlock, Exit.then, Exit.noGoto_ret])
              refine bodyPost_ret (results_tmp7 rfl _ _ _) rfl ?_
              refine ⟨ret7 ?_ ?_ HLL.out.symm, n1, HWZ.out⟩
              · first | (rw [hst]; done) | (rw [hst]; rfl) | (rw [hst, hm0]; rfl)
              · rw [hst]
                unfold expOf xV
                first
                | (rw [if_pos hm0]; done)
                | (rw [if_neg hm0]; simp; done)
                | (rw [if_neg hm0]; simp; omega)
        · have k1 : ((mu : Int) != 0) = true := by simp [hm0]
          cases dot
          ·
            as_aux_lemma =>
              go_wp2_with fail
              (try simp only [Exit.inBlock, Exit.then, Exit.noGoto_ret])
              refine bodyPost_ret (results_tmp7 rfl _ _ _) rfl ?_
              refine ⟨ret7 ?_ ?_ HLL.out.symm, n1, HWZ.out⟩
              · first | (rw [hst]; done) | (rw [hst]; rfl) | (rw [hst, hm0]; rfl)
              · rw [hst]
                unfold expOf xV
                first
                | (rw [if_pos hm0]; done)
                | (rw [if_neg hm0]; simp; done)
                | (rw [if_neg hm0]; simp; omega)
          ·
            as_aux_lemma =>
              go_wp2_with fail
              (try simp only [Exit.inBlock, Exit.then, Exit.noGoto_ret])
              refine bodyPost_ret (results_tmp7 rfl _ _ _) rfl ?_
              refine ⟨ret7 ?_ ?_ HLL.out.symm, n1, HWZ.out⟩
              · first | (rw [hst]; done) | (rw [hst]; rfl) | (rw [hst, hm0]; rfl)
              · rw [hst]
                unfold expOf xV
                first
                | (rw [if_pos hm0]; done)
                | (rw [if_neg hm0]; simp; done)
                | (rw [if_neg hm0]; simp; omega)
      · obtain ⟨hXe, hm0⟩ := hX up ex rfl
        have k1 : ((mu : Int) != 0) = true := by simp [hm0]
        have hxl1 := hXe.lo
        have hxl2 := hXe.hi
        have hll : l.length = i0 + M.length + 2 + ex.length := by have := HH.out.1; simp [xT] at this; omega
        have hxat : ∀ q (h : q < ex.length) (h' : i0 + M.length + 2 + q < l.length), l[i0 + M.length + 2 + q] = ex[q] := by
          intro q h h'
          have hl := HL.out
          have hi := HH.out.2.2.2.2.1
          subst hl
          rw [List.getElem_append_right (by simp; omega)]
          have : i0 + M.length + 2 + q - (sgB neg ++ M).length = q + 1 + 1 := by simp; omega
          simp only [this, xT, List.getElem_cons_succ]
        have hx0 : ∀ (h' : i0 + M.length < l.length), l[i0 + M.length] = 101 := by
          intro h'
          have hl := HL.out
          have hi := HH.out.2.2.2.2.1
          subst hl
          rw [List.getElem_append_right (by simp; omega)]
          have : i0 + M.length - (sgB neg ++ M).length = 0 := by simp; omega
          simp only [this, xT, List.getElem_cons_zero]
        have hx1 : ∀ (h' : i0 + M.length + 1 < l.length), l[i0 + M.length + 1] = if up then 43 else 45 := by
          intro h'
          have hl := HL.out
          have hi := HH.out.2.2.2.2.1
          subst hl
          rw [List.getElem_append_right (by simp; omega)]
          have : i0 + M.length + 1 - (sgB neg ++ M).length = 0 + 1 := by simp; omega
          simp only [this, xT, List.getElem_cons_succ, List.getElem_cons_zero]
        obtain ⟨p, hp⟩ : ∃ p, p = i0 + M.length := ⟨_, rfl⟩
        rw [← hp] at hxat hx0 hx1 hll
        have hpi : (i0 : Int) + (M.length : Int) = (p : Int) := by omega
        have hp60 : p ≤ 50 := by have := HH.out; omega
        have b0 : (p : Int) < (l.length : Int) := by omega
        have b1 : (p : Int) + 1 < (l.length : Int) := by omega
        have b2 : (p : Int) + 1 + 1 < (l.length : Int) := by omega
        have w1 := i64w3 ((p : Int) + 1) (by omega) (by omega)
        have w2 := i64w3 ((p : Int) + 1 + 1) (by omega) (by omega)
        have v0 : (((l[p]'(by omega)).toNat : Nat) : Int) = 101 := by rw [hx0 (by omega)]; rfl
        have HX := Lib.hid (And.intro hll (And.intro hxl1 hxl2))
        have HXA := Lib.hid hxat
        have HXE := Lib.hid hXe
        have hq0 : l[p + 1 + 1]'(by omega) = ex[0]'(by omega) := hxat 0 (by omega) (by omega)
        have hd0 := hXe.dg 0 (by omega)
        unfold Rf.Dg at hd0
        rw [← hq0] at hd0
        have v2a : decide (((l[p + 1 + 1]'(by omega)).toNat : Int) < 48) = false := by simp; omega
        have v2b : decide (((l[p + 1 + 1]'(by omega)).toNat : Int) > 57) = false := by simp; omega
        have hlow := fun z => lower_any 101 (by omega) z
        rw [show (((101 : Nat) ||| 32 : Nat) : Int) = 101 from rfl] at hlow
        have HLO := Lib.hid hlow
        have HSP := Lib.hid (And.intro hm0 hst)
        clear hx0 hq0 hd0 hxat hlow hX hp
        cases up
        · have v1 : (((l[p + 1]'(by omega)).toNat : Nat) : Int) = 45 := by rw [hx1 (by omega)]; rfl
          clear hx1 hXe hst
          cases dot
          · as_aux_lemma =>
              go_wp2_with (go_at_call 96; refine (HLO.out _).mono ?_; rintro e w1 ⟨rfl, rfl⟩)
              have HWY := HWZ
              clear HWZ
              go_loopw [7, 9, 20] (fun i us ee wr => ∃ q : Nat, q ≤ ex.length ∧ i = .int .i64 ((p : Int) + 1 + 1 + (q : Int)) ∧ us = .bool false ∧ ee = .int .i64 (ev (ex.take q) : Nat) ∧ w1 = wr) (fun i _ _ _ => 100 - (RowKit.intOf i).toNat)
              case atStart => exact ⟨0, by omega, by congr 1, rfl, rfl, rfl⟩
              case round =>
                obtain ⟨q, hq, rfl, rfl, rfl, rfl⟩ := hrel
                have HEV := ev_lt ex HXE.out.dg q hq
                have hev3 : ev (ex.take q) < 1000 := Nat.lt_of_lt_of_le HEV (Nat.le_trans (Nat.pow_le_pow_right (by omega) (show q ≤ 3 by omega)) (by decide))
                clear HEV
                by_cases hqx : q < ex.length
                · have hb : p + 2 + q < l.length := by omega
                  have hd := HXE.out.dg q hqx
                  unfold Rf.Dg at hd
                  have hE : Hid (ev (ex.take (q + 1)) = ev (ex.take q) * 10 + (ex[q].toNat - 48)) := Lib.hid (ev_take ex q hqx)
                  have hg : l[p + 1 + 1 + q]'(by omega) = ex[q] := by
                    have := HXA.out q hqx hb
                    simpa [show p + 1 + 1 + q = p + 2 + q from by omega] using this
                  obtain ⟨c, hc⟩ : ∃ c : Nat, c = ex[q].toNat := ⟨_, rfl⟩
                  rw [← hc] at hd hE
                  have hcl : (((l[p + 1 + 1 + q]'(by omega)).toNat : Nat) : Int) = (c : Int) := by rw [hg, hc]
                  have bq0 : 0 ≤ (p : Int) + 1 + 1 + (q : Int) := by omega
                  have bq : (p : Int) + 1 + 1 + (q : Int) < (l.length : Int) := by omega
                  have k95 : ((c : Int) == 95) = false := by simp; omega
                  have k48 : decide ((48 : Int) ≤ (c : Int)) = true := by simp; omega
                  have k57 : decide ((c : Int) ≤ 57) = true := by simp; omega
                  generalize ev (ex.take q) = v at *
                  have m1 := i64w3 ((v : Int) * 10) (by omega) (by omega)
                  have m2 := i64w3 ((v : Int) * 10 + (c : Int)) (by omega) (by omega)
                  have m3 := i64w3 ((v : Int) * 10 + (c : Int) - 48) (by omega) (by omega)
                  have m5 := i64w3 ((c : Int)) (by omega) (by omega)
                  have m4 := i64w3 ((p : Int) + 1 + 1 + (q : Int) + 1) (by omega) (by omega)
                  have k10 : decide ((v : Int) < 10000) = true := by simp; omega
                  have HVE : Hid ((v : Int) * 10 + (c : Int) - 48 = ((v * 10 + (c - 48) : Nat) : Int)) := Lib.hid (by omega)
                  clear hg hc hd
                  go_wp2_with fail
                  go_roundw
                  case rel => exact ⟨q + 1, by omega, by congr 1, rfl, by rw [hE.out]; exact congrArg (Value.int .i64) HVE.out, trivial⟩
                  case measure => simp [RowKit.intOf]; omega
                · obtain rfl : q = ex.length := by omega
                  rw [List.take_of_length_le (Nat.le_refl _)] at *
                  have eX : decide ((p : Int) + 1 + 1 + (ex.length : Int) < (l.length : Int)) = false := by simp; omega
                  have HLE : Hid ((p : Int) + 1 + 1 + (ex.length : Int) = (l.length : Int)) := Lib.hid (by omega)
                  have HEQ : Hid (ev ex = ev ex) := Lib.hid rfl
                  have HXV : Hid (xV (some (false, ex)) = -((ev ex : Nat) : Int)) := Lib.hid rfl
                  generalize ev ex = v at *
                  have z1 := i64w3 (-(v : Int)) (by omega) (by omega)
                  have z2 := i64w3 ((nu : Int) + -(v : Int)) (by omega) (by omega)
                  have z3 := i64w3 ((nu : Int) + -(v : Int) - (nu : Int)) (by omega) (by omega)
                  have z4 := i64w3 (de + -(v : Int)) (by omega) (by omega)
                  have z5 := i64w3 (de + -(v : Int) - (nu : Int)) (by omega) (by omega)
                  have z6 := i64w3 ((nu : Int) + (v : Int)) (by omega) (by omega)
                  have z7 := i64w3 ((nu : Int) + (v : Int) - (nu : Int)) (by omega) (by omega)
                  have z8 := i64w3 (de + (v : Int)) (by omega) (by omega)
                  have z9 := i64w3 (de + (v : Int) - (nu : Int)) (by omega) (by omega)
                  have z10 := i64w3 (v : Int) (by omega) (by omega)
                  have z11 : (v : Int) * (-1) = -(v : Int) := by omega
                  clear v2a v2b
                  go_wp2_with fail
                  (try simp only [Exit.inBlock, Exit.then, Exit.noGoto_ret])
                  refine bodyPost_ret (results_tmp7 rfl _ _ _) rfl ?_
                  refine ⟨ret7 ?_ ?_ HLE.out, n1, HWY.out⟩
                  · rw [HSP.out.2]
                  · rw [HSP.out.2, HXV.out]
                    unfold expOf
                    rw [if_neg HSP.out.1]
                    first
                    | (simp; done)
                    | (simp; omega)
          · as_aux_lemma =>
              go_wp2_with (go_at_call 96; refine (HLO.out _).mono ?_; rintro e w1 ⟨rfl, rfl⟩)
              have HWY := HWZ
              clear HWZ
              go_loopw [7, 9, 20] (fun i us ee wr => ∃ q : Nat, q ≤ ex.length ∧ i = .int .i64 ((p : Int) + 1 + 1 + (q : Int)) ∧ us = .bool false ∧ ee = .int .i64 (ev (ex.take q) : Nat) ∧ w1 = wr) (fun i _ _ _ => 100 - (RowKit.intOf i).toNat)
              case atStart => exact ⟨0, by omega, by congr 1, rfl, rfl, rfl⟩
              case round =>
                obtain ⟨q, hq, rfl, rfl, rfl, rfl⟩ := hrel
                have HEV := ev_lt ex HXE.out.dg q hq
                have hev3 : ev (ex.take q) < 1000 := Nat.lt_of_lt_of_le HEV (Nat.le_trans (Nat.pow_le_pow_right (by omega) (show q ≤ 3 by omega)) (by decide))
                clear HEV
                by_cases hqx : q < ex.length
                · have hb : p + 2 + q < l.length := by omega
                  have hd := HXE.out.dg q hqx
                  unfold Rf.Dg at hd
                  have hE : Hid (ev (ex.take (q + 1)) = ev (ex.take q) * 10 + (ex[q].toNat - 48)) := Lib.hid (ev_take ex q hqx)
                  have hg : l[p + 1 + 1 + q]'(by omega) = ex[q] := by
                    have := HXA.out q hqx hb
                    simpa [show p + 1 + 1 + q = p + 2 + q from by omega] using this
                  obtain ⟨c, hc⟩ : ∃ c : Nat, c = ex[q].toNat := ⟨_, rfl⟩
                  rw [← hc] at hd hE
                  have hcl : (((l[p + 1 + 1 + q]'(by omega)).toNat : Nat) : Int) = (c : Int) := by rw [hg, hc]
                  have bq0 : 0 ≤ (p : Int) + 1 + 1 + (q : Int) := by omega
                  have bq : (p : Int) + 1 + 1 + (q : Int) < (l.length : Int) := by omega
                  have k95 : ((c : Int) == 95) = false := by simp; omega
                  have k48 : decide ((48 : Int) ≤ (c : Int)) = true := by simp; omega
                  have k57 : decide ((c : Int) ≤ 57) = true := by simp; omega
                  generalize ev (ex.take q) = v at *
                  have m1 := i64w3 ((v : Int) * 10) (by omega) (by omega)
                  have m2 := i64w3 ((v : Int) * 10 + (c : Int)) (by omega) (by omega)
                  have m3 := i64w3 ((v : Int) * 10 + (c : Int) - 48) (by omega) (by omega)
                  have m5 := i64w3 ((c : Int)) (by omega) (by omega)
                  have m4 := i64w3 ((p : Int) + 1 + 1 + (q : Int) + 1) (by omega) (by omega)
                  have k10 : decide ((v : Int) < 10000) = true := by simp; omega
                  have HVE : Hid ((v : Int) * 10 + (c : Int) - 48 = ((v * 10 + (c - 48) : Nat) : Int)) := Lib.hid (by omega)
                  clear hg hc hd
                  go_wp2_with fail
                  go_roundw
                  case rel => exact ⟨q + 1, by omega, by congr 1, rfl, by rw [hE.out]; exact congrArg (Value.int .i64) HVE.out, trivial⟩
                  case measure => simp [RowKit.intOf]; omega
                · obtain rfl : q = ex.length := by omega
                  rw [List.take_of_length_le (Nat.le_refl _)] at *
                  have eX : decide ((p : Int) + 1 + 1 + (ex.length : Int) < (l.length : Int)) = false := by simp; omega
                  have HLE : Hid ((p : Int) + 1 + 1 + (ex.length : Int) = (l.length : Int)) := Lib.hid (by omega)
                  have HEQ : Hid (ev ex = ev ex) := Lib.hid rfl
                  have HXV : Hid (xV (some (false, ex)) = -((ev ex : Nat) : Int)) := Lib.hid rfl
                  generalize ev ex = v at *
                  have z1 := i64w3 (-(v : Int)) (by omega) (by omega)
                  have z2 := i64w3 ((nu : Int) + -(v : Int)) (by omega) (by omega)
                  have z3 := i64w3 ((nu : Int) + -(v : Int) - (nu : Int)) (by omega) (by omega)
                  have z4 := i64w3 (de + -(v : Int)) (by omega) (by omega)
                  have z5 := i64w3 (de + -(v : Int) - (nu : Int)) (by omega) (by omega)
                  have z6 := i64w3 ((nu : Int) + (v : Int)) (by omega) (by omega)
                  have z7 := i64w3 ((nu : Int) + (v : Int) - (nu : Int)) (by omega) (by omega)
                  have z8 := i64w3 (de + (v : Int)) (by omega) (by omega)
                  have z9 := i64w3 (de + (v : Int) - (nu : Int)) (by omega) (by omega)
                  have z10 := i64w3 (v : Int) (by omega) (by omega)
                  have z11 : (v : Int) * (-1) = -(v : Int) := by omega
                  clear v2a v2b
                  go_wp2_with fail
                  (try simp only [Exit.inBlock, Exit.then, Exit.noGoto_ret])
                  refine bodyPost_ret (results_tmp7 rfl _ _ _) rfl ?_
                  refine ⟨ret7 ?_ ?_ HLE.out, n1, HWY.out⟩
                  · rw [HSP.out.2]
                  · rw [HSP.out.2, HXV.out]
                    unfold expOf
                    rw [if_neg HSP.out.1]
                    first
                    | (simp; done)
                    | (simp; omega)
        · have v1 : (((l[p + 1]'(by omega)).toNat : Nat) : Int) = 43 := by rw [hx1 (by omega)]; rfl
          clear hx1 hXe hst
          cases dot
          · as_aux_lemma =>
              go_wp2_with (go_at_call 96; refine (HLO.out _).mono ?_; rintro e w1 ⟨rfl, rfl⟩)
              have HWY := HWZ
              clear HWZ
              go_loopw [7, 9, 20] (fun i us ee wr => ∃ q : Nat, q ≤ ex.length ∧ i = .int .i64 ((p : Int) + 1 + 1 + (q : Int)) ∧ us = .bool false ∧ ee = .int .i64 (ev (ex.take q) : Nat) ∧ w1 = wr) (fun i _ _ _ => 100 - (RowKit.intOf i).toNat)
              case atStart => exact ⟨0, by omega, by congr 1, rfl, rfl, rfl⟩
              case round =>
                obtain ⟨q, hq, rfl, rfl, rfl, rfl⟩ := hrel
                have HEV := ev_lt ex HXE.out.dg q hq
                have hev3 : ev (ex.take q) < 1000 := Nat.lt_of_lt_of_le HEV (Nat.le_trans (Nat.pow_le_pow_right (by omega) (show q ≤ 3 by omega)) (by decide))
                clear HEV
                by_cases hqx : q < ex.length
                · have hb : p + 2 + q < l.length := by omega
                  have hd := HXE.out.dg q hqx
                  unfold Rf.Dg at hd
                  have hE : Hid (ev (ex.take (q + 1)) = ev (ex.take q) * 10 + (ex[q].toNat - 48)) := Lib.hid (ev_take ex q hqx)
                  have hg : l[p + 1 + 1 + q]'(by omega) = ex[q] := by
                    have := HXA.out q hqx hb
                    simpa [show p + 1 + 1 + q = p + 2 + q from by omega] using this
                  obtain ⟨c, hc⟩ : ∃ c : Nat, c = ex[q].toNat := ⟨_, rfl⟩
                  rw [← hc] at hd hE
                  have hcl : (((l[p + 1 + 1 + q]'(by omega)).toNat : Nat) : Int) = (c : Int) := by rw [hg, hc]
                  have bq0 : 0 ≤ (p : Int) + 1 + 1 + (q : Int) := by omega
                  have bq : (p : Int) + 1 + 1 + (q : Int) < (l.length : Int) := by omega
                  have k95 : ((c : Int) == 95) = false := by simp; omega
                  have k48 : decide ((48 : Int) ≤ (c : Int)) = true := by simp; omega
                  have k57 : decide ((c : Int) ≤ 57) = true := by simp; omega
                  generalize ev (ex.take q) = v at *
                  have m1 := i64w3 ((v : Int) * 10) (by omega) (by omega)
                  have m2 := i64w3 ((v : Int) * 10 + (c : Int)) (by omega) (by omega)
                  have m3 := i64w3 ((v : Int) * 10 + (c : Int) - 48) (by omega) (by omega)
                  have m5 := i64w3 ((c : Int)) (by omega) (by omega)
                  have m4 := i64w3 ((p : Int) + 1 + 1 + (q : Int) + 1) (by omega) (by omega)
                  have k10 : decide ((v : Int) < 10000) = true := by simp; omega
                  have HVE : Hid ((v : Int) * 10 + (c : Int) - 48 = ((v * 10 + (c - 48) : Nat) : Int)) := Lib.hid (by omega)
                  clear hg hc hd
                  go_wp2_with fail
                  go_roundw
                  case rel => exact ⟨q + 1, by omega, by congr 1, rfl, by rw [hE.out]; exact congrArg (Value.int .i64) HVE.out, trivial⟩
                  case measure => simp [RowKit.intOf]; omega
                · obtain rfl : q = ex.length := by omega
                  rw [List.take_of_length_le (Nat.le_refl _)] at *
                  have eX : decide ((p : Int) + 1 + 1 + (ex.length : Int) < (l.length : Int)) = false := by simp; omega
                  have HLE : Hid ((p : Int) + 1 + 1 + (ex.length : Int) = (l.length : Int)) := Lib.hid (by omega)
                  have HEQ : Hid (ev ex = ev ex) := Lib.hid rfl
                  have HXV : Hid (xV (some (true, ex)) = ((ev ex : Nat) : Int)) := Lib.hid rfl
                  generalize ev ex = v at *
                  have z1 := i64w3 (-(v : Int)) (by omega) (by omega)
                  have z2 := i64w3 ((nu : Int) + -(v : Int)) (by omega) (by omega)
                  have z3 := i64w3 ((nu : Int) + -(v : Int) - (nu : Int)) (by omega) (by omega)
                  have z4 := i64w3 (de + -(v : Int)) (by omega) (by omega)
                  have z5 := i64w3 (de + -(v : Int) - (nu : Int)) (by omega) (by omega)
                  have z6 := i64w3 ((nu : Int) + (v : Int)) (by omega) (by omega)
                  have z7 := i64w3 ((nu : Int) + (v : Int) - (nu : Int)) (by omega) (by omega)
                  have z8 := i64w3 (de + (v : Int)) (by omega) (by omega)
                  have z9 := i64w3 (de + (v : Int) - (nu : Int)) (by omega) (by omega)
                  have z10 := i64w3 (v : Int) (by omega) (by omega)
                  have z11 : (v : Int) * (-1) = -(v : Int) := by omega
                  clear v2a v2b
                  go_wp2_with fail
                  (try simp only [Exit.inBlock, Exit.then, Exit.noGoto_ret])
                  refine bodyPost_ret (results_tmp7 rfl _ _ _) rfl ?_
                  refine ⟨ret7 ?_ ?_ HLE.out, n1, HWY.out⟩
                  · rw [HSP.out.2]
                  · rw [HSP.out.2, HXV.out]
                    unfold expOf
                    rw [if_neg HSP.out.1]
                    first
                    | (simp; done)
                    | (simp; omega)
          · as_aux_lemma =>
              go_wp2_with (go_at_call 96; refine (HLO.out _).mono ?_; rintro e w1 ⟨rfl, rfl⟩)
              have HWY := HWZ
              clear HWZ
              go_loopw [7, 9, 20] (fun i us ee wr => ∃ q : Nat, q ≤ ex.length ∧ i = .int .i64 ((p : Int) + 1 + 1 + (q : Int)) ∧ us = .bool false ∧ ee = .int .i64 (ev (ex.take q) : Nat) ∧ w1 = wr) (fun i _ _ _ => 100 - (RowKit.intOf i).toNat)
              case atStart => exact ⟨0, by omega, by congr 1, rfl, rfl, rfl⟩
              case round =>
                obtain ⟨q, hq, rfl, rfl, rfl, rfl⟩ := hrel
                have HEV := ev_lt ex HXE.out.dg q hq
                have hev3 : ev (ex.take q) < 1000 := Nat.lt_of_lt_of_le HEV (Nat.le_trans (Nat.pow_le_pow_right (by omega) (show q ≤ 3 by omega)) (by decide))
                clear HEV
                by_cases hqx : q < ex.length
                · have hb : p + 2 + q < l.length := by omega
                  have hd := HXE.out.dg q hqx
                  unfold Rf.Dg at hd
                  have hE : Hid (ev (ex.take (q + 1)) = ev (ex.take q) * 10 + (ex[q].toNat - 48)) := Lib.hid (ev_take ex q hqx)
                  have hg : l[p + 1 + 1 + q]'(by omega) = ex[q] := by
                    have := HXA.out q hqx hb
                    simpa [show p + 1 + 1 + q = p + 2 + q from by omega] using this
                  obtain ⟨c, hc⟩ : ∃ c : Nat, c = ex[q].toNat := ⟨_, rfl⟩
                  rw [← hc] at hd hE
                  have hcl : (((l[p + 1 + 1 + q]'(by omega)).toNat : Nat) : Int) = (c : Int) := by rw [hg, hc]
                  have bq0 : 0 ≤ (p : Int) + 1 + 1 + (q : Int) := by omega
                  have bq : (p : Int) + 1 + 1 + (q : Int) < (l.length : Int) := by omega
                  have k95 : ((c : Int) == 95) = false := by simp; omega
                  have k48 : decide ((48 : Int) ≤ (c : Int)) = true := by simp; omega
                  have k57 : decide ((c : Int) ≤ 57) = true := by simp; omega
                  generalize ev (ex.take q) = v at *
                  have m1 := i64w3 ((v : Int) * 10) (by omega) (by omega)
                  have m2 := i64w3 ((v : Int) * 10 + (c : Int)) (by omega) (by omega)
                  have m3 := i64w3 ((v : Int) * 10 + (c : Int) - 48) (by omega) (by omega)
                  have m5 := i64w3 ((c : Int)) (by omega) (by omega)
                  have m4 := i64w3 ((p : Int) + 1 + 1 + (q : Int) + 1) (by omega) (by omega)
                  have k10 : decide ((v : Int) < 10000) = true := by simp; omega
                  have HVE : Hid ((v : Int) * 10 + (c : Int) - 48 = ((v * 10 + (c - 48) : Nat) : Int)) := Lib.hid (by omega)
                  clear hg hc hd
                  go_wp2_with fail
                  go_roundw
                  case rel => exact ⟨q + 1, by omega, by congr 1, rfl, by rw [hE.out]; exact congrArg (Value.int .i64) HVE.out, trivial⟩
                  case measure => simp [RowKit.intOf]; omega
                · obtain rfl : q = ex.length := by omega
                  rw [List.take_of_length_le (Nat.le_refl _)] at *
                  have eX : decide ((p : Int) + 1 + 1 + (ex.length : Int) < (l.length : Int)) = false := by simp; omega
                  have HLE : Hid ((p : Int) + 1 + 1 + (ex.length : Int) = (l.length : Int)) := Lib.hid (by omega)
                  have HEQ : Hid (ev ex = ev ex) := Lib.hid rfl
                  have HXV : Hid (xV (some (true, ex)) = ((ev ex : Nat) : Int)) := Lib.hid rfl
                  generalize ev ex = v at *
                  have z1 := i64w3 (-(v : Int)) (by omega) (by omega)
                  have z2 := i64w3 ((nu : Int) + -(v : Int)) (by omega) (by omega)
                  have z3 := i64w3 ((nu : Int) + -(v : Int) - (nu : Int)) (by omega) (by omega)
                  have z4 := i64w3 (de + -(v : Int)) (by omega) (by omega)
                  have z5 := i64w3 (de + -(v : Int) - (nu : Int)) (by omega) (by omega)
                  have z6 := i64w3 ((nu : Int) + (v : Int)) (by omega) (by omega)
                  have z7 := i64w3 ((nu : Int) + (v : Int) - (nu : Int)) (by omega) (by omega)
                  have z8 := i64w3 (de + (v : Int)) (by omega) (by omega)
                  have z9 := i64w3 (de + (v : Int) - (nu : Int)) (by omega) (by omega)
                  have z10 := i64w3 (v : Int) (by omega) (by omega)
                  have z11 : (v : Int) * (-1) = -(v : Int) := by omega
                  clear v2a v2b
                  go_wp2_with fail
                  (try simp only [Exit.inBlock, Exit.then, Exit.noGoto_ret])
                  refine bodyPost_ret (results_tmp7 rfl _ _ _) rfl ?_
                  refine ⟨ret7 ?_ ?_ HLE.out, n1, HWY.out⟩
                  · rw [HSP.out.2]
                  · rw [HSP.out.2, HXV.out]
                    unfold expOf
                    rw [if_neg HSP.out.1]
                    first
                    | (simp; done)
                    | (simp; omega)
end Go.Proofs.YtedllapajgcfeaaGreatDoor
