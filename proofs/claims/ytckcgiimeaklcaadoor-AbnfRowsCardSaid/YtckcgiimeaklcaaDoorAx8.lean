/-
  The reader's literal: walked.
-/
import Derived.Test.YtckcgiimeaklcaaDoorAx7
namespace Go.Proofs.YtckcgiimeaklcaaDoor
set_option linter.unusedVariables false
set_option linter.unusedSimpArgs false
open Go.RowKit Go.Proofs.YtckcgiimeaklcaaDoorW.PrintWords
open Ab (T El R Rs sz rootI post els root hasR szs)
section
variable {w0 w : World} {base gg gr bm : Nat} {l : List UInt8} {ln : Int} {op : Nat} {es : List El} {ls : List Int} {rs : Rs} {vE vL : Value}
set_option maxRecDepth 100000 in
set_option maxHeartbeats 3200000 in
theorem literal_any (hl : ls.length = es.length) (h : RSv w base gg gr bm l ln op es ls rs vE vL) : Calls Tryd.prog 65 #[.pointer (some ⟨gr, 0, none⟩)] w (OutN w base gg gr bm l ln op es ls rs (Ab.lit l es.length)) := by
  have H := Lib.hid h
  have HL := Lib.hid hl
  obtain ⟨m, hm⟩ := h.mx
  have HM := Lib.hid hm
  obtain ⟨c0, c1, c2, c3⟩ := h.cells
  have HC := Lib.hid (cut_quote l)
  have hll := h.ll
  have hsz : (ByteArray.mk l.toArray).size < 4294967281 := by show l.toArray.size < _; simp; omega
  have HS := Lib.hid hsz
  clear h hl hm hsz hll
  cases hd : l.dropWhile (· != 34) with
  | nil =>
    have HE : Hid (Ab.lit l es.length = .no 8) := Lib.hid (by unfold Ab.lit; rw [hd])
    rw [HE.out]
    rw [hd] at HC
    clear hd
    go_enter Tryd.func65, Tryd.ntmps65
    go_wp2_with fail
    refine (Tryd.strings_Cut _ _ m _ HS.out HM.out).mono ?_
    rintro e w1 ⟨rfl, n, rfl⟩
    simp only [HC.out]
    go_wp2_with fail
    refine (fails_any 8).mono ?_
    rintro e w2 ⟨rfl, rfl⟩
    exact ⟨rfl, rfl, H.out.kp (pw_below_drewN (Below.refl _ _) n)⟩
  | cons d r =>
    have HC2 : Hid (Lib.cut l [34] = (l.takeWhile (· != 34), r, true)) := Lib.hid (by rw [HC.out, hd])
    have hrl : r.length ≤ l.length := by
      have := (List.dropWhile_sublist (· != (34 : UInt8)) (l := l)).length_le
      rw [hd] at this; simp at this; omega
    have HR := Lib.hid hrl
    have HE : Hid (Ab.lit l es.length = if (l.takeWhile (· != 34)).any Ab.odd then .no 8 else Ab.add (.txt (l.takeWhile (· != 34))) r es.length) := Lib.hid (by unfold Ab.lit; rw [hd])
    rw [HE.out]
    clear hd hrl HC HE
    generalize l.takeWhile (· != 34) = u at *
    generalize hT : (if u.any Ab.odd then Ab.R.no 8 else Ab.add (.txt u) r es.length) = res
    have HT := Lib.hid hT
    clear hT
    go_enter Tryd.func65, Tryd.ntmps65
    go_wp2_with fail
    refine (Tryd.strings_Cut _ _ m _ HS.out HM.out).mono ?_
    rintro e w1 ⟨rfl, n, rfl⟩
    simp only [HC2.out]
    have HD : Hid (Below w.heap.size w (w.drewN n)) := Lib.hid (pw_below_drewN (Below.refl _ _) n)
    generalize w.drewN n = W1 at *
    go_wp2_with fail
    refine (cont_any u _).mono ?_
    rintro e w2 ⟨rfl, B2⟩
    have HD2 : Hid (Below w.heap.size w w2) := Lib.hid (HD.out.trans (B2.mono HD.out.size))
    clear B2
    have H2 := Lib.hid (H.out.below HD2.out)
    clear c0 c1 c2 c3
    obtain ⟨c0, c1, c2, c3⟩ := H2.out.cells
    have f1 := H2.out.ice 1
    cases ho : u.any Ab.odd
    · have HT2 : Hid (res = Ab.add (.txt u) r es.length) := Lib.hid (by rw [← HT.out, ho]; rfl)
      go_wp2_with fail
      refine (add_out (t := .txt u) (x := ⟨0, u, 0, 0, 0, 0⟩) rfl rfl HL.out HR.out (H2.out.setS r HR.out) (H2.out.kset (H.out.kp HD2.out) 1 _)).mono ?_
      rintro e w3 hO
      rw [← HT2.out] at hO
      cases res with
      | no x =>
        obtain ⟨rfl, k3⟩ := hO
        exact ⟨rfl, rfl, k3⟩
      | ok t l' n' =>
        obtain ⟨rfl, hZ⟩ := hO
        have HZ := Lib.hid hZ
        clear hZ
        go_wp2_with fail
        go_ret
        exact ⟨rfl, HZ.out⟩
    · have HT2 : Hid (res = .no 8) := Lib.hid (by rw [← HT.out, ho]; rfl)
      go_wp2_with fail
      refine (fails_any 8).mono ?_
      rintro e w3 ⟨rfl, rfl⟩
      rw [HT2.out]
      exact ⟨rfl, rfl, H.out.kp HD2.out⟩
end
end Go.Proofs.YtckcgiimeaklcaaDoor
