/-
  GourlKnown: the chapter's examples: the call returns true.
-/
import Derived.Test.YtpccfagbmbbpkaaEq
namespace Go.Proofs.Ytpccfagbmbbpkaa
open Go.RowKit Go.Proofs.YtpccfagbmbbpkaaW.PrintWords

def KX : List (Pc.B × Pc.B × Pc.B) := [([47, 47, 91, 58, 58, 49, 93, 58, 56, 47], [91, 58, 58, 49, 93], [47]), ([47, 47, 97, 58, 98, 58, 49], [97, 58, 98], []), ([47, 47, 47, 120], [], [47, 47, 47, 120]), ([104, 116, 116, 112, 58, 47, 47, 47, 120], [], [47, 120]), ([109, 97, 105, 108, 116, 111, 58, 120], [], []), ([97, 37, 50, 48], [], [97, 37, 50, 48]), ([97, 47, 98, 58, 99], [], [97, 47, 98, 58, 99]), ([97, 58, 98, 58, 99], [], []), ([97, 32, 98], [], [97, 32, 98]), ([47, 47, 97, 37, 50, 53], [97, 37, 50, 53], []), ([47, 47, 97, 37, 101, 52], [97, 37, 101, 52], []), ([], [], []), ([47, 47], [], []), ([104, 116, 116, 112, 58, 47, 47, 64, 58, 56, 48], [], []), ([47, 47, 91, 93, 97, 93, 58], [91, 93, 97, 93], []), ([47, 97, 63, 37, 35, 37, 52, 49], [], [47, 97]), ([63, 58], [], []), ([47, 47, 97, 58, 56, 48, 58], [97, 58, 56, 48], [])]
def NX : List Pc.B := [[97, 37, 122, 122], [58, 97], [47, 47, 97, 32, 98], [47, 47, 97, 37, 52, 49], [47, 47, 37], [35, 37], [49, 58, 97], [1], [47, 47, 91, 97], [47, 47, 97, 93, 98, 58, 120], [47, 47, 117, 37, 64, 120], [47, 47, 117, 32, 64, 120], [47, 37, 52]]
def kx (k : Nat) : Pc.B × Pc.B × Pc.B := KX.getD k ([], [], [])
def nx (k : Nat) : Pc.B := NX.getD k []
theorem kx_ok : ∀ k, k < 18 → Gu.parse (kx k).1 = some ((kx k).2.1, (kx k).2.2) ∧ (kx k).1.length ≤ 100 := by decide +kernel
theorem nx_ok : ∀ k, k < 13 → Gu.parse (nx k) = none ∧ (nx k).length ≤ 100 := by decide +kernel
def KC : Array Value := #[.string ⟨#[47, 47, 91, 58, 58, 49, 93, 58, 56, 47]⟩, .string ⟨#[91, 58, 58, 49, 93]⟩, .string ⟨#[47]⟩, .string ⟨#[47, 47, 97, 58, 98, 58, 49]⟩, .string ⟨#[97, 58, 98]⟩, .string ⟨#[]⟩, .string ⟨#[47, 47, 47, 120]⟩, .string ⟨#[]⟩, .string ⟨#[47, 47, 47, 120]⟩, .string ⟨#[104, 116, 116, 112, 58, 47, 47, 47, 120]⟩, .string ⟨#[]⟩, .string ⟨#[47, 120]⟩, .string ⟨#[109, 97, 105, 108, 116, 111, 58, 120]⟩, .string ⟨#[]⟩, .string ⟨#[]⟩, .string ⟨#[97, 37, 50, 48]⟩, .string ⟨#[]⟩, .string ⟨#[97, 37, 50, 48]⟩, .string ⟨#[97, 47, 98, 58, 99]⟩, .string ⟨#[]⟩, .string ⟨#[97, 47, 98, 58, 99]⟩, .string ⟨#[97, 58, 98, 58, 99]⟩, .string ⟨#[]⟩, .string ⟨#[]⟩, .string ⟨#[97, 32, 98]⟩, .string ⟨#[]⟩, .string ⟨#[97, 32, 98]⟩, .string ⟨#[47, 47, 97, 37, 50, 53]⟩, .string ⟨#[97, 37, 50, 53]⟩, .string ⟨#[]⟩, .string ⟨#[47, 47, 97, 37, 101, 52]⟩, .string ⟨#[97, 37, 101, 52]⟩, .string ⟨#[]⟩, .string ⟨#[]⟩, .string ⟨#[]⟩, .string ⟨#[]⟩, .string ⟨#[47, 47]⟩, .string ⟨#[]⟩, .string ⟨#[]⟩, .string ⟨#[104, 116, 116, 112, 58, 47, 47, 64, 58, 56, 48]⟩, .string ⟨#[]⟩, .string ⟨#[]⟩, .string ⟨#[47, 47, 91, 93, 97, 93, 58]⟩, .string ⟨#[91, 93, 97, 93]⟩, .string ⟨#[]⟩, .string ⟨#[47, 97, 63, 37, 35, 37, 52, 49]⟩, .string ⟨#[]⟩, .string ⟨#[47, 97]⟩, .string ⟨#[63, 58]⟩, .string ⟨#[]⟩, .string ⟨#[]⟩, .string ⟨#[47, 47, 97, 58, 56, 48, 58]⟩, .string ⟨#[97, 58, 56, 48]⟩, .string ⟨#[]⟩]
def NC' : Array Value := #[.string ⟨#[97, 37, 122, 122]⟩, .string ⟨#[58, 97]⟩, .string ⟨#[47, 47, 97, 32, 98]⟩, .string ⟨#[47, 47, 97, 37, 52, 49]⟩, .string ⟨#[47, 47, 37]⟩, .string ⟨#[35, 37]⟩, .string ⟨#[49, 58, 97]⟩, .string ⟨#[1]⟩, .string ⟨#[47, 47, 91, 97]⟩, .string ⟨#[47, 47, 97, 93, 98, 58, 120]⟩, .string ⟨#[47, 47, 117, 37, 64, 120]⟩, .string ⟨#[47, 47, 117, 32, 64, 120]⟩, .string ⟨#[47, 37, 52]⟩]
theorem kc_get : ∀ k, k < 18 → KC[k * 3]? = some (.string ⟨(kx k).1.toArray⟩) ∧ KC[k * 3 + 1]? = some (.string ⟨(kx k).2.1.toArray⟩) ∧ KC[k * 3 + 2]? = some (.string ⟨(kx k).2.2.toArray⟩) := by
  intro k h
  rcases k with _ | _ | _ | _ | _ | _ | _ | _ | _ | _ | _ | _ | _ | _ | _ | _ | _ | _ | k
  all_goals first | exact ⟨rfl, rfl, rfl⟩ | omega
theorem nc_get : ∀ k, k < 13 → NC'[k]? = some (.string ⟨(nx k).toArray⟩) := by
  intro k h
  rcases k with _ | _ | _ | _ | _ | _ | _ | _ | _ | _ | _ | _ | _ | k
  all_goals first | rfl | omega
set_option maxRecDepth 100000 in
set_option maxHeartbeats 3200000 in
theorem known_any (w : World) : Calls Try.prog 4 #[] w fun e w' => e = .returned (.bool true) ∧ Below w.heap.size w w' := by
  go_enter Try.func4, Try.ntmps4
  go_wp2_with fail
  go_loopw [25] (fun i wr => ∃ k : Nat, k ≤ 18 ∧ i = .int .i64 k ∧ Below w.heap.size w wr ∧ Hid (wr.heap[w.heap.size]? = some (.cells KC 27 (0, 0)))) (fun i _ => 18 - (intOf i).toNat)
  case atStart => exact ⟨0, by omega, rfl, (Below.refl _ _).alloc (Nat.le_refl _) _, Lib.hid (blk_new w (.cells KC 27))⟩
  case round =>
    obtain ⟨k, hk, rfl, HB, HK⟩ := hrel
    by_cases hlt : k < 18
    · obtain ⟨g0, g1, g2⟩ := kc_get k hlt
      have c0 := (blk_cell HK.out (k * 3)).trans g0
      have c1 := (blk_cell HK.out (k * 3 + 1)).trans g1
      have c2 := (blk_cell HK.out (k * 3 + 2)).trans g2
      have hz := blk_lt HK.out
      obtain ⟨e1, e2⟩ := kx_ok k hlt
      have HF := Lib.hid (fun w => field_k (kx k).1 (kx k).2.1 (kx k).2.2 (by omega) e1 w)
      clear g0 g1 g2 e1 e2
      generalize (kx k).1 = x1 at *
      generalize (kx k).2.1 = x2 at *
      generalize (kx k).2.2 = x3 at *
      go_wp2_with fail
      refine (HF.out _).mono ?_
      rintro e w2 ⟨rfl, B2⟩
      have HB2 : Below w.heap.size w w2 := (HB.alloc HB.size _).trans (B2.mono (by have := HB.size; simp; omega))
      have HK2 := Lib.hid (blk_below (blk_alloc HK.out _) B2)
      clear B2 HB HK c0 c1 c2 HF
      go_wp2_with fail
      go_roundw
      case rel => exact ⟨k + 1, by omega, by go_num, HB2, HK2⟩
      case measure => simp [intOf]; omega
    · obtain rfl : k = 18 := by omega
      clear HK
      go_wp2_with fail
      have hz := HB.size
      go_loopw [40] (fun i wx => ∃ k : Nat, k ≤ 13 ∧ i = .int .i64 k ∧ Below w.heap.size w wx ∧ Hid (wx.heap[wr.heap.size]? = some (.cells NC' 9 (0, 0)))) (fun i _ => 13 - (intOf i).toNat)
      case atStart => exact ⟨0, by omega, rfl, HB.alloc hz _, Lib.hid (blk_new wr (.cells NC' 9))⟩
      case round =>
        clear HB
        obtain ⟨k, hk, rfl, HB, HK⟩ := hrel
        by_cases hlt : k < 13
        · have c0 := (blk_cell HK.out k).trans (nc_get k hlt)
          have hz2 := blk_lt HK.out
          obtain ⟨e1, e2⟩ := nx_ok k hlt
          have HF := Lib.hid (fun w => parse_k (nx k) (by omega) none e1 w)
          clear e1 e2
          generalize nx k = x1 at *
          have HE : ∀ w, (binOp .neq 24 (.agg #[.bool false, .string ⟨#[]⟩, .string ⟨#[]⟩]) (.agg #[.bool false, .string ⟨#[]⟩, .string ⟨#[]⟩])).run Try.prog w = .ok (.bool false) w := fun w => neq_res none none w
          have HG := fun op x y w => eqg_agg op x y #[.bool false, .string ⟨#[]⟩, .string ⟨#[]⟩] #[.bool false, .string ⟨#[]⟩, .string ⟨#[]⟩] w
          go_wp2_with fail
          refine (HF.out _).mono ?_
          rintro e w2 ⟨rfl, B2⟩
          have HB2 : Below w.heap.size w w2 := HB.trans (B2.mono HB.size)
          have HK2 := Lib.hid (blk_below HK.out B2)
          clear B2 HB HK c0 HF
          unfold res
          go_wp2_with fail
          go_roundw
          case rel => first | exact ⟨k + 1, by omega, by go_num, HB2, HK2⟩ | ((repeat apply Exists.intro); exact ⟨⟨k + 1, by omega, by go_num, HB2, HK2⟩, rfl⟩)
          case measure => simp [intOf]; omega
        · obtain rfl : k = 13 := by omega
          clear HK
          go_wp2_with fail
          refine (gawake_any _).mono ?_
          rintro e w3 ⟨rfl, B3⟩
          have HB3 : Below w.heap.size w w3 := HB.trans (B3.mono HB.size)
          clear HB B3
          go_wp2_with fail
          go_ret
          exact ⟨rfl, HB3⟩
end Go.Proofs.Ytpccfagbmbbpkaa
