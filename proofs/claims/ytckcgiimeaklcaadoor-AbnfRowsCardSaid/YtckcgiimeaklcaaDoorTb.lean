/-
  The table in memory; behind: walked.
-/
import Derived.Test.YtckcgiimeaklcaaDoorLt
namespace Go.Proofs.YtckcgiimeaklcaaDoor
set_option linter.unusedVariables false
set_option linter.unusedSimpArgs false
open Go.RowKit Go.Proofs.YtckcgiimeaklcaaDoorW.PrintWords
open Ab (T El R Rs sz rootI post els root hasR szs Tb TT)

/-- The table: its grammar stood at w0; row k is block gs k. -/
structure TbAt (w0 W : World) (gt gg bm : Nat) (es : List El) (rs : Rs) (A : Option Addr) (c : Nat) (vL : Value) (wd : List UInt8) (tb : Tb) (ge cap : Nat) (gs : Nat → Nat) : Prop where
  gram : GramAt w0 gg bm es rs A c vL
  bel : Below w0.heap.size w0 W
  lt : w0.heap.size ≤ gt
  tblk : W.heap[gt]? = some (.cells #[.pointer (some ⟨gg, 0, none⟩), .string ⟨wd.toArray⟩, .slice (some ⟨ge, 0, none⟩) es.length cap] 49 (0, 0))
  eblk : ∃ ec, W.heap[ge]? = some (.cells ec 50 (0, 0)) ∧ ∀ k, k < es.length → ec[k]? = some (.slice (some ⟨gs k, 0, none⟩) (wd.length + 1) (wd.length + 1))
  row : ∀ k, k < es.length → ∃ rc, W.heap[gs k]? = some (.cells rc 53 (0, 0)) ∧ ∀ i, i ≤ wd.length → rc[i * 2]? = some (.int .u64 (tb k i).a) ∧ rc[i * 2 + 1]? = some (.int .u64 (tb k i).b)
  rlt : ∀ k, k < es.length → w0.heap.size ≤ gs k
  inj : ∀ k k', k < es.length → k' < es.length → gs k = gs k' → k = k'
  wl : wd.length ≤ 120
  nl : es.length ≤ 1500
section
variable {w0 W W' : World} {gt gg bm : Nat} {es : List El} {rs : Rs} {A : Option Addr} {c : Nat} {vL : Value} {wd : List UInt8} {tb : Tb} {ge cap : Nat} {gs : Nat → Nat}
theorem TbAt.below (h : TbAt w0 W gt gg bm es rs A c vL wd tb ge cap gs) (hb : Below W.heap.size W W') : TbAt w0 W' gt gg bm es rs A c vL wd tb ge cap gs := by
  refine ⟨h.gram, bthen h.bel hb, h.lt, blk_below h.tblk hb, ?_, ?_, h.rlt, h.inj, h.wl, h.nl⟩
  · obtain ⟨ec, h1, h2⟩ := h.eblk
    exact ⟨ec, blk_below h1 hb, h2⟩
  · intro k hk
    obtain ⟨rc, h1, h2⟩ := h.row k hk
    exact ⟨rc, blk_below h1 hb, h2⟩
theorem TbAt.cells (h : TbAt w0 W gt gg bm es rs A c vL wd tb ge cap gs) : W.cell? ⟨gt, 0, none⟩ = some (.pointer (some ⟨gg, 0, none⟩)) ∧ W.cell? ⟨gt, 1, none⟩ = some (.string ⟨wd.toArray⟩) ∧ W.cell? ⟨gt, 2, none⟩ = some (.slice (some ⟨ge, 0, none⟩) es.length cap) :=
  ⟨(blk_cell h.tblk 0).trans rfl, (blk_cell h.tblk 1).trans rfl, (blk_cell h.tblk 2).trans rfl⟩
theorem TbAt.ecell (h : TbAt w0 W gt gg bm es rs A c vL wd tb ge cap gs) (k : Nat) (hk : k < es.length) : W.cell? ⟨ge, k, none⟩ = some (.slice (some ⟨gs k, 0, none⟩) (wd.length + 1) (wd.length + 1)) := by
  obtain ⟨ec, h1, h2⟩ := h.eblk
  exact (blk_cell h1 k).trans (h2 k hk)
theorem TbAt.rcell (h : TbAt w0 W gt gg bm es rs A c vL wd tb ge cap gs) (k : Nat) (hk : k < es.length) (i : Nat) (hi : i ≤ wd.length) : W.cell? ⟨gs k, i * 2, none⟩ = some (.int .u64 (tb k i).a) ∧ W.cell? ⟨gs k, i * 2 + 1, none⟩ = some (.int .u64 (tb k i).b) := by
  obtain ⟨rc, h1, h2⟩ := h.row k hk
  exact ⟨(blk_cell h1 _).trans (h2 i hi).1, (blk_cell h1 _).trans (h2 i hi).2⟩
theorem TbAt.rblk (h : TbAt w0 W gt gg bm es rs A c vL wd tb ge cap gs) (k : Nat) (hk : k < es.length) : gs k < W.heap.size := by
  obtain ⟨rc, h1, h2⟩ := h.row k hk
  exact blk_lt h1
theorem PAt.below {g : Nat} {s : W2} (h : PAt W g s) (hb : Below W.heap.size W W') : PAt W' g s := blk_below h hb
theorem PAt.lt {g : Nat} {s : W2} (h : PAt W g s) : g < W.heap.size := blk_lt h
theorem PAt.grown {g g2 : Nat} {s : W2} (h : PAt W g s) (hg : W.grownBy W' (some g2)) (hne : g ≠ g2) : PAt W' g s := blk_grown h hg (by simpa using hne)
/-- A block that came later turned. -/
theorem below_grown {B g : Nat} (h : Below B W W') {W2 : World} (hg : W'.grownBy W2 (some g)) (hB : B ≤ W'.heap.size) (hlt : B ≤ g) : Below B W W2 :=
  ⟨hg.os.trans h.os, hg.tape.trans h.tape, hg.output.trans h.output, Nat.le_trans h.size hg.size, fun k hk => (hg.block k (by omega) (by intro e; injection e with e; omega)).trans (h.block k hk)⟩
set_option maxRecDepth 100000 in
set_option maxHeartbeats 6400000 in
theorem behind_any (h : TbAt w0 W gt gg bm es rs A c vL wd tb ge cap gs) (hok : ∀ k i, (tb k i).Ok) (k : Nat) (hk : k < es.length) (gf : Nat) (s : W2) (hs : s.Ok) (hf : PAt W gf s) (i : Nat) (hi : i ≤ wd.length) :
    Calls Tryd.prog 30 #[.pointer (some ⟨gt, 0, none⟩), .int .i64 k, .pointer (some ⟨gf, 0, none⟩), .int .i64 i] W fun e w' =>
      ∃ p : W2, e = .returned (.agg #[.int .u64 p.a, .int .u64 p.b]) ∧ p.Ok ∧ (∀ j, p.has j = true ↔ ∃ m, i ≤ m ∧ m ≤ wd.length ∧ s.has m = true ∧ TT tb k m j) ∧ Below W.heap.size W w' := by
  have H := Lib.hid h
  have HOK := Lib.hid hok
  have HF := Lib.hid hf
  have HS := Lib.hid hs
  have HI := Lib.hid (And.intro hk hi)
  have hwl := h.wl
  have hnl := h.nl
  clear h hok hf hs
  go_enter Tryd.func30, Tryd.ntmps30
  go_wp2_with fail
  obtain ⟨W1, hW1⟩ : ∃ z, z = (W.alloc (.cells #[.int .u64 0, .int .u64 0] 53)).alloc (.cells #[.int .u64 0, .int .u64 0] 53) := ⟨_, rfl⟩
  have hB1 : Below W.heap.size W W1 := by rw [hW1]; (repeat (first | exact Below.refl _ _ | assumption | refine Below.drew ?_ | refine Below.alloc ?_ (by first | exact Nat.le_refl _ | (simp; done) | (simp; omega) | omega) _ | refine Below.setCell ?_ (by first | exact Nat.le_refl _ | (simp; done) | (simp; omega) | omega) _))
  have hP8 : PAt W1 W.heap.size W2.zero := by rw [hW1]; exact blk_alloc (blk_new W _) _
  have hP9 : PAt W1 (W.heap.size + 1) W2.zero := by rw [hW1]; exact ab_new_at _ _ _ (by simp)
  rw [← hW1]
  have HB1 := Lib.hid hB1
  have HP8 := Lib.hid hP8
  have HP9 := Lib.hid hP9
  obtain ⟨q, hq⟩ : ∃ q, W.heap.size = q := ⟨_, rfl⟩
  have HQ := Lib.hid hq
  rw [hq] at HB1 HP8 HP9 ⊢
  clear hW1 hB1 hP8 hP9 hq
  go_loopw [3] (fun v3 wr => ∃ (m : Nat) (p : W2), v3 = .int .i64 m ∧ i ≤ m ∧ m ≤ wd.length + 1 ∧ Hid (p.Ok ∧ (∀ j, p.has j = true ↔ ∃ m', i ≤ m' ∧ m' < m ∧ s.has m' = true ∧ TT tb k m' j) ∧ PAt wr (q + 1) p ∧ PAt wr q W2.zero ∧ Below q W wr)) (fun v3 _ => wd.length + 1 - (RowKit.intOf v3).toNat)
  case atStart => exact ⟨i, W2.zero, rfl, by omega, by omega, Lib.hid ⟨W2.ok_zero, fun j => ⟨fun h => absurd h (by rw [W2.has_zero]; simp), fun ⟨m, h1, h2, _⟩ => absurd h1 (by omega)⟩, HP9.out, HP8.out, HB1.out⟩⟩
  case round =>
    clear HP8 HP9 HB1
    obtain ⟨m, p, rfl, him, hm, HR⟩ := hrel
    have HT := Lib.hid (H.out.below (by rw [HQ.out]; exact HR.out.2.2.2.2))
    obtain ⟨t0, t1, t2⟩ := HT.out.cells
    have wm0 : IntKind.i64.wrap (m : Int) = (m : Int) := IntWalk.i64_in _ (by omega)
    have wm1 : IntKind.i64.wrap ((m : Int) + 1) = (m : Int) + 1 := IntWalk.i64_in _ (by omega)
    by_cases hlt : m ≤ wd.length
    · have e1 : decide ((m : Int) ≤ (wd.length : Int)) = true := decide_eq_true (by omega)
      obtain ⟨f0, f1⟩ := (HF.out.below (by rw [HQ.out]; exact HR.out.2.2.2.2)).cells
      have HC := Lib.hid (phas_any s HS.out gf 0 m (by omega) wr f0 f1)
      cases hh : s.has m
      · rw [hh] at HC
        have HH := Lib.hid hh
        clear hh
        go_wp2_with fail
        refine HC.out.mono ?_
        rintro e w2 ⟨rfl, rfl⟩
        go_wp2_with fail
        go_roundw
        case rel =>
          refine ⟨m + 1, p, by go_num, by omega, by omega, Lib.hid ⟨HR.out.1, fun j => ?_, HR.out.2.2⟩⟩
          rw [HR.out.2.1 j]
          constructor
          · rintro ⟨m', h1, h2, h3, h4⟩
            exact ⟨m', h1, by omega, h3, h4⟩
          · rintro ⟨m', h1, h2, h3, h4⟩
            have : m' ≠ m := by rintro rfl; rw [HH.out] at h3; cases h3
            exact ⟨m', h1, by omega, h3, h4⟩
        case measure => simp [RowKit.intOf] <;> omega
      · rw [hh] at HC
        have HH := Lib.hid hh
        clear hh
        have te := HT.out.ecell k HI.out.1
        have tr := HT.out.rcell k HI.out.1 m hlt
        have hkn := HI.out.1
        have e2 : (k : Int) < es.length := by omega
        have e3 : (0 : Int) ≤ (k : Int) := by omega
        have e4 : (m : Int) < (wd.length : Int) + 1 := by omega
        have e5 : (0 : Int) ≤ (m : Int) := by omega
        have HO := Lib.hid (por_any p (tb k m) HR.out.1 (HOK.out k m) (q + 1) (gs k) (m * 2) (by have := H.out.rblk k hkn; have := HQ.out; omega) wr HR.out.2.2.1 tr.1 tr.2)
        clear tr
        go_wp2_with fail
        refine HC.out.mono ?_
        rintro e w2 ⟨rfl, rfl⟩
        go_wp2_with fail
        refine HO.out.mono ?_
        rintro e w3 ⟨rfl, hP3, hG3⟩
        have HR3 : Hid ((p.or (tb k m)).Ok ∧ (∀ j, (p.or (tb k m)).has j = true ↔ ∃ m', i ≤ m' ∧ m' < m + 1 ∧ s.has m' = true ∧ TT tb k m' j) ∧ PAt w3 (q + 1) (p.or (tb k m)) ∧ PAt w3 q W2.zero ∧ Below q W w3) := by
          refine Lib.hid ⟨W2.ok_or HR.out.1 (HOK.out k m), fun j => ?_, hP3, HR.out.2.2.2.1.grown hG3 (by omega), below_grown HR.out.2.2.2.2 hG3 (by have := HR.out.2.2.1.lt; omega) (by omega)⟩
          rw [W2.has_or, Bool.or_eq_true, HR.out.2.1 j]
          constructor
          · rintro (⟨m', h1, h2, h3, h4⟩ | h)
            · exact ⟨m', h1, by omega, h3, h4⟩
            · exact ⟨m, him, by omega, HH.out, h⟩
          · rintro ⟨m', h1, h2, h3, h4⟩
            by_cases e : m' = m
            · subst e; exact .inr h4
            · exact .inl ⟨m', h1, by omega, h3, h4⟩
        clear hP3 hG3 t0 t1 t2 te HO
        go_wp2_with fail
        go_roundw
        case rel => exact ⟨m + 1, p.or (tb k m), by go_num, by omega, by omega, HR3⟩
        case measure => simp [RowKit.intOf] <;> omega
    · have e1 : decide ((m : Int) ≤ (wd.length : Int)) = false := decide_eq_false (by omega)
      obtain rfl : m = wd.length + 1 := by omega
      obtain ⟨a0, a1⟩ := HR.out.2.2.1.cells
      obtain ⟨b0, b1⟩ := HR.out.2.2.2.1.cells
      have fb0 := blk_frozen HR.out.2.2.2.1 0
      have fb1 := blk_frozen HR.out.2.2.2.1 1
      go_wp2_with fail
      clear a0 a1 b0 b1 fb0 fb1 t0 t1 t2
      have hz : PAt ((wr.setCell ⟨q, 0, none⟩ (.int .u64 p.a)).setCell ⟨q, 1, none⟩ (.int .u64 p.b)) (q) p := blk_put (blk_put HR.out.2.2.2.1 0 (.int .u64 p.a) rfl) 1 (.int .u64 p.b) rfl
      have hzb := Lib.hid (((HR.out.2.2.2.2 : Below q W wr).setCell (p := ⟨q, 0, none⟩) (show q ≤ q by omega) (.int .u64 p.a)).setCell (p := ⟨q, 1, none⟩) (show q ≤ q by omega) (.int .u64 p.b))
      generalize ((wr.setCell ⟨q, 0, none⟩ (.int .u64 p.a)).setCell ⟨q, 1, none⟩ (.int .u64 p.b)) = Z at hz hzb ⊢
      obtain ⟨z0, z1⟩ := hz.cells
      clear hz
      refine bodyPost_ret (v := .agg #[.int .u64 p.a, .int .u64 p.b]) (by simp [results, Tryd.results30, go_sem, z0, z1]) rfl ?_
      refine ⟨p, rfl, HR.out.1, fun j => ?_, by rw [HQ.out]; exact hzb.out⟩
      rw [HR.out.2.1 j]
      exact ⟨fun ⟨m', h1, h2, h3⟩ => ⟨m', h1, by omega, h3⟩, fun ⟨m', h1, h2, h3⟩ => ⟨m', h1, by omega, h3⟩⟩
end
end Go.Proofs.YtckcgiimeaklcaaDoor
