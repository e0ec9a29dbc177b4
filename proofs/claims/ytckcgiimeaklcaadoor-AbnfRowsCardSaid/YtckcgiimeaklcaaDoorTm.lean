/-
  The table's times: walked.
-/
import Derived.Test.YtckcgiimeaklcaaDoorTb
import Derived.Test.YtckcgiimeaklcaaDoorPeq
namespace Go.Proofs.YtckcgiimeaklcaaDoor
set_option linter.unusedVariables false
set_option linter.unusedSimpArgs false
open Go.RowKit Go.Proofs.YtckcgiimeaklcaaDoorW.PrintWords
open Ab (T El R Rs sz rootI post els root hasR szs Tb TT)
section
variable {w0 W W' : World} {gt gg bm : Nat} {es : List El} {rs : Rs} {A : Option Addr} {c : Nat} {vL : Value} {wd : List UInt8} {tb : Tb} {ge cap : Nat} {gs : Nat → Nat}
/-- An element in a block of its own. -/
def EAt (W : World) (g : Nat) (x : El) : Prop := W.heap[g]? = some (.cells (elC x).toArray 45 (0, 0))
theorem EAt.cells {g : Nat} {x : El} (h : EAt W g x) : W.cell? ⟨g, 0, none⟩ = some (.int .i64 x.k) ∧ W.cell? ⟨g, 1, none⟩ = some (.string ⟨x.t.toArray⟩) ∧ W.cell? ⟨g, 2, none⟩ = some (.int .i64 x.a) ∧ W.cell? ⟨g, 3, none⟩ = some (.int .i64 x.b) ∧ W.cell? ⟨g, 4, none⟩ = some (.int .i64 x.lo) ∧ W.cell? ⟨g, 5, none⟩ = some (.int .i64 x.hi) :=
  ⟨(blk_cell h 0).trans rfl, (blk_cell h 1).trans rfl, (blk_cell h 2).trans rfl, (blk_cell h 3).trans rfl, (blk_cell h 4).trans rfl, (blk_cell h 5).trans rfl⟩
theorem EAt.below {g : Nat} {x : El} (h : EAt W g x) (hb : Below W.heap.size W W') : EAt W' g x := blk_below h hb
theorem EAt.set {g : Nat} {x : El} (h : EAt W g x) {p : Addr} (hp : g ≠ p.block) (v : Value) : EAt (W.setCell p v) g x := blk_far h hp v
theorem PAt.set {g : Nat} {s : W2} (h : PAt W g s) {p : Addr} (hp : g ≠ p.block) (v : Value) : PAt (W.setCell p v) g s := blk_far h hp v
theorem PAt.put {g : Nat} {s t : W2} (h : PAt W g s) : PAt ((W.setCell ⟨g, 0, none⟩ (.int .u64 t.a)).setCell ⟨g, 1, none⟩ (.int .u64 t.b)) g t := blk_put (blk_put h 0 (.int .u64 t.a) rfl) 1 (.int .u64 t.b) rfl
theorem EAt.grown {g g2 : Nat} {x : El} (h : EAt W g x) (hg : W.grownBy W' (some g2)) (hne : g ≠ g2) : EAt W' g x := blk_grown h hg (by simpa using hne)
namespace Ab
theorem step_fwd {tb : Tb} {wd : B} (hF : Fwd wd tb) {a m i j : Nat} (hi : i ≤ wd.length) : (∃ m', i ≤ m' ∧ m' ≤ wd.length ∧ St (TT tb a) m i m' ∧ TT tb a m' j) ↔ St (TT tb a) (m + 1) i j := by
  constructor
  · rintro ⟨m', h1, h2, h3, h4⟩
    exact .succ h3 h4
  · intro h
    cases h with
    | succ h1 h2 =>
      have := h1.fwd (fun i j h => hF _ i j h) hi
      exact ⟨_, this.1, this.2, h1, h2⟩
end Ab
set_option maxRecDepth 100000 in
set_option maxHeartbeats 12800000 in
theorem times_any (h : TbAt w0 W gt gg bm es rs A c vL wd tb ge cap gs) (hok : ∀ k i, (tb k i).Ok) (hF : Ab.Fwd wd tb) (x : El) (a lo : Nat) (hi : Int) (hxa : x.a = a) (hxl : x.lo = lo) (hxh : x.hi = hi) (ha : a < es.length) (hlo : lo ≤ 99) (hhi : hi = -1 ∨ ((lo : Int) ≤ hi ∧ hi ≤ 99)) (i : Nat) (hii : i ≤ wd.length) :
    Calls Tryd.prog 32 #[.pointer (some ⟨gt, 0, none⟩), .agg (elC x).toArray, .int .i64 i] W fun e w' =>
      ∃ p : W2, e = .returned (.agg #[.int .u64 p.a, .int .u64 p.b]) ∧ p.Ok ∧ (∀ j, p.has j = true ↔ Ab.Ofts (TT tb a) lo hi i j) ∧ Below W.heap.size W w' := by
  have H := Lib.hid h
  have HOK := Lib.hid hok
  have HF := Lib.hid hF
  have HI := Lib.hid (And.intro ha (And.intro hlo (And.intro hhi hii)))
  have hwl := h.wl
  have hnl := h.nl
  clear h hok hF
  go_enter Tryd.func32, Tryd.ntmps32
  go_wp2_with fail
  obtain ⟨W1, hW1⟩ : ∃ z, z = (((W.alloc (.cells (elC x).toArray 45)).alloc (.cells #[.int .u64 0, .int .u64 0] 53)).alloc (.cells #[.int .u64 0, .int .u64 0] 53)).alloc (.cells #[.int .u64 0, .int .u64 0] 53) := ⟨_, rfl⟩
  have hB1 : Below W.heap.size W W1 := by rw [hW1]; (repeat (first | exact Below.refl _ _ | assumption | refine Below.drew ?_ | refine Below.alloc ?_ (by first | exact Nat.le_refl _ | (simp; done) | (simp; omega) | omega) _ | refine Below.setCell ?_ (by first | exact Nat.le_refl _ | (simp; done) | (simp; omega) | omega) _))
  have hE : EAt W1 W.heap.size x := by rw [hW1]; exact blk_alloc (blk_alloc (blk_alloc (blk_new W _) _) _) _
  have hP6 : PAt W1 (W.heap.size + 1) W2.zero := by rw [hW1]; exact blk_alloc (blk_alloc (ab_new_at _ _ _ (by simp)) _) _
  have hP7 : PAt W1 (W.heap.size + 2) W2.zero := by rw [hW1]; exact blk_alloc (ab_new_at _ _ _ (by simp)) _
  have hP8 : PAt W1 (W.heap.size + 3) W2.zero := by rw [hW1]; exact ab_new_at _ _ _ (by simp)
  rw [← hW1]
  have HB1 := Lib.hid hB1
  have HE := Lib.hid hE
  have HP6 := Lib.hid hP6
  have HP7 := Lib.hid hP7
  have HP8 := Lib.hid hP8
  obtain ⟨q, hq⟩ : ∃ q, W.heap.size = q := ⟨_, rfl⟩
  have HQ := Lib.hid hq
  rw [hq] at HB1 HE HP6 HP7 HP8 ⊢
  clear hW1 hB1 hE hP6 hP7 hP8 hq
  refine (padd_any W2.zero W2.ok_zero (q + 2) i (by omega) W1 HP7.out).mono ?_
  rintro e w2 ⟨rfl, hP, hG⟩
  have HR : Hid ((W2.zero.put i).Ok ∧ (∀ j, (W2.zero.put i).has j = true ↔ Ab.St (TT tb a) 0 i j) ∧ PAt w2 (q + 2) (W2.zero.put i) ∧ EAt w2 q x ∧ PAt w2 (q + 1) W2.zero ∧ PAt w2 (q + 3) W2.zero ∧ Below q W w2) := by
    refine Lib.hid ⟨W2.ok_put W2.ok_zero i, fun j => ?_, hP, HE.out.grown hG (by omega), HP6.out.grown hG (by omega), HP8.out.grown hG (by omega), below_grown HB1.out hG (by have := HP7.out.lt; omega) (by omega)⟩
    rw [W2.has_put _ _ (by omega), W2.has_zero]
    simp only [Bool.false_or, decide_eq_true_eq]
    exact ⟨fun e => by rw [e]; exact .zero i, fun s => by cases s; rfl⟩
  clear hP hG HB1 HE HP6 HP7 HP8
  generalize W2.zero.put i = s0 at HR
  obtain ⟨e0, e1, e2, e3, e4, e5⟩ := HR.out.2.2.2.1.cells
  rw [hxa] at e2
  rw [hxl] at e4
  rw [hxh] at e5
  go_wp2_with fail
  go_loopw [15] (fun v wr => ∃ (m : Nat) (s : W2), v = .int .i64 m ∧ m ≤ lo ∧ Hid (s.Ok ∧ (∀ j, s.has j = true ↔ Ab.St (TT tb a) m i j) ∧ PAt wr (q + 2) s ∧ EAt wr q x ∧ PAt wr (q + 1) W2.zero ∧ PAt wr (q + 3) W2.zero ∧ Below q W wr)) (fun v _ => lo - (RowKit.intOf v).toNat)
  case atStart => exact ⟨0, s0, rfl, by omega, HR⟩
  case round =>
    clear HR e0 e1 e2 e3 e4 e5
    obtain ⟨m, s, rfl, hm, HR⟩ := hrel
    have wm1 : IntKind.i64.wrap ((m : Int) + 1) = (m : Int) + 1 := IntWalk.i64_in _ (by omega)
    obtain ⟨e0, e1, e2, e3, e4, e5⟩ := HR.out.2.2.2.1.cells
    rw [hxa] at e2
    rw [hxl] at e4
    rw [hxh] at e5
    by_cases hlt : m < lo
    · have t1 : decide ((m : Int) < (lo : Int)) = true := decide_eq_true (by omega)
      have HT := Lib.hid (H.out.below (by rw [HQ.out]; exact HR.out.2.2.2.2.2.2))
      go_wp2_with fail
      refine (behind_any HT.out HOK.out a HI.out.1 (q + 2) s HR.out.1 HR.out.2.2.1 i HI.out.2.2.2).mono ?_
      rintro e w3 ⟨p, rfl, hpo, hph, hB3⟩
      have HR3 : Hid (p.Ok ∧ (∀ j, p.has j = true ↔ Ab.St (TT tb a) (m + 1) i j) ∧ PAt ((w3.setCell ⟨q + 2, 0, none⟩ (.int .u64 p.a)).setCell ⟨q + 2, 1, none⟩ (.int .u64 p.b)) (q + 2) p ∧ EAt ((w3.setCell ⟨q + 2, 0, none⟩ (.int .u64 p.a)).setCell ⟨q + 2, 1, none⟩ (.int .u64 p.b)) q x ∧ PAt ((w3.setCell ⟨q + 2, 0, none⟩ (.int .u64 p.a)).setCell ⟨q + 2, 1, none⟩ (.int .u64 p.b)) (q + 1) W2.zero ∧ PAt ((w3.setCell ⟨q + 2, 0, none⟩ (.int .u64 p.a)).setCell ⟨q + 2, 1, none⟩ (.int .u64 p.b)) (q + 3) W2.zero ∧ Below q W ((w3.setCell ⟨q + 2, 0, none⟩ (.int .u64 p.a)).setCell ⟨q + 2, 1, none⟩ (.int .u64 p.b))) := by
        have hb : Below q W w3 := HR.out.2.2.2.2.2.2.trans (hB3.mono (by have := HR.out.2.2.1.lt; omega))
        refine Lib.hid ⟨hpo, fun j => ?_, (HR.out.2.2.1.below hB3).put, ((HR.out.2.2.2.1.below hB3).set (p := ⟨q + 2, 0, none⟩) (show q ≠ q + 2 by omega) _).set (p := ⟨q + 2, 1, none⟩) (show q ≠ q + 2 by omega) _, ((HR.out.2.2.2.2.1.below hB3).set (p := ⟨q + 2, 0, none⟩) (show q + 1 ≠ q + 2 by omega) _).set (p := ⟨q + 2, 1, none⟩) (show q + 1 ≠ q + 2 by omega) _, ((HR.out.2.2.2.2.2.1.below hB3).set (p := ⟨q + 2, 0, none⟩) (show q + 3 ≠ q + 2 by omega) _).set (p := ⟨q + 2, 1, none⟩) (show q + 3 ≠ q + 2 by omega) _, (hb.setCell (p := ⟨q + 2, 0, none⟩) (show q ≤ q + 2 by omega) _).setCell (p := ⟨q + 2, 1, none⟩) (show q ≤ q + 2 by omega) _⟩
        rw [hph j, ← Ab.step_fwd HF.out HI.out.2.2.2]
        exact ⟨fun ⟨m', h1, h2, h3, h4⟩ => ⟨m', h1, h2, (HR.out.2.1 m').1 h3, h4⟩, fun ⟨m', h1, h2, h3, h4⟩ => ⟨m', h1, h2, (HR.out.2.1 m').2 h3, h4⟩⟩
      have hpn := HR.out.2.2.1.below hB3
      have f0 := blk_frozen hpn 0
      have f1 := blk_frozen hpn 1
      obtain ⟨n0, n1⟩ := hpn.cells
      clear hpo hph hB3 hpn e0 e1 e2 e3 e4 e5
      go_wp2_with fail
      go_roundw
      case rel => exact ⟨m + 1, p, by go_num, by omega, HR3⟩
      case measure => simp [RowKit.intOf] <;> omega
    · obtain rfl : m = lo := by omega
      have t1 : decide ((m : Int) < (m : Int)) = false := decide_eq_false (by omega)
      obtain ⟨n0, n1⟩ := HR.out.2.2.1.cells
      obtain ⟨o0, o1⟩ := HR.out.2.2.2.2.2.1.cells
      have f0 := blk_frozen HR.out.2.2.2.2.2.1 0
      have f1 := blk_frozen HR.out.2.2.2.2.2.1 1
      have HR4 : Hid (EAt ((wr.setCell ⟨q + 3, 0, none⟩ (.int .u64 s.a)).setCell ⟨q + 3, 1, none⟩ (.int .u64 s.b)) q x ∧ PAt ((wr.setCell ⟨q + 3, 0, none⟩ (.int .u64 s.a)).setCell ⟨q + 3, 1, none⟩ (.int .u64 s.b)) (q + 1) W2.zero ∧ PAt ((wr.setCell ⟨q + 3, 0, none⟩ (.int .u64 s.a)).setCell ⟨q + 3, 1, none⟩ (.int .u64 s.b)) (q + 2) s ∧ PAt ((wr.setCell ⟨q + 3, 0, none⟩ (.int .u64 s.a)).setCell ⟨q + 3, 1, none⟩ (.int .u64 s.b)) (q + 3) s ∧ Below q W ((wr.setCell ⟨q + 3, 0, none⟩ (.int .u64 s.a)).setCell ⟨q + 3, 1, none⟩ (.int .u64 s.b))) := by
        refine Lib.hid ⟨(HR.out.2.2.2.1.set (p := ⟨q + 3, 0, none⟩) (show q ≠ q + 3 by omega) _).set (p := ⟨q + 3, 1, none⟩) (show q ≠ q + 3 by omega) _, (HR.out.2.2.2.2.1.set (p := ⟨q + 3, 0, none⟩) (show q + 1 ≠ q + 3 by omega) _).set (p := ⟨q + 3, 1, none⟩) (show q + 1 ≠ q + 3 by omega) _, (HR.out.2.2.1.set (p := ⟨q + 3, 0, none⟩) (show q + 2 ≠ q + 3 by omega) _).set (p := ⟨q + 3, 1, none⟩) (show q + 2 ≠ q + 3 by omega) _, HR.out.2.2.2.2.2.1.put, (HR.out.2.2.2.2.2.2.setCell (p := ⟨q + 3, 0, none⟩) (show q ≤ q + 3 by omega) _).setCell (p := ⟨q + 3, 1, none⟩) (show q ≤ q + 3 by omega) _⟩
      have HS := Lib.hid (And.intro HR.out.1 HR.out.2.1)
      clear HR
      go_wp2_with fail
      clear e0 e1 e2 e3 e4 e5 f0 f1 n0 n1 o0 o1
      generalize ((wr.setCell ⟨q + 3, 0, none⟩ (.int .u64 s.a)).setCell ⟨q + 3, 1, none⟩ (.int .u64 s.b)) = W5 at HR4 ⊢
      go_loopw [9] (fun v wr => ∃ (n : Nat) (s o : W2), v = .int .i64 n ∧ m ≤ n ∧ (hi = -1 ∨ (n : Int) ≤ hi) ∧ n + o.cnt ≤ m + 128 ∧ Hid ((s.Ok ∧ ∀ j, s.has j = true ↔ Ab.St (TT tb a) n i j) ∧ o.Ok ∧ (∀ j, o.has j = true ↔ ∃ m', m ≤ m' ∧ m' ≤ n ∧ Ab.St (TT tb a) m' i j)) ∧ Hid (EAt wr q x ∧ PAt wr (q + 1) W2.zero ∧ PAt wr (q + 2) s ∧ PAt wr (q + 3) o ∧ Below q W wr)) (fun v _ => 1000 - (RowKit.intOf v).toNat)
      case atStart =>
        refine ⟨m, s, s, rfl, by omega, ?_, by have := W2.cnt_max s; omega, Lib.hid ⟨HS.out, HS.out.1, fun j => ?_⟩, HR4⟩
        · rcases hhi with h | h
          · exact .inl h
          · exact .inr h.1
        · rw [HS.out.2 j]
          constructor
          · exact fun h => ⟨m, by omega, by omega, h⟩
          · rintro ⟨m', h1, h2, h3⟩
            obtain rfl : m' = m := by omega
            exact h3
      case round =>
        clear HR4 HS
        obtain ⟨n, s, o, rfl, hn, hnh, hcn, HS, HR⟩ := hrel
        have wn1 : IntKind.i64.wrap ((n : Int) + 1) = (n : Int) + 1 := IntWalk.i64_in _ (by omega)
        obtain ⟨e0, e1, e2, e3, e4, e5⟩ := HR.out.1.cells
        rw [hxa] at e2
        rw [hxl] at e4
        rw [hxh] at e5
        by_cases hgo : hi = -1 ∨ (n : Int) < hi
        · have HGO := Lib.hid hgo
          by_cases hm1 : hi = -1
          · have t2 : (hi == -1) = true := beq_iff_eq.2 hm1
            clear hgo
            have HT := Lib.hid (H.out.below (by rw [HQ.out]; exact HR.out.2.2.2.2))
            go_wp2_with fail
            refine (behind_any HT.out HOK.out a HI.out.1 (q + 2) s HS.out.1.1 HR.out.2.2.1 i HI.out.2.2.2).mono ?_
            rintro e w3 ⟨p, rfl, hpo, hph, hB3⟩
            have hlt4 : q + 3 < wr.heap.size := HR.out.2.2.2.1.lt
            have hb3 : Below q W w3 := HR.out.2.2.2.2.trans (hB3.mono (by omega))
            have HPP : Hid (p.Ok ∧ ∀ j, p.has j = true ↔ Ab.St (TT tb a) (n + 1) i j) := Lib.hid ⟨hpo, fun j => by
              rw [hph j, ← Ab.step_fwd HF.out HI.out.2.2.2]
              exact ⟨fun ⟨m', h1, h2, h3, h4⟩ => ⟨m', h1, h2, (HS.out.1.2 m').1 h3, h4⟩, fun ⟨m', h1, h2, h3, h4⟩ => ⟨m', h1, h2, (HS.out.1.2 m').2 h3, h4⟩⟩⟩
            have HX : Hid (EAt ((w3.setCell ⟨q + 2, 0, none⟩ (.int .u64 p.a)).setCell ⟨q + 2, 1, none⟩ (.int .u64 p.b)) q x ∧ PAt ((w3.setCell ⟨q + 2, 0, none⟩ (.int .u64 p.a)).setCell ⟨q + 2, 1, none⟩ (.int .u64 p.b)) (q + 1) W2.zero ∧ PAt ((w3.setCell ⟨q + 2, 0, none⟩ (.int .u64 p.a)).setCell ⟨q + 2, 1, none⟩ (.int .u64 p.b)) (q + 2) p ∧ PAt ((w3.setCell ⟨q + 2, 0, none⟩ (.int .u64 p.a)).setCell ⟨q + 2, 1, none⟩ (.int .u64 p.b)) (q + 3) o ∧ Below q W ((w3.setCell ⟨q + 2, 0, none⟩ (.int .u64 p.a)).setCell ⟨q + 2, 1, none⟩ (.int .u64 p.b))) :=
              Lib.hid ⟨((HR.out.1.below hB3).set (p := ⟨q + 2, 0, none⟩) (show q ≠ q + 2 by omega) _).set (p := ⟨q + 2, 1, none⟩) (show q ≠ q + 2 by omega) _, ((HR.out.2.1.below hB3).set (p := ⟨q + 2, 0, none⟩) (show q + 1 ≠ q + 2 by omega) _).set (p := ⟨q + 2, 1, none⟩) (show q + 1 ≠ q + 2 by omega) _, (HR.out.2.2.1.below hB3).put, ((HR.out.2.2.2.1.below hB3).set (p := ⟨q + 2, 0, none⟩) (show q + 3 ≠ q + 2 by omega) _).set (p := ⟨q + 2, 1, none⟩) (show q + 3 ≠ q + 2 by omega) _, (hb3.setCell (p := ⟨q + 2, 0, none⟩) (show q ≤ q + 2 by omega) _).setCell (p := ⟨q + 2, 1, none⟩) (show q ≤ q + 2 by omega) _⟩
            have hpn := HR.out.2.2.1.below hB3
            have f0 := blk_frozen hpn 0
            have f1 := blk_frozen hpn 1
            obtain ⟨n0, n1⟩ := hpn.cells
            obtain ⟨o0, o1⟩ := (HR.out.2.2.2.1.below hB3).cells
            have hsz : q + 3 < w3.heap.size := by have := hB3.size; omega
            clear hpo hph hB3 hpn hb3 hlt4 e0 e1 e2 e3 e4 e5 HR HT
            go_wp2_with fail
            obtain ⟨nb, hnb⟩ : ∃ z, z = w3.heap.size := ⟨_, rfl⟩
            obtain ⟨Y, hY⟩ : ∃ z, z = ((w3.setCell ⟨q + 2, 0, none⟩ (.int .u64 p.a)).setCell ⟨q + 2, 1, none⟩ (.int .u64 p.b)).alloc (.cells #[.int .u64 o.a, .int .u64 o.b] 53) := ⟨_, rfl⟩
            have hbY : Below ((w3.setCell ⟨q + 2, 0, none⟩ (.int .u64 p.a)).setCell ⟨q + 2, 1, none⟩ (.int .u64 p.b)).heap.size ((w3.setCell ⟨q + 2, 0, none⟩ (.int .u64 p.a)).setCell ⟨q + 2, 1, none⟩ (.int .u64 p.b)) Y := by rw [hY]; exact (Below.refl _ _).alloc (Nat.le_refl _) _
            have HY : Hid (EAt Y q x ∧ PAt Y (q + 1) W2.zero ∧ PAt Y (q + 2) p ∧ PAt Y (q + 3) o ∧ PAt Y nb o ∧ Below q W Y) := Lib.hid ⟨HX.out.1.below hbY, HX.out.2.1.below hbY, HX.out.2.2.1.below hbY, HX.out.2.2.2.1.below hbY, by rw [hY]; exact ab_new_at _ _ _ (by rw [hnb]; simp), HX.out.2.2.2.2.trans (hbY.mono (by simp; omega))⟩
            rw [← hY, ← hnb]
            have hq3 : q + 3 < nb := by omega
            clear hY hbY HX hnb hsz f0 f1 n0 n1 o0 o1
            obtain ⟨p0, p1⟩ := HY.out.2.2.1.cells
            refine (por_any o p HS.out.2.1 HPP.out.1 (q + 3) (q + 2) 0 (by omega) Y HY.out.2.2.2.1 p0 p1).mono ?_
            rintro e w5 ⟨rfl, hP5, hG5⟩
            have HR5 : Hid (EAt w5 q x ∧ PAt w5 (q + 1) W2.zero ∧ PAt w5 (q + 2) p ∧ PAt w5 (q + 3) (o.or p) ∧ PAt w5 nb o ∧ Below q W w5) := Lib.hid ⟨HY.out.1.grown hG5 (by omega), HY.out.2.1.grown hG5 (by omega), HY.out.2.2.1.grown hG5 (by omega), hP5, HY.out.2.2.2.2.1.grown hG5 (by omega), below_grown HY.out.2.2.2.2.2 hG5 (by have := HY.out.2.2.1.lt; omega) (by omega)⟩
            clear hP5 hG5 HY p0 p1
            have hO5 : Hid ((o.or p).Ok ∧ ∀ j, (o.or p).has j = true ↔ ∃ m', m ≤ m' ∧ m' ≤ n + 1 ∧ Ab.St (TT tb a) m' i j) := by
              refine Lib.hid ⟨W2.ok_or HS.out.2.1 HPP.out.1, fun j => ?_⟩
              rw [W2.has_or, Bool.or_eq_true, HS.out.2.2 j, HPP.out.2 j]
              constructor
              · rintro (⟨m', h1, h2, h3⟩ | h)
                · exact ⟨m', h1, by omega, h3⟩
                · exact ⟨n + 1, by omega, by omega, h⟩
              · rintro ⟨m', h1, h2, h3⟩
                by_cases e : m' = n + 1
                · subst e; exact .inr h3
                · exact .inl ⟨m', h1, by omega, h3⟩
            obtain ⟨r0, r1⟩ := HR5.out.2.2.2.1.cells
            obtain ⟨s0, s1⟩ := HR5.out.2.2.2.2.1.cells
            have heq := eq_raw (o.or p) o w5
            by_cases hsame : o.or p = o
            · rw [decide_eq_true hsame] at heq
              have HSM := Lib.hid hsame
              obtain ⟨b0, b1⟩ := HR5.out.2.1.cells
              have fb0 := blk_frozen HR5.out.2.1 0
              have fb1 := blk_frozen HR5.out.2.1 1
              clear hsame
              go_wp2_with fail
              clear heq r0 r1 s0 s1 b0 b1 fb0 fb1
              have hz : PAt ((w5.setCell ⟨q + 1, 0, none⟩ (.int .u64 (o.or p).a)).setCell ⟨q + 1, 1, none⟩ (.int .u64 (o.or p).b)) (q + 1) (o.or p) := blk_put (blk_put HR5.out.2.1 0 (.int .u64 (o.or p).a) rfl) 1 (.int .u64 (o.or p).b) rfl
              have hzb := Lib.hid (((HR5.out.2.2.2.2.2 : Below q W w5).setCell (p := ⟨q + 1, 0, none⟩) (show q ≤ q + 1 by omega) (.int .u64 (o.or p).a)).setCell (p := ⟨q + 1, 1, none⟩) (show q ≤ q + 1 by omega) (.int .u64 (o.or p).b))
              generalize ((w5.setCell ⟨q + 1, 0, none⟩ (.int .u64 (o.or p).a)).setCell ⟨q + 1, 1, none⟩ (.int .u64 (o.or p).b)) = Z at hz hzb ⊢
              obtain ⟨z0, z1⟩ := hz.cells
              clear hz
              refine bodyPost_ret (v := .agg #[.int .u64 (o.or p).a, .int .u64 (o.or p).b]) (by simp [results, Tryd.results32, go_sem, z0, z1]) rfl ?_
              refine ⟨o.or p, rfl, hO5.out.1, fun j => ?_, by rw [HQ.out]; exact hzb.out⟩
              rw [HSM.out, HS.out.2.2 j]
              constructor
              · rintro ⟨m', h1, h2, h3⟩
                exact ⟨m', by omega, by rcases hnh with h | h; exact .inl h; exact .inr (by omega), h3⟩
              · rintro ⟨m', h1, h2, h3⟩
                refine Ab.St.done (fun j h => ?_) hn m' (by omega) j h3
                have := (hO5.out.2 j).2 ⟨n + 1, by omega, by omega, h⟩
                rw [HSM.out] at this
                exact (HS.out.2.2 j).1 this
            · rw [decide_eq_false hsame] at heq
              have HCN : Hid ((o.or p).cnt < o.cnt) := Lib.hid (W2.cnt_lt hO5.out.1 HS.out.2.1 (fun j h => by rw [W2.has_or, h]; rfl) hsame)
              clear hsame
              go_wp2_with fail
              go_roundw
              case rel =>
                refine ⟨n + 1, p, o.or p, by go_num, by omega, ?_, by have := HCN.out; omega, Lib.hid ⟨HPP.out, hO5.out⟩, Lib.hid ⟨HR5.out.1, HR5.out.2.1, HR5.out.2.2.1, HR5.out.2.2.2.1, HR5.out.2.2.2.2.2⟩⟩
                rcases HGO.out with h | h
                · exact .inl h
                · exact .inr (by omega)
              case measure => simp [RowKit.intOf] <;> omega
          · have t2 : (hi == -1) = false := beq_eq_false_iff_ne.2 hm1
            have t3 : decide ((n : Int) < hi) = true := decide_eq_true (by rcases hgo with h | h; exact absurd h hm1; exact h)
            clear hgo
            have HT := Lib.hid (H.out.below (by rw [HQ.out]; exact HR.out.2.2.2.2))
            go_wp2_with fail
            refine (behind_any HT.out HOK.out a HI.out.1 (q + 2) s HS.out.1.1 HR.out.2.2.1 i HI.out.2.2.2).mono ?_
            rintro e w3 ⟨p, rfl, hpo, hph, hB3⟩
            have hlt4 : q + 3 < wr.heap.size := HR.out.2.2.2.1.lt
            have hb3 : Below q W w3 := HR.out.2.2.2.2.trans (hB3.mono (by omega))
            have HPP : Hid (p.Ok ∧ ∀ j, p.has j = true ↔ Ab.St (TT tb a) (n + 1) i j) := Lib.hid ⟨hpo, fun j => by
              rw [hph j, ← Ab.step_fwd HF.out HI.out.2.2.2]
              exact ⟨fun ⟨m', h1, h2, h3, h4⟩ => ⟨m', h1, h2, (HS.out.1.2 m').1 h3, h4⟩, fun ⟨m', h1, h2, h3, h4⟩ => ⟨m', h1, h2, (HS.out.1.2 m').2 h3, h4⟩⟩⟩
            have HX : Hid (EAt ((w3.setCell ⟨q + 2, 0, none⟩ (.int .u64 p.a)).setCell ⟨q + 2, 1, none⟩ (.int .u64 p.b)) q x ∧ PAt ((w3.setCell ⟨q + 2, 0, none⟩ (.int .u64 p.a)).setCell ⟨q + 2, 1, none⟩ (.int .u64 p.b)) (q + 1) W2.zero ∧ PAt ((w3.setCell ⟨q + 2, 0, none⟩ (.int .u64 p.a)).setCell ⟨q + 2, 1, none⟩ (.int .u64 p.b)) (q + 2) p ∧ PAt ((w3.setCell ⟨q + 2, 0, none⟩ (.int .u64 p.a)).setCell ⟨q + 2, 1, none⟩ (.int .u64 p.b)) (q + 3) o ∧ Below q W ((w3.setCell ⟨q + 2, 0, none⟩ (.int .u64 p.a)).setCell ⟨q + 2, 1, none⟩ (.int .u64 p.b))) :=
              Lib.hid ⟨((HR.out.1.below hB3).set (p := ⟨q + 2, 0, none⟩) (show q ≠ q + 2 by omega) _).set (p := ⟨q + 2, 1, none⟩) (show q ≠ q + 2 by omega) _, ((HR.out.2.1.below hB3).set (p := ⟨q + 2, 0, none⟩) (show q + 1 ≠ q + 2 by omega) _).set (p := ⟨q + 2, 1, none⟩) (show q + 1 ≠ q + 2 by omega) _, (HR.out.2.2.1.below hB3).put, ((HR.out.2.2.2.1.below hB3).set (p := ⟨q + 2, 0, none⟩) (show q + 3 ≠ q + 2 by omega) _).set (p := ⟨q + 2, 1, none⟩) (show q + 3 ≠ q + 2 by omega) _, (hb3.setCell (p := ⟨q + 2, 0, none⟩) (show q ≤ q + 2 by omega) _).setCell (p := ⟨q + 2, 1, none⟩) (show q ≤ q + 2 by omega) _⟩
            have hpn := HR.out.2.2.1.below hB3
            have f0 := blk_frozen hpn 0
            have f1 := blk_frozen hpn 1
            obtain ⟨n0, n1⟩ := hpn.cells
            obtain ⟨o0, o1⟩ := (HR.out.2.2.2.1.below hB3).cells
            have hsz : q + 3 < w3.heap.size := by have := hB3.size; omega
            clear hpo hph hB3 hpn hb3 hlt4 e0 e1 e2 e3 e4 e5 HR HT
            go_wp2_with fail
            obtain ⟨nb, hnb⟩ : ∃ z, z = w3.heap.size := ⟨_, rfl⟩
            obtain ⟨Y, hY⟩ : ∃ z, z = ((w3.setCell ⟨q + 2, 0, none⟩ (.int .u64 p.a)).setCell ⟨q + 2, 1, none⟩ (.int .u64 p.b)).alloc (.cells #[.int .u64 o.a, .int .u64 o.b] 53) := ⟨_, rfl⟩
            have hbY : Below ((w3.setCell ⟨q + 2, 0, none⟩ (.int .u64 p.a)).setCell ⟨q + 2, 1, none⟩ (.int .u64 p.b)).heap.size ((w3.setCell ⟨q + 2, 0, none⟩ (.int .u64 p.a)).setCell ⟨q + 2, 1, none⟩ (.int .u64 p.b)) Y := by rw [hY]; exact (Below.refl _ _).alloc (Nat.le_refl _) _
            have HY : Hid (EAt Y q x ∧ PAt Y (q + 1) W2.zero ∧ PAt Y (q + 2) p ∧ PAt Y (q + 3) o ∧ PAt Y nb o ∧ Below q W Y) := Lib.hid ⟨HX.out.1.below hbY, HX.out.2.1.below hbY, HX.out.2.2.1.below hbY, HX.out.2.2.2.1.below hbY, by rw [hY]; exact ab_new_at _ _ _ (by rw [hnb]; simp), HX.out.2.2.2.2.trans (hbY.mono (by simp; omega))⟩
            rw [← hY, ← hnb]
            have hq3 : q + 3 < nb := by omega
            clear hY hbY HX hnb hsz f0 f1 n0 n1 o0 o1
            obtain ⟨p0, p1⟩ := HY.out.2.2.1.cells
            refine (por_any o p HS.out.2.1 HPP.out.1 (q + 3) (q + 2) 0 (by omega) Y HY.out.2.2.2.1 p0 p1).mono ?_
            rintro e w5 ⟨rfl, hP5, hG5⟩
            have HR5 : Hid (EAt w5 q x ∧ PAt w5 (q + 1) W2.zero ∧ PAt w5 (q + 2) p ∧ PAt w5 (q + 3) (o.or p) ∧ PAt w5 nb o ∧ Below q W w5) := Lib.hid ⟨HY.out.1.grown hG5 (by omega), HY.out.2.1.grown hG5 (by omega), HY.out.2.2.1.grown hG5 (by omega), hP5, HY.out.2.2.2.2.1.grown hG5 (by omega), below_grown HY.out.2.2.2.2.2 hG5 (by have := HY.out.2.2.1.lt; omega) (by omega)⟩
            clear hP5 hG5 HY p0 p1
            have hO5 : Hid ((o.or p).Ok ∧ ∀ j, (o.or p).has j = true ↔ ∃ m', m ≤ m' ∧ m' ≤ n + 1 ∧ Ab.St (TT tb a) m' i j) := by
              refine Lib.hid ⟨W2.ok_or HS.out.2.1 HPP.out.1, fun j => ?_⟩
              rw [W2.has_or, Bool.or_eq_true, HS.out.2.2 j, HPP.out.2 j]
              constructor
              · rintro (⟨m', h1, h2, h3⟩ | h)
                · exact ⟨m', h1, by omega, h3⟩
                · exact ⟨n + 1, by omega, by omega, h⟩
              · rintro ⟨m', h1, h2, h3⟩
                by_cases e : m' = n + 1
                · subst e; exact .inr h3
                · exact .inl ⟨m', h1, by omega, h3⟩
            obtain ⟨r0, r1⟩ := HR5.out.2.2.2.1.cells
            obtain ⟨s0, s1⟩ := HR5.out.2.2.2.2.1.cells
            have heq := eq_raw (o.or p) o w5
            by_cases hsame : o.or p = o
            · rw [decide_eq_true hsame] at heq
              have HSM := Lib.hid hsame
              obtain ⟨b0, b1⟩ := HR5.out.2.1.cells
              have fb0 := blk_frozen HR5.out.2.1 0
              have fb1 := blk_frozen HR5.out.2.1 1
              clear hsame
              go_wp2_with fail
              clear heq r0 r1 s0 s1 b0 b1 fb0 fb1
              have hz : PAt ((w5.setCell ⟨q + 1, 0, none⟩ (.int .u64 (o.or p).a)).setCell ⟨q + 1, 1, none⟩ (.int .u64 (o.or p).b)) (q + 1) (o.or p) := blk_put (blk_put HR5.out.2.1 0 (.int .u64 (o.or p).a) rfl) 1 (.int .u64 (o.or p).b) rfl
              have hzb := Lib.hid (((HR5.out.2.2.2.2.2 : Below q W w5).setCell (p := ⟨q + 1, 0, none⟩) (show q ≤ q + 1 by omega) (.int .u64 (o.or p).a)).setCell (p := ⟨q + 1, 1, none⟩) (show q ≤ q + 1 by omega) (.int .u64 (o.or p).b))
              generalize ((w5.setCell ⟨q + 1, 0, none⟩ (.int .u64 (o.or p).a)).setCell ⟨q + 1, 1, none⟩ (.int .u64 (o.or p).b)) = Z at hz hzb ⊢
              obtain ⟨z0, z1⟩ := hz.cells
              clear hz
              refine bodyPost_ret (v := .agg #[.int .u64 (o.or p).a, .int .u64 (o.or p).b]) (by simp [results, Tryd.results32, go_sem, z0, z1]) rfl ?_
              refine ⟨o.or p, rfl, hO5.out.1, fun j => ?_, by rw [HQ.out]; exact hzb.out⟩
              rw [HSM.out, HS.out.2.2 j]
              constructor
              · rintro ⟨m', h1, h2, h3⟩
                exact ⟨m', by omega, by rcases hnh with h | h; exact .inl h; exact .inr (by omega), h3⟩
              · rintro ⟨m', h1, h2, h3⟩
                refine Ab.St.done (fun j h => ?_) hn m' (by omega) j h3
                have := (hO5.out.2 j).2 ⟨n + 1, by omega, by omega, h⟩
                rw [HSM.out] at this
                exact (HS.out.2.2 j).1 this
            · rw [decide_eq_false hsame] at heq
              have HCN : Hid ((o.or p).cnt < o.cnt) := Lib.hid (W2.cnt_lt hO5.out.1 HS.out.2.1 (fun j h => by rw [W2.has_or, h]; rfl) hsame)
              clear hsame
              go_wp2_with fail
              go_roundw
              case rel =>
                refine ⟨n + 1, p, o.or p, by go_num, by omega, ?_, by have := HCN.out; omega, Lib.hid ⟨HPP.out, hO5.out⟩, Lib.hid ⟨HR5.out.1, HR5.out.2.1, HR5.out.2.2.1, HR5.out.2.2.2.1, HR5.out.2.2.2.2.2⟩⟩
                rcases HGO.out with h | h
                · exact .inl h
                · exact .inr (by omega)
              case measure => simp [RowKit.intOf] <;> omega
        · have t2 : (hi == -1) = false := beq_eq_false_iff_ne.2 (fun h => hgo (.inl h))
          have t3 : decide ((n : Int) < hi) = false := decide_eq_false (fun h => hgo (.inr h))
          obtain ⟨b0, b1⟩ := HR.out.2.1.cells
          have fb0 := blk_frozen HR.out.2.1 0
          have fb1 := blk_frozen HR.out.2.1 1
          obtain ⟨o0, o1⟩ := HR.out.2.2.2.1.cells
          have HGO := Lib.hid hgo
          clear hgo
          go_wp2_with fail
          clear e0 e1 e2 e3 e4 e5 b0 b1 fb0 fb1 o0 o1
          have hz : PAt ((wr.setCell ⟨q + 1, 0, none⟩ (.int .u64 o.a)).setCell ⟨q + 1, 1, none⟩ (.int .u64 o.b)) (q + 1) o := blk_put (blk_put HR.out.2.1 0 (.int .u64 o.a) rfl) 1 (.int .u64 o.b) rfl
          have hzb := Lib.hid (((HR.out.2.2.2.2 : Below q W wr).setCell (p := ⟨q + 1, 0, none⟩) (show q ≤ q + 1 by omega) (.int .u64 o.a)).setCell (p := ⟨q + 1, 1, none⟩) (show q ≤ q + 1 by omega) (.int .u64 o.b))
          generalize ((wr.setCell ⟨q + 1, 0, none⟩ (.int .u64 o.a)).setCell ⟨q + 1, 1, none⟩ (.int .u64 o.b)) = Z at hz hzb ⊢
          obtain ⟨z0, z1⟩ := hz.cells
          clear hz
          refine bodyPost_ret (v := .agg #[.int .u64 o.a, .int .u64 o.b]) (by simp [results, Tryd.results32, go_sem, z0, z1]) rfl ?_
          refine ⟨o, rfl, HS.out.2.1, fun j => ?_, by rw [HQ.out]; exact hzb.out⟩
          rw [HS.out.2.2 j]
          have hni : hi = n := by
            rcases hnh with h | h
            · exact absurd (.inl h) HGO.out
            · have h7 : ¬ ((n : Int) < hi) := fun k => HGO.out (.inr k)
              omega
          constructor
          · rintro ⟨m', h1, h2, h3⟩
            exact ⟨m', by omega, .inr (by omega), h3⟩
          · rintro ⟨m', h1, h2, h3⟩
            exact ⟨m', by omega, by rcases h2 with h2 | h2 <;> omega, h3⟩
end
end Go.Proofs.YtckcgiimeaklcaaDoor
