/-
  tree.Depth: walked.
-/
import Derived.Test.YtebkaajnnjfhjaaDoorRight
import Derived.Test.YtebkaajnnjfhjaaDoorVals
import Derived.Test.YtebkaajnnjfhjaaDoorShf
import Derived.Test.YtebkaajnnjfhjaaDoorList
namespace Go.Proofs.YtebkaajnnjfhjaaDoor
set_option linter.unusedVariables false
set_option linter.unusedSimpArgs false
open Go.RowKit Go.Proofs.YtebkaajnnjfhjaaDoorW.PrintWords
open Tr (Nd Pt vals accM)

/-- The depth of each. -/
def dF (ns : List Nd) (i : Nat) : Int := (Tr.dep (Tr.tr ns i) : Int)
theorem dF_bd {ns : List Nd} (hd : Tr.Dn ns) (i : Nat) : 0 ≤ dF ns i ∧ dF ns i ≤ i + 1 := by
  have := Tr.dep_le hd _ i (Nat.lt_succ_self _)
  unfold dF
  omega
theorem maxl_maxOf (l : List Nat) (h : 0 < l.length) : Lib.maxOf (l.map fun (n : Nat) => (n : Int)) = (Tr.maxl l : Int) := by
  have key : ∀ (l : List Nat) (a : Nat), (l.map fun (n : Nat) => (n : Int)).foldl max (a : Int) = ((max a (Tr.maxl l) : Nat) : Int) := by
    intro l
    induction l with
    | nil => intro a; show (a : Int) = ((max a 0 : Nat) : Int); omega
    | cons x l ih =>
      intro a
      rw [List.map_cons, List.foldl_cons, show max (a : Int) (x : Int) = ((max a x : Nat) : Int) by omega, ih]
      show _ = ((max a (max x (Tr.maxl l)) : Nat) : Int)
      congr 1
      omega
  rcases l with _ | ⟨x, l⟩
  · simp at h
  · unfold Lib.maxOf
    rw [List.map_cons]
    show ((x : Int) :: l.map fun (n : Nat) => (n : Int)).foldl max (x : Int) = _
    rw [List.foldl_cons, show max (x : Int) (x : Int) = (x : Int) by omega, key]
    rfl
set_option maxRecDepth 100000 in
set_option maxHeartbeats 6400000 in
theorem depth_any {w : World} {A A' : Option Addr} {ns : List Nd} {ps : List Pt} (c c' : Nat) (h : TreeAt w A A' ns ps) :
    Calls Tryd.prog 11 #[.agg #[.slice A ns.length c, .slice A' ps.length c']] w fun e w' => e = .returned (.int .i64 (Tr.depth ns ps)) ∧ Below w.heap.size w w' := by
  have hB0 : Below w.heap.size w (w.alloc (.cells #[.slice A ns.length c, .slice A' ps.length c'] 33)) := by (repeat (first | exact Below.refl _ _ | assumption | refine Below.drew ?_ | refine Below.alloc ?_ (by first | exact Nat.le_refl _ | (simp; done) | (simp; omega) | omega) _ | refine Below.setCell ?_ (by first | exact Nat.le_refl _ | (simp; done) | (simp; omega) | omega) _))
  have HR := Lib.hid (right_any c c' (h.below hB0))
  cases hr : Tr.right ns ps
  · have HP : Hid (Tr.depth ns ps = 0) := Lib.hid (by unfold Tr.depth; rw [hr]; rfl)
    rw [HP.out]
    rw [hr] at HR
    clear hr HP h
    go_enter Tryd.func11, Tryd.ntmps11
    go_wp2_with fail
    refine (HR.out).mono ?_
    rintro e w1 ⟨rfl, B1⟩
    go_wp2_with fail
    go_ret
    exact ⟨rfl, bthen hB0 B1⟩
  · have hG := (Tr.right_iff ns ps).1 hr
    have HP : Hid (Tr.depth ns ps = Tr.depAll ns) := Lib.hid (by unfold Tr.depth; rw [hr]; rfl)
    rw [HP.out]
    rw [hr] at HR
    clear hr HP
    have hd : Tr.Dn ns := hG.dn
    have HD := Lib.hid hd
    have HGD := Lib.hid hG
    have hn2 := hG.n2
    have hn1 : 0 < ns.length := by
      have h1 := hG.p1
      have h2 := hG.rt (ps[0]'(by omega)) (List.getElem_mem _)
      omega
    have HT := Lib.hid h
    have HM := print_make (P := Tryd.prog) 52 3 .i64 8 Tryd.underlying52 (by kernel_rfl) (by decide) ns.length (by omega)
    clear hG hd h
    go_enter Tryd.func11, Tryd.ntmps11
    go_wp2_with fail
    refine (HR.out).mono ?_
    rintro e w1 ⟨rfl, B1⟩
    have hTB : Hid (TB w1 w.heap.size A A' ns.length c ps.length c') := Lib.hid (blk_below (blk_new w _) B1)
    have HB1 := bthen hB0 B1
    have kb0 : w1.cell? ⟨w.heap.size, 0, none⟩ = some (.slice A ns.length c) := (blk_cell hTB.out 0).trans rfl
    have hlt1 : w.heap.size < w1.heap.size := by have := B1.size; simp at this; omega
    clear HR B1
    go_wp2_with fail
    clear HM kb0
    have hI0 : IB (w1.alloc (.cells (madeCells #[Value.int .i64 0] ns.length) 3)) w1.heap.size (vals (dF ns) 0 ns.length) := by
      rw [Tr.vals_zero]
      exact IB.made w1 ns.length
    have hB2 : Below w.heap.size w (w1.alloc (.cells (madeCells #[Value.int .i64 0] ns.length) 3)) := HB1.alloc HB1.size _
    have gs : w1.heap.size < (w1.alloc (.cells (madeCells #[Value.int .i64 0] ns.length) 3)).heap.size := by simp
    generalize hgu : w1.heap.size = gu at hI0 gs hlt1 ⊢
    generalize w1.alloc (.cells (madeCells #[Value.int .i64 0] ns.length) 3) = W0 at hI0 hB2 gs ⊢
    have HI0 := Lib.hid hI0
    clear hI0 hgu hTB HB1
    go_loopw [18] (fun i wr => ∃ k : Nat, k ≤ ns.length ∧ i = .int .i64 k ∧ Below w.heap.size w wr ∧ gu < wr.heap.size ∧ Hid (IB wr gu (vals (dF ns) k ns.length))) (fun i _ => ns.length - (RowKit.intOf i).toNat)
    case atStart => exact ⟨0, by omega, rfl, hB2, gs, HI0⟩
    case round =>
      clear hB2 gs HI0
      obtain ⟨k, hk, rfl, HB, gs, HI⟩ := hrel
      by_cases hlt : k < ns.length
      · obtain ⟨a, ha, hab, hN⟩ := HT.out.nodes k hlt
        subst ha
        obtain ⟨c0, c1, c2, c3, c4, c5, c6, c7, c8⟩ := hN.below HB (by rw [add_block]; exact hab)
        have hend := Lib.hid (Tr.accM_end HD.out HGD.out.my hlt)
        have hdn := Lib.hid (HD.out k ns[k] (List.getElem?_eq_getElem hlt))
        have hlen := Tr.below_len ns[k]
        generalize ns[k] = n at c0 c1 c2 c3 c4 c5 c6 c7 c8 hend hdn hlen hN
        clear hN hab
        have HBW := Lib.hid (below_any n)
        go_wp2_with fail
        refine (HBW.out _).mono ?_
        clear HBW c0 c1 c2 c3 c4 c5 c6 c7 c8
        rintro e w2 ⟨v, rfl, hRI, B1⟩
        have hgb : gu < (wr.alloc (.cells #[.int .u8 n.k, .int .u64 n.s.a, .int .u64 n.s.b, .int .u64 n.s.c, .int .u64 n.s.d, .int .i64 n.a, .int .i64 n.b, .int .i64 n.mn, .int .i64 n.mx] 27)).heap.size := by simp; omega
        have HI1 := Lib.hid ((HI.out.alloc (.cells #[.int .u8 n.k, .int .u64 n.s.a, .int .u64 n.s.b, .int .u64 n.s.c, .int .u64 n.s.d, .int .i64 n.a, .int .i64 n.b, .int .i64 n.mn, .int .i64 n.mx] 27)).below B1)
        have HB1 : Below w.heap.size w w2 := (HB.alloc HB.size _).trans (B1.mono (by have := HB.size; simp; omega))
        have gs1 : gu < w2.heap.size := Nat.lt_of_lt_of_le hgb B1.size
        clear HI HB B1
        generalize (wr.alloc (.cells #[.int .u8 n.k, .int .u64 n.s.a, .int .u64 n.s.b, .int .u64 n.s.c, .int .u64 n.s.d, .int .i64 n.a, .int .i64 n.b, .int .i64 n.mn, .int .i64 n.mx] 27)).heap.size = bb at hgb hRI
        generalize Tr.below n = l at hend hdn hlen hRI
        obtain ⟨AV, rfl⟩ := hRI.form
        have HRI := Lib.hid hRI
        have HGB := Lib.hid hgb
        clear hRI hgb
        go_wp2_with fail
        go_loopw [26] (fun j wi => ∃ q : Nat, q ≤ l.length ∧ j = .int .i64 q ∧ Below w.heap.size w wi ∧ gu < wi.heap.size ∧ Hid (IB wi gu ((vals (dF ns) k ns.length).set k (accM ns (l.take q)))) ∧ Hid (RI wi bb (.slice AV l.length l.length) l)) (fun j _ => l.length - (RowKit.intOf j).toNat)
        case atStart =>
          refine ⟨0, by omega, rfl, HB1, gs1, ?_, HRI⟩
          have e : (vals (dF ns) k ns.length).set k (accM ns (l.take 0)) = vals (dF ns) k ns.length := by
            rw [List.take_zero]
            exact Tr.vals_start _ _ _ hlt
          rw [e]; exact HI1
        case round =>
          clear HB1 gs1 HI1 HRI
          obtain ⟨q, hq, rfl, HB2, gs2, HI2, HR2⟩ := hrel
          by_cases hql : q < l.length
          · obtain ⟨gv, rfl, hcell⟩ := HR2.out.at_ hql
            have hmem := hdn.out l[q] (List.getElem_mem hql)
            have hts := Lib.hid (take_snoc' l q hql)
            have hbd := Tr.accM_bd HD.out (k := k) (l.take q) (fun x hx => hdn.out x (List.mem_of_mem_take hx))
            generalize l[q] = x at hcell hmem hts
            obtain ⟨hx0, hxk⟩ := hmem
            obtain ⟨m, rfl⟩ := Int.eq_ofNat_of_zero_le hx0
            have hsn := Lib.hid (Tr.accM_snoc ns (l.take q) (m : Int))
            have rl := Tr.row_len (dF ns) k ns.length (accM ns (l.take q))
            have hcm := HI2.out.cell m (by rw [rl]; omega)
            rw [Tr.row_below _ _ _ _ _ (by omega)] at hcm
            have hck := HI2.out.cell k (by rw [rl]; omega)
            rw [Tr.row_at] at hck
            have hfm := HI2.out.frozen m
            have hfk := HI2.out.frozen k
            have hbm := dF_bd HD.out m
            have hdm : Hid ((Tr.dep (Tr.tr ns ((m : Int)).toNat) : Int) = dF ns m) := Lib.hid rfl
            rw [hdm.out] at hsn
            have HI3 := HI2
            generalize accM ns (l.take q) = z at HI3 hcm hck hsn hbd
            generalize hdx : dF ns m = y at hcm hsn hbm
            clear hdx
            have e1 : (m : Int) < ns.length := by omega
            have e2 : (k : Int) < ns.length := by omega
            have e3 : (0 : Int) ≤ (k : Int) := by omega
            obtain ⟨hb1, hb2⟩ := hbd
            obtain ⟨hb3, hb4⟩ := hbm
            clear rl
            go_wp2_with fail
            go_region
            all_goals
              go_wp2_with fail
              go_roundw
              case rel =>
                refine ⟨q + 1, by omega, by go_num, by (repeat (first | exact Below.refl _ _ | assumption | refine Below.drew ?_ | refine Below.alloc ?_ (by first | exact Nat.le_refl _ | (simp; done) | (simp; omega) | omega) _ | refine Below.setCell ?_ (by first | exact Nat.le_refl _ | (simp; done) | (simp; omega) | omega) _)), by simpa [World.setCell] using gs2, ?_, ?_⟩
                · have := HI3.out.set k (max z y)
                  rw [Tr.row_set] at this
                  rw [hts.out, hsn.out]
                  exact Lib.hid this
                · exact Lib.hid (HR2.out.set (p := ⟨gu, k, none⟩) HGB.out _)
              case measure => simp [RowKit.intOf]; omega
          · have hqn : q = l.length := by omega
            subst hqn
            have rl := Tr.row_len (dF ns) k ns.length (accM ns (l.take l.length))
            have hck := HI2.out.cell k (by rw [rl]; omega)
            rw [Tr.row_at, List.take_of_length_le (Nat.le_refl _)] at hck
            have hfk := HI2.out.frozen k
            have HI3 := HI2.out
            rw [List.take_of_length_le (Nat.le_refl _)] at HI3
            have HI4 := Lib.hid HI3
            have hbd := dF_bd HD.out k
            have hdd : Hid (accM ns l + 1 = dF ns k) := Lib.hid hend.out
            have hbz : accM ns l = dF ns k - 1 := by have := hdd.out; omega
            have HBZ := Lib.hid hbz
            clear hbz HI2 HI3 rl
            generalize accM ns l = z at hck HI4 hdd HBZ
            have hz1 : 0 ≤ z := by
              have := HBZ.out
              have h1 : 1 ≤ Tr.dep (Tr.tr ns k) := by cases Tr.tr ns k <;> simp [Tr.dep]
              unfold dF at this
              omega
            have hz2 : z ≤ 600 := by have := HBZ.out; omega
            obtain ⟨hb1, hb2⟩ := hbd
            have e2 : (k : Int) < ns.length := by omega
            have e3 : (0 : Int) ≤ (k : Int) := by omega
            go_wp2_with fail
            go_roundw
            case rel =>
              refine ⟨k + 1, by omega, by go_num, by (repeat (first | exact Below.refl _ _ | assumption | refine Below.drew ?_ | refine Below.alloc ?_ (by first | exact Nat.le_refl _ | (simp; done) | (simp; omega) | omega) _ | refine Below.setCell ?_ (by first | exact Nat.le_refl _ | (simp; done) | (simp; omega) | omega) _)), by simpa [World.setCell] using gs2, ?_⟩
              have := HI4.out.set k (z + 1)
              rw [Tr.row_set] at this
              rw [← Tr.vals_succ, ← hdd.out]
              exact Lib.hid this
            case measure => simp [RowKit.intOf]; omega
      · have hkn : k = ns.length := by omega
        subst hkn
        have hI := HI.out
        rw [Tr.vals_full] at hI
        have hml : (List.range ns.length).map (dF ns) = ((List.range ns.length).map fun i => Tr.dep (Tr.tr ns i)).map fun (n : Nat) => (n : Int) := by
          rw [List.map_map]; rfl
        have hmx := Tryd.slices_Max_int gu 0 ns.length ns.length ((List.range ns.length).map (dF ns)) wr hn1 (by simp) (by omega) (fun j hj => by
          have := hI.cell j hj
          rw [Nat.zero_add, this]
          congr 2
          simp only [List.getD, List.getElem?_eq_getElem hj]; rfl)
        rw [List.take_of_length_le (by simp), hml, maxl_maxOf _ (by simpa using hn1)] at hmx
        have HMX : Hid (Calls Tryd.prog 28 #[.slice (some ⟨gu, 0, none⟩) ns.length ns.length] wr fun e w' => e = .returned (.int .i64 (Tr.depAll ns : Int)) ∧ w' = wr) := Lib.hid hmx
        clear hmx hml hI HI
        go_wp2_with fail
        refine (HMX.out).mono ?_
        rintro e w3 ⟨rfl, rfl⟩
        go_wp2_with fail
        go_ret
        exact ⟨rfl, HB⟩
end Go.Proofs.YtebkaajnnjfhjaaDoor
