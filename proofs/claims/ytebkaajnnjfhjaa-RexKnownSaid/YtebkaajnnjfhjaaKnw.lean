/-
  RexKnown: walked.
-/
import Derived.Test.YtebkaajnnjfhjaaAwk7
namespace Go.Proofs.Ytebkaajnnjfhjaa
set_option linter.unusedVariables false
set_option linter.unusedSimpArgs false
open Go.RowKit Go.Proofs.YtebkaajnnjfhjaaW.PrintWords
open Tr (Nd Pt T R sz rootI post ndsL ptsL szL)

/-- The chapter's texts that are none, and where. -/
def badL : List (List UInt8) := [[97, 42, 42], [97, 124, 42], [40, 97], [97, 41], [91, 97, 45, 93], [91, 122, 45, 97, 93], [97, 123, 50, 44, 49, 125], [97, 92, 113], [33, 97, 33, 98], [91, 97], [97, 123], [97, 123, 49], [97, 123, 49, 44], [92, 120, 52], [40, 97, 38, 98, 41], [93], [97, 123, 44, 50, 125], [91, 97, 94, 93], [92]]
def badP : List Nat := [2, 2, 2, 1, 3, 3, 4, 1, 2, 2, 2, 3, 4, 0, 2, 0, 2, 2, 0]
theorem bad_len : badL.length = 19 ∧ badP.length = 19 := ⟨rfl, rfl⟩
def isNo (r : R (List (Bool × T))) (q : Nat) (x : Int) : Bool := match r with
  | .no q' x' => decide (q' = q) && decide (x' = x)
  | .ok _ _ _ => false
theorem isNo_eq {r : R (List (Bool × T))} {q : Nat} {x : Int} (h : isNo r q x = true) : r = .no q x := by
  cases r with
  | ok a b c => cases h
  | no q' x' =>
    unfold isNo at h
    simp only [Bool.and_eq_true, decide_eq_true_eq] at h
    rw [h.1, h.2]
theorem bad_all : ((badL.zip badP).all fun x => isNo (Tr.rparse 600 x.1) x.2 8 && decide (x.1.length ≤ 300)) = true := by kernel_rfl
theorem bad_at (i : Nat) (h : i < 19) : Tr.rparse 600 (badL.getD i []) = .no (badP.getD i 0) 8 ∧ (badL.getD i []).length ≤ 300 := by
  have hz : (badL.zip badP)[i]? = some (badL.getD i [], badP.getD i 0) := by
    rw [List.getElem?_zip_eq_some]
    refine ⟨?_, ?_⟩
    · rw [List.getD_eq_getElem?_getD, List.getElem?_eq_getElem (by rw [bad_len.1]; exact h)]; rfl
    · show badP[i]? = some (badP.getD i 0)
      rw [List.getD_eq_getElem?_getD, List.getElem?_eq_getElem (by rw [bad_len.2]; exact h)]; rfl
  have := List.all_eq_true.1 bad_all _ (List.mem_of_getElem? hz)
  rw [Bool.and_eq_true, decide_eq_true_eq] at this
  exact ⟨isNo_eq this.1, this.2⟩
def aas (n : Nat) : List UInt8 := List.replicate n 97
theorem kn_long : Tr.rparse 600 (aas 201) = .no 200 3 := by kernel_rfl
def knNine : List UInt8 := [97, 123, 57, 125, 97, 123, 57, 125, 97, 123, 57, 125, 97, 123, 57, 125, 97, 123, 57, 125, 97, 123, 57, 125, 97, 123, 57, 125, 97, 123, 57, 125]
def knOpen : List UInt8 := [40, 40, 40, 40, 40, 40, 40, 40, 40, 40, 40, 40, 40, 40, 40, 40, 40, 97]
def knParts : List UInt8 := [38, 38, 38, 38, 38, 38, 38, 38, 38, 38, 38, 38, 38, 38, 38, 38, 38, 38, 38, 38]
theorem kn_nine : Tr.rparse 600 knNine = .no 32 3 := by kernel_rfl
theorem kn_open : Tr.rparse 600 knOpen = .no 16 3 := by kernel_rfl
theorem kn_parts : Tr.rparse 600 knParts = .no 19 3 := by kernel_rfl
def kn19 : List UInt8 := [38, 38, 38, 38, 38, 38, 38, 38, 38, 38, 38, 38, 38, 38, 38, 38, 38, 38, 38]
def kn19L : List (Bool × T) := List.replicate 20 (false, .emp)
theorem kn_19 : Tr.rparse 600 kn19 = .ok kn19L [] 19 := by kernel_rfl
def knCls : List UInt8 := [91, 94, 92, 120, 48, 48, 45, 92, 120, 50, 48, 93, 123, 50, 125]
def knClsS : W4 := ⟨18446744065119617024, 18446744073709551615, 18446744073709551615, 18446744073709551615⟩
theorem kn_cls : Tr.rparse 600 knCls = .ok [(false, .tms (.set knClsS) 2 2)] [] 15 := by kernel_rfl
theorem kn_none : Tr.rparse 600 [] = .ok [(false, .emp)] [] 0 := by kernel_rfl
def knDot : List UInt8 := [92, 46, 124, 46]
theorem kn_dot : Tr.rparse 600 knDot = .ok [(false, .alt (.set (W4.ofList [46])) (.set allW))] [] 4 := by kernel_rfl
theorem kn_rng : W4.range 33 255 = knClsS := by decide +kernel
/-- A tree in a box of its own. -/
def Kp (W : World) (g : Nat) (ns : List Nd) (ps : List Pt) : Prop := ∃ A A' c c', TreeAt W A A' ns ps ∧ W.heap[g]? = some (.cells #[.slice A ns.length c, .slice A' ps.length c'] 27 (0, 0))
theorem Kp.below {W W' : World} {g : Nat} {ns : List Nd} {ps : List Pt} (h : Kp W g ns ps) (hb : Below W.heap.size W W') : Kp W' g ns ps := by
  obtain ⟨A, A', c, c', hT, hg⟩ := h
  exact ⟨A, A', c, c', hT.below hb, blk_below hg hb⟩
def strs (l : List (List UInt8)) : List Value := l.map fun x => .string ⟨x.toArray⟩
theorem aas_succ (k : Nat) : aas k ++ [97] = aas (k + 1) := by unfold aas; rw [List.replicate_succ']
theorem tree_nil (w : World) : TreeAt w none none [] [] := ⟨fun i h => by simp at h, fun i h => by simp at h, fun n h => by simp at h, fun n h => by simp at h, by decide, by decide⟩
theorem parse_okn (l : List UInt8) (L : List (Bool × T)) (r : List UInt8) (p : Nat) (ns : List Nd) (ps : List Pt) (n n' : Nat) (hl : l.length ≤ 300) (h : Tr.rparse 600 l = .ok L r p) (hn : ndsL 0 L = ns) (hp : ptsL 0 L = ps) (hln : ns.length = n) (hlp : ps.length = n') (w : World) :
    Calls Try.prog 5 #[.string ⟨l.toArray⟩] w fun e w' => ∃ A A' c c', e = .returned (.tuple #[.agg #[.slice A n c, .slice A' n' c'], .int .i64 0, .int .i64 0]) ∧ TreeAt w' A A' ns ps ∧ Below w.heap.size w w' := by
  subst hln hlp
  exact parse_ok l L r p ns ps hl h hn hp w
/-- A tree and its box, of known lengths. -/
def Kpx (W : World) (g : Nat) (A A' : Option Addr) (n c n' c' : Nat) (ns : List Nd) (ps : List Pt) : Prop := TreeAt W A A' ns ps ∧ W.heap[g]? = some (.cells #[.slice A n c, .slice A' n' c'] 27 (0, 0))
theorem kpx {W W' : World} {g : Nat} {A A' : Option Addr} {n c n' c' : Nat} {ns : List Nd} {ps : List Pt} (h : Kpx W g A A' n c n' c' ns ps) (hb : Below W.heap.size W W') : Kpx W' g A A' n c n' c' ns ps := ⟨h.1.below hb, blk_below h.2 hb⟩
/-- The cells that RexKnown's last statement reads. -/
theorem kn_cells {W : World} {g6 g7 g8 c6 c7 c8 d6 d7 d8 : Nat} {A6 A7 A8 B6 B7 B8 : Option Addr} {s : W4} (h6 : Kpx W g6 A6 B6 2 c6 1 d6 [⟨2, knClsS, 0, 0, 0, 0⟩, ⟨5, W4.zero, 0, 0, 2, 2⟩] [⟨1, false⟩]) (h7 : Kpx W g7 A7 B7 1 c7 1 d7 [⟨1, W4.zero, 0, 0, 0, 0⟩] [⟨0, false⟩])
    (h8 : Kpx W g8 A8 B8 3 c8 1 d8 [⟨2, s, 0, 0, 0, 0⟩, ⟨2, allW, 0, 0, 0, 0⟩, ⟨4, W4.zero, 0, 1, 0, 0⟩] [⟨2, false⟩]) :
    ∃ a6 a7 a8, A6 = some a6 ∧ A7 = some a7 ∧ A8 = some a8 ∧ NdAt W (a6.add 0) ⟨2, knClsS, 0, 0, 0, 0⟩ ∧ NdAt W (a6.add 9) ⟨5, W4.zero, 0, 0, 2, 2⟩ ∧ NdAt W (a7.add 0) ⟨1, W4.zero, 0, 0, 0, 0⟩ ∧ NdAt W (a8.add 0) ⟨2, s, 0, 0, 0, 0⟩ ∧ NdAt W (a8.add 9) ⟨2, allW, 0, 0, 0, 0⟩ ∧
      W.cell? ⟨g6, 0, none⟩ = some (.slice A6 2 c6) ∧ W.cell? ⟨g7, 0, none⟩ = some (.slice A7 1 c7) ∧ W.cell? ⟨g8, 0, none⟩ = some (.slice A8 3 c8) := by
  obtain ⟨a6, e6, _, n6⟩ := h6.1.nodes 0 (by decide)
  obtain ⟨a6', e6', _, n6'⟩ := h6.1.nodes 1 (by decide)
  obtain ⟨a7, e7, _, n7⟩ := h7.1.nodes 0 (by decide)
  obtain ⟨a8, e8, _, n8⟩ := h8.1.nodes 0 (by simp)
  obtain ⟨a8', e8', _, n8'⟩ := h8.1.nodes 1 (by simp)
  obtain rfl : a6 = a6' := by rw [e6] at e6'; injection e6'
  obtain rfl : a8 = a8' := by rw [e8] at e8'; injection e8'
  exact ⟨a6, a7, a8, e6, e7, e8, n6, n6', n7, n8, n8', (blk_cell h6.2 0).trans rfl, (blk_cell h7.2 0).trans rfl, (blk_cell h8.2 0).trans rfl⟩
def KnC (W : World) (g6 g7 g8 c6 c7 c8 : Nat) (a6 a7 a8 : Addr) (s : W4) : Prop :=
  W.cell? a6 = some (.int .u8 2) ∧ W.cell? ⟨a6.block, a6.off + 1, none⟩ = some (.int .u64 knClsS.a) ∧ W.cell? ⟨a6.block, a6.off + 1 + 1, none⟩ = some (.int .u64 knClsS.b) ∧ W.cell? ⟨a6.block, a6.off + 1 + 2, none⟩ = some (.int .u64 knClsS.c) ∧ W.cell? ⟨a6.block, a6.off + 1 + 3, none⟩ = some (.int .u64 knClsS.d) ∧ W.cell? ⟨a6.block, a6.off + 5, none⟩ = some (.int .i64 0) ∧ W.cell? ⟨a6.block, a6.off + 6, none⟩ = some (.int .i64 0) ∧ W.cell? ⟨a6.block, a6.off + 7, none⟩ = some (.int .i64 0) ∧ W.cell? ⟨a6.block, a6.off + 8, none⟩ = some (.int .i64 0) ∧
  W.cell? ⟨a6.block, a6.off + 9, none⟩ = some (.int .u8 5) ∧ W.cell? ⟨a6.block, a6.off + 9 + 1, none⟩ = some (.int .u64 0) ∧ W.cell? ⟨a6.block, a6.off + 9 + 2, none⟩ = some (.int .u64 0) ∧ W.cell? ⟨a6.block, a6.off + 9 + 3, none⟩ = some (.int .u64 0) ∧ W.cell? ⟨a6.block, a6.off + 9 + 4, none⟩ = some (.int .u64 0) ∧ W.cell? ⟨a6.block, a6.off + 9 + 5, none⟩ = some (.int .i64 0) ∧ W.cell? ⟨a6.block, a6.off + 9 + 6, none⟩ = some (.int .i64 0) ∧ W.cell? ⟨a6.block, a6.off + 9 + 7, none⟩ = some (.int .i64 2) ∧ W.cell? ⟨a6.block, a6.off + 9 + 8, none⟩ = some (.int .i64 2) ∧
  W.cell? a7 = some (.int .u8 1) ∧
  W.cell? ⟨a8.block, a8.off + 1, none⟩ = some (.int .u64 s.a) ∧ W.cell? ⟨a8.block, a8.off + 1 + 1, none⟩ = some (.int .u64 s.b) ∧ W.cell? ⟨a8.block, a8.off + 1 + 2, none⟩ = some (.int .u64 s.c) ∧ W.cell? ⟨a8.block, a8.off + 1 + 3, none⟩ = some (.int .u64 s.d) ∧
  W.cell? ⟨a8.block, a8.off + 9 + 1, none⟩ = some (.int .u64 allW.a) ∧ W.cell? ⟨a8.block, a8.off + 9 + 1 + 1, none⟩ = some (.int .u64 allW.b) ∧ W.cell? ⟨a8.block, a8.off + 9 + 1 + 2, none⟩ = some (.int .u64 allW.c) ∧ W.cell? ⟨a8.block, a8.off + 9 + 1 + 3, none⟩ = some (.int .u64 allW.d) ∧
  W.cell? ⟨g6, 0, none⟩ = some (.slice (some a6) 2 c6) ∧ W.cell? ⟨g7, 0, none⟩ = some (.slice (some a7) 1 c7) ∧ W.cell? ⟨g8, 0, none⟩ = some (.slice (some a8) 3 c8)
theorem kn_all {W : World} {g6 g7 g8 c6 c7 c8 d6 d7 d8 : Nat} {a6 a7 a8 : Addr} {B6 B7 B8 : Option Addr} {s : W4} (h6 : Kpx W g6 (some a6) B6 2 c6 1 d6 [⟨2, knClsS, 0, 0, 0, 0⟩, ⟨5, W4.zero, 0, 0, 2, 2⟩] [⟨1, false⟩]) (h7 : Kpx W g7 (some a7) B7 1 c7 1 d7 [⟨1, W4.zero, 0, 0, 0, 0⟩] [⟨0, false⟩])
    (h8 : Kpx W g8 (some a8) B8 3 c8 1 d8 [⟨2, s, 0, 0, 0, 0⟩, ⟨2, allW, 0, 0, 0, 0⟩, ⟨4, W4.zero, 0, 1, 0, 0⟩] [⟨2, false⟩]) : KnC W g6 g7 g8 c6 c7 c8 a6 a7 a8 s := by
  obtain ⟨a, b, c, e6, e7, e8, n6, n6', n7, n8, n8', b6, b7, b8⟩ := kn_cells h6 h7 h8
  obtain rfl : a6 = a := by injection e6
  obtain rfl : a7 = b := by injection e7
  obtain rfl : a8 = c := by injection e8
  have z0 : ∀ a : Addr, a.add 0 = a := fun a => by unfold Addr.add; simp
  have z9 : ∀ a : Addr, a.add 9 = ⟨a.block, a.off + 9, none⟩ := fun a => by unfold Addr.add; simp
  rw [z0] at n6 n7 n8
  rw [z9] at n6' n8'
  exact ⟨n6.c0, n6.c1, n6.c2, n6.c3, n6.c4, n6.c5, n6.c6, n6.c7, n6.c8, n6'.c0, n6'.c1, n6'.c2, n6'.c3, n6'.c4, n6'.c5, n6'.c6, n6'.c7, n6'.c8, n7.c0, n8.c1, n8.c2, n8.c3, n8.c4, n8'.c1, n8'.c2, n8'.c3, n8'.c4, b6, b7, b8⟩
theorem kn_range (z : World) : Calls Try.prog 7 #[.int .u8 33, .int .u8 255] z fun e w' => e = .returned (.agg #[.int .u64 knClsS.a, .int .u64 knClsS.b, .int .u64 knClsS.c, .int .u64 knClsS.d]) ∧ Below z.heap.size z w' := by
  have := range_any 33 255 (by decide) (by decide) z
  rw [kn_rng] at this
  exact this
theorem kn_of46 {s : W4} (hs : s = W4.ofList [46]) (z : World) (g : Nat) (h : z.heap[g]? = some (.cells #[.int .u8 46] 5 (0, 0))) : Calls Try.prog 8 #[.slice (some ⟨g, 0, none⟩) 1 1] z fun e w' => e = .returned (.agg #[.int .u64 s.a, .int .u64 s.b, .int .u64 s.c, .int .u64 s.d]) ∧ Below z.heap.size z w' := by
  subst hs
  exact of_any g 1 [46] (by simp) z (blk_lt h) (fun j hj => by
    have h6 : j < 1 := hj
    obtain rfl : j = 0 := by omega
    exact (blk_cell h 0).trans rfl)
def V27 (g6 g7 g8 c6 c7 c8 : Nat) (a6 a7 a8 : Addr) (s46 : W4) : List Value := [.int .i64 0, .bool true, .bool true, .pointer (some ⟨g6, 0, none⟩), .slice (some a6) 2 c6, .int .i64 2, .bool true, .bool true, .bool true, .pointer (some ⟨g6, 0, none⟩), .slice (some a6) 2 c6, .pointer (some (a6.add 0)), .pointer (some ⟨(a6.add 0).block, (a6.add 0).off + 1, none⟩), .agg #[.int .u64 knClsS.a, .int .u64 knClsS.b, .int .u64 knClsS.c, .int .u64 knClsS.d], .agg #[.int .u64 knClsS.a, .int .u64 knClsS.b, .int .u64 knClsS.c, .int .u64 knClsS.d], .bool true, .bool true, .bool true, .pointer (some ⟨g6, 0, none⟩), .slice (some a6) 2 c6, .pointer (some (a6.add 9)), .agg #[.int .u8 5, .int .u64 0, .int .u64 0, .int .u64 0, .int .u64 0, .int .i64 0, .int .i64 0, .int .i64 2, .int .i64 2], .agg #[.int .u8 5, .int .u64 0, .int .u64 0, .int .u64 0, .int .u64 0, .int .i64 0, .int .i64 0, .int .i64 2, .int .i64 2], .bool true, .bool true, .bool true, .int .i64 0, .bool true, .bool true, .bool true, .pointer (some ⟨g7, 0, none⟩), .slice (some a7) 1 c7, .int .i64 1, .bool true, .bool true, .bool true, .pointer (some ⟨g7, 0, none⟩), .slice (some a7) 1 c7, .pointer (some (a7.add 0)), .pointer (some (a7.add 0)), .int .u8 1, .bool true, .bool true, .bool true, .int .i64 0, .bool true, .bool true, .bool true, .pointer (some ⟨g8, 0, none⟩), .slice (some a8) 3 c8, .pointer (some (a8.add 0)), .pointer (some ⟨(a8.add 0).block, (a8.add 0).off + 1, none⟩), .agg #[.int .u64 s46.a, .int .u64 s46.b, .int .u64 s46.c, .int .u64 s46.d], undef, .agg #[.int .u64 s46.a, .int .u64 s46.b, .int .u64 s46.c, .int .u64 s46.d], .bool true, .bool true, .bool true, .pointer (some ⟨g8, 0, none⟩), .slice (some a8) 3 c8, .pointer (some (a8.add 9)), .pointer (some ⟨(a8.add 9).block, (a8.add 9).off + 1, none⟩), .agg #[.int .u64 allW.a, .int .u64 allW.b, .int .u64 allW.c, .int .u64 allW.d], .agg #[.int .u64 allW.a, .int .u64 allW.b, .int .u64 allW.c, .int .u64 allW.d], .bool true, .bool true, .bool true, .bool true, .bool true]
def F27 (g6 g7 g8 c6 c7 c8 : Nat) (a6 a7 a8 : Addr) (s46 : W4) (k : Nat) (v : Value) (z : World) : Prop := if k = 53 then (∃ g, v = .slice (some ⟨g, 0, none⟩) 1 1 ∧ z.heap[g]? = some (.cells #[.int .u8 46] 5 (0, 0))) else v = (V27 g6 g7 g8 c6 c7 c8 a6 a7 a8 s46).getD k undef
theorem F27.mk {g6 g7 g8 c6 c7 c8 : Nat} {a6 a7 a8 : Addr} {s46 : W4} {k : Nat} {v : Value} {z : World} (hk : k ≠ 53) (h : v = (V27 g6 g7 g8 c6 c7 c8 a6 a7 a8 s46).getD k undef) : F27 g6 g7 g8 c6 c7 c8 a6 a7 a8 s46 k v z := by unfold F27; rw [if_neg hk]; exact h
theorem F27.get {g6 g7 g8 c6 c7 c8 : Nat} {a6 a7 a8 : Addr} {s46 : W4} {k : Nat} {v : Value} {z : World} (hk : k ≠ 53) (h : F27 g6 g7 g8 c6 c7 c8 a6 a7 a8 s46 k v z) : v = (V27 g6 g7 g8 c6 c7 c8 a6 a7 a8 s46).getD k undef := by unfold F27 at h; rw [if_neg hk] at h; exact h
theorem F27.below {g6 g7 g8 c6 c7 c8 : Nat} {a6 a7 a8 : Addr} {s46 : W4} (k : Nat) (v : Value) (z z' : World) (h : F27 g6 g7 g8 c6 c7 c8 a6 a7 a8 s46 k v z) (hb : Below z.heap.size z z') : F27 g6 g7 g8 c6 c7 c8 a6 a7 a8 s46 k v z' := by
  by_cases hk : k = 53
  · unfold F27 at *
    rw [if_pos hk] at h ⊢
    obtain ⟨g, e, hg⟩ := h
    exact ⟨g, e, blk_below hg hb⟩
  · exact F27.mk hk (F27.get hk h)
set_option maxRecDepth 100000 in
set_option maxHeartbeats 25600000 in
theorem known_any (w : World) : Calls Try.prog 3 #[] w fun e w' => e = .returned (.bool true) ∧ Below w.heap.size w w' := by
  go_enter Try.func3, Try.ntmps3
  go_wp2_with fail
  obtain ⟨W0, hW0⟩ : ∃ W0, W0 = (w.alloc (.cells (strs badL).toArray 9)).alloc (.cells (badP.map fun (n : Nat) => .int .i64 (n : Int)).toArray 3) := ⟨_, rfl⟩
  change Code.wp _ _ _ _ ((w.alloc (.cells (strs badL).toArray 9)).alloc (.cells (badP.map fun (n : Nat) => .int .i64 (n : Int)).toArray 3))
  rw [← hW0]
  have hB0 : Below w.heap.size w W0 := by rw [hW0]; (repeat (first | exact Below.refl _ _ | assumption | refine Below.drew ?_ | refine Below.alloc ?_ (by first | exact Nat.le_refl _ | (simp; done) | (simp; omega) | omega) _ | refine Below.setCell ?_ (by first | exact Nat.le_refl _ | (simp; done) | (simp; omega) | omega) _))
  have hs : W0.heap[w.heap.size]? = some (.cells (strs badL).toArray 9 (0, 0)) := by rw [hW0]; exact blk_alloc (blk_new w _) _
  have hp : W0.heap[w.heap.size + 1]? = some (.cells (badP.map fun (n : Nat) => .int .i64 (n : Int)).toArray 3 (0, 0)) := by rw [hW0]; exact rblk_new_at _ _ _ (by simp)
  have HS := Lib.hid hs
  have HP := Lib.hid hp
  have HB0 := Lib.hid hB0
  clear hs hp hB0 hW0
  obtain ⟨a, hwa⟩ : ∃ a, w.heap.size = a := ⟨_, rfl⟩
  have HWA := Lib.hid hwa
  rw [hwa] at HS HP ⊢
  clear hwa
  go_loopw [3] (fun i wr => ∃ k : Nat, k ≤ 19 ∧ i = .int .i64 k ∧ Hid (Below W0.heap.size W0 wr)) (fun i _ => 19 - (RowKit.intOf i).toNat)
  case atStart => exact ⟨0, by omega, rfl, Lib.hid (Below.refl _ _)⟩
  case round =>
    obtain ⟨k, hk, rfl, HB⟩ := hrel
    by_cases hlt : k < 19
    · obtain ⟨hbad, hlen⟩ := bad_at k hlt
      have hsc : wr.cell? ⟨a, k, none⟩ = some (.string ⟨(badL.getD k []).toArray⟩) := by
        rw [blk_cell (blk_below HS.out HB.out) k, List.getElem?_toArray]
        unfold strs
        rw [List.getElem?_map, List.getD_eq_getElem?_getD, List.getElem?_eq_getElem (by rw [bad_len.1]; exact hlt)]
        rfl
      have hpc : ∀ z, Below wr.heap.size wr z → z.cell? ⟨a + 1, k, none⟩ = some (.int .i64 ((badP.getD k 0 : Nat) : Int)) := fun z hz => by
        rw [blk_cell (blk_below (blk_below HP.out HB.out) hz) k, List.getElem?_toArray, List.getElem?_map, List.getD_eq_getElem?_getD, List.getElem?_eq_getElem (by rw [bad_len.2]; exact hlt)]
        rfl
      have HPC := Lib.hid hpc
      have HBD := Lib.hid hbad
      have HLN := Lib.hid hlen
      clear hpc hbad hlen
      generalize badL.getD k [] = l at *
      generalize badP.getD k 0 = q at *
      have e2 : (k : Int) < 19 := by omega
      have e3 : (0 : Int) ≤ (k : Int) := by omega
      go_wp2_with fail
      refine (parse_no l q 8 HLN.out HBD.out _).mono ?_
      rintro e w1 ⟨rfl, B1⟩
      have h1 : Below wr.heap.size wr (w1.alloc (.cells #[.slice none 0 0, .slice none 0 0] 27)) := bthen B1 (by (repeat (first | exact Below.refl _ _ | assumption | refine Below.drew ?_ | refine Below.alloc ?_ (by first | exact Nat.le_refl _ | (simp; done) | (simp; omega) | omega) _ | refine Below.setCell ?_ (by first | exact Nat.le_refl _ | (simp; done) | (simp; omega) | omega) _)))
      have k1 := HPC.out _ h1
      have H1 := Lib.hid h1
      clear h1 B1
      go_wp2_with fail
      refine (same_any (ns := []) (ps := []) 0 0 0 0 (tree_nil _) (tree_nil _)).mono ?_
      rintro e w2 ⟨rfl, B2⟩
      have HB2 := Lib.hid (HB.out.trans ((bthen H1.out B2).mono HB.out.size))
      clear B2 k1
      go_wp2_with fail
      go_roundw
      case rel => exact ⟨k + 1, by omega, by go_num, HB2⟩
      case measure => simp [RowKit.intOf]; omega
    · have hke : k = 19 := by omega
      subst hke
      clear hk hlt
      go_wp2_with fail
      go_loopw [7, 8] (fun s i wz => ∃ k : Nat, k ≤ 201 ∧ s = .string ⟨(aas k).toArray⟩ ∧ i = .int .i64 k ∧ Hid (Below W0.heap.size W0 wz)) (fun s i _ => 201 - (RowKit.intOf i).toNat)
      case atStart => exact ⟨0, by omega, rfl, rfl, HB⟩
      case round =>
        clear HB
        obtain ⟨k, hk, rfl, rfl, HB⟩ := hrel
        by_cases hlt : k < 201
        · have e2 : (k : Int) < 201 := by omega
          have e5 : (aas k).length = k := List.length_replicate
          have e4 : ¬ (9223372036854775807 < (aas k).length + 1) := by omega
          have HAS := Lib.hid (aas_succ k)
          generalize aas k = l at *
          go_wp2_with fail
          go_roundw
          case rel => exact ⟨k + 1, by omega, by rw [← HAS.out], by go_num, HB⟩
          case measure => simp [RowKit.intOf]; omega
        · have hke : k = 201 := by omega
          subst hke
          clear hk hlt
          go_wp2_with fail
          clear HS HP
          obtain ⟨X0, hX0⟩ : ∃ X0 : World, X0 = wr := ⟨_, rfl⟩
          rw [← hX0] at HB ⊢
          clear hX0
          refine (parse_no (aas 201) 200 3 (by decide) kn_long X0).mono ?_
          rintro e y ⟨rfl, B⟩
          go_wp2_with fail
          have HB1 : Hid (Below W0.heap.size W0 (y.alloc (.cells #[.slice none 0 0, .slice none 0 0] 27))) := Lib.hid (HB.out.trans ((bthen B (by (repeat (first | exact Below.refl _ _ | assumption | refine Below.drew ?_ | refine Below.alloc ?_ (by first | exact Nat.le_refl _ | (simp; done) | (simp; omega) | omega) _ | refine Below.setCell ?_ (by first | exact Nat.le_refl _ | (simp; done) | (simp; omega) | omega) _)))).mono HB.out.size))
          clear B HB
          generalize y.alloc (.cells #[.slice none 0 0, .slice none 0 0] 27) = X1 at *
          have HB := HB1
          clear HB1
          generalize y.heap.size = g1 at *
          clear y
          refine (parse_no knNine 32 3 (by decide) kn_nine X1).mono ?_
          rintro e y ⟨rfl, B⟩
          go_wp2_with fail
          have HB2 : Hid (Below W0.heap.size W0 (y.alloc (.cells #[.slice none 0 0, .slice none 0 0] 27))) := Lib.hid (HB.out.trans ((bthen B (by (repeat (first | exact Below.refl _ _ | assumption | refine Below.drew ?_ | refine Below.alloc ?_ (by first | exact Nat.le_refl _ | (simp; done) | (simp; omega) | omega) _ | refine Below.setCell ?_ (by first | exact Nat.le_refl _ | (simp; done) | (simp; omega) | omega) _)))).mono HB.out.size))
          clear B HB
          generalize y.alloc (.cells #[.slice none 0 0, .slice none 0 0] 27) = X2 at *
          have HB := HB2
          clear HB2
          generalize y.heap.size = g2 at *
          clear y
          refine (parse_no knOpen 16 3 (by decide) kn_open X2).mono ?_
          rintro e y ⟨rfl, B⟩
          go_wp2_with fail
          have HB3 : Hid (Below W0.heap.size W0 (y.alloc (.cells #[.slice none 0 0, .slice none 0 0] 27))) := Lib.hid (HB.out.trans ((bthen B (by (repeat (first | exact Below.refl _ _ | assumption | refine Below.drew ?_ | refine Below.alloc ?_ (by first | exact Nat.le_refl _ | (simp; done) | (simp; omega) | omega) _ | refine Below.setCell ?_ (by first | exact Nat.le_refl _ | (simp; done) | (simp; omega) | omega) _)))).mono HB.out.size))
          clear B HB
          generalize y.alloc (.cells #[.slice none 0 0, .slice none 0 0] 27) = X3 at *
          have HB := HB3
          clear HB3
          generalize y.heap.size = g3 at *
          clear y
          refine (parse_no knParts 19 3 (by decide) kn_parts X3).mono ?_
          rintro e y ⟨rfl, B⟩
          go_wp2_with fail
          have HB4 : Hid (Below W0.heap.size W0 (y.alloc (.cells #[.slice none 0 0, .slice none 0 0] 27))) := Lib.hid (HB.out.trans ((bthen B (by (repeat (first | exact Below.refl _ _ | assumption | refine Below.drew ?_ | refine Below.alloc ?_ (by first | exact Nat.le_refl _ | (simp; done) | (simp; omega) | omega) _ | refine Below.setCell ?_ (by first | exact Nat.le_refl _ | (simp; done) | (simp; omega) | omega) _)))).mono HB.out.size))
          clear B HB
          generalize y.alloc (.cells #[.slice none 0 0, .slice none 0 0] 27) = X4 at *
          have HB := HB4
          clear HB4
          generalize y.heap.size = g4 at *
          clear y
          refine (parse_okn kn19 kn19L [] 19 (ndsL 0 kn19L) (ptsL 0 kn19L) 20 20 (by decide) kn_19 rfl rfl rfl rfl X4).mono ?_
          rintro e y ⟨A5, B5, c5, d5, rfl, hT, B⟩
          go_wp2_with fail
          have HB5 : Hid (Below W0.heap.size W0 (y.alloc (.cells #[.slice A5 20 c5, .slice B5 20 d5] 27)) ∧ Below X4.heap.size X4 (y.alloc (.cells #[.slice A5 20 c5, .slice B5 20 d5] 27))) := Lib.hid ⟨HB.out.trans ((bthen B (by (repeat (first | exact Below.refl _ _ | assumption | refine Below.drew ?_ | refine Below.alloc ?_ (by first | exact Nat.le_refl _ | (simp; done) | (simp; omega) | omega) _ | refine Below.setCell ?_ (by first | exact Nat.le_refl _ | (simp; done) | (simp; omega) | omega) _)))).mono HB.out.size), bthen B (by (repeat (first | exact Below.refl _ _ | assumption | refine Below.drew ?_ | refine Below.alloc ?_ (by first | exact Nat.le_refl _ | (simp; done) | (simp; omega) | omega) _ | refine Below.setCell ?_ (by first | exact Nat.le_refl _ | (simp; done) | (simp; omega) | omega) _)))⟩
          have H5 : Hid (Kpx (y.alloc (.cells #[.slice A5 20 c5, .slice B5 20 d5] 27)) y.heap.size A5 B5 20 c5 20 d5 (ndsL 0 kn19L) (ptsL 0 kn19L)) := Lib.hid ⟨hT.below (by (repeat (first | exact Below.refl _ _ | assumption | refine Below.drew ?_ | refine Below.alloc ?_ (by first | exact Nat.le_refl _ | (simp; done) | (simp; omega) | omega) _ | refine Below.setCell ?_ (by first | exact Nat.le_refl _ | (simp; done) | (simp; omega) | omega) _))), blk_new y _⟩
          clear B HB hT
          generalize y.alloc (.cells #[.slice A5 20 c5, .slice B5 20 d5] 27) = X5 at *
          have HB : Hid (Below W0.heap.size W0 X5) := Lib.hid HB5.out.1
          generalize y.heap.size = g5 at *
          clear y
          go_wp2_with fail
          refine (parse_okn knCls [(false, .tms (.set knClsS) 2 2)] [] 15 [⟨2, knClsS, 0, 0, 0, 0⟩, ⟨5, W4.zero, 0, 0, 2, 2⟩] [⟨1, false⟩] 2 1 (by decide) kn_cls rfl rfl rfl rfl X5).mono ?_
          rintro e y ⟨A6, B6, c6, d6, rfl, hT, B⟩
          go_wp2_with fail
          have HB6 : Hid (Below W0.heap.size W0 (y.alloc (.cells #[.slice A6 2 c6, .slice B6 1 d6] 27)) ∧ Below X5.heap.size X5 (y.alloc (.cells #[.slice A6 2 c6, .slice B6 1 d6] 27))) := Lib.hid ⟨HB.out.trans ((bthen B (by (repeat (first | exact Below.refl _ _ | assumption | refine Below.drew ?_ | refine Below.alloc ?_ (by first | exact Nat.le_refl _ | (simp; done) | (simp; omega) | omega) _ | refine Below.setCell ?_ (by first | exact Nat.le_refl _ | (simp; done) | (simp; omega) | omega) _)))).mono HB.out.size), bthen B (by (repeat (first | exact Below.refl _ _ | assumption | refine Below.drew ?_ | refine Below.alloc ?_ (by first | exact Nat.le_refl _ | (simp; done) | (simp; omega) | omega) _ | refine Below.setCell ?_ (by first | exact Nat.le_refl _ | (simp; done) | (simp; omega) | omega) _)))⟩
          have H6 : Hid (Kpx (y.alloc (.cells #[.slice A6 2 c6, .slice B6 1 d6] 27)) y.heap.size A6 B6 2 c6 1 d6 [⟨2, knClsS, 0, 0, 0, 0⟩, ⟨5, W4.zero, 0, 0, 2, 2⟩] [⟨1, false⟩]) := Lib.hid ⟨hT.below (by (repeat (first | exact Below.refl _ _ | assumption | refine Below.drew ?_ | refine Below.alloc ?_ (by first | exact Nat.le_refl _ | (simp; done) | (simp; omega) | omega) _ | refine Below.setCell ?_ (by first | exact Nat.le_refl _ | (simp; done) | (simp; omega) | omega) _))), blk_new y _⟩
          clear B HB hT
          generalize y.alloc (.cells #[.slice A6 2 c6, .slice B6 1 d6] 27) = X6 at *
          have HB : Hid (Below W0.heap.size W0 X6) := Lib.hid HB6.out.1
          generalize y.heap.size = g6 at *
          clear y
          replace H5 := Lib.hid (kpx H5.out HB6.out.2)
          refine (parse_okn [] [(false, .emp)] [] 0 [⟨1, W4.zero, 0, 0, 0, 0⟩] [⟨0, false⟩] 1 1 (by decide) kn_none rfl rfl rfl rfl X6).mono ?_
          rintro e y ⟨A7, B7, c7, d7, rfl, hT, B⟩
          go_wp2_with fail
          have HB7 : Hid (Below W0.heap.size W0 (y.alloc (.cells #[.slice A7 1 c7, .slice B7 1 d7] 27)) ∧ Below X6.heap.size X6 (y.alloc (.cells #[.slice A7 1 c7, .slice B7 1 d7] 27))) := Lib.hid ⟨HB.out.trans ((bthen B (by (repeat (first | exact Below.refl _ _ | assumption | refine Below.drew ?_ | refine Below.alloc ?_ (by first | exact Nat.le_refl _ | (simp; done) | (simp; omega) | omega) _ | refine Below.setCell ?_ (by first | exact Nat.le_refl _ | (simp; done) | (simp; omega) | omega) _)))).mono HB.out.size), bthen B (by (repeat (first | exact Below.refl _ _ | assumption | refine Below.drew ?_ | refine Below.alloc ?_ (by first | exact Nat.le_refl _ | (simp; done) | (simp; omega) | omega) _ | refine Below.setCell ?_ (by first | exact Nat.le_refl _ | (simp; done) | (simp; omega) | omega) _)))⟩
          have H7 : Hid (Kpx (y.alloc (.cells #[.slice A7 1 c7, .slice B7 1 d7] 27)) y.heap.size A7 B7 1 c7 1 d7 [⟨1, W4.zero, 0, 0, 0, 0⟩] [⟨0, false⟩]) := Lib.hid ⟨hT.below (by (repeat (first | exact Below.refl _ _ | assumption | refine Below.drew ?_ | refine Below.alloc ?_ (by first | exact Nat.le_refl _ | (simp; done) | (simp; omega) | omega) _ | refine Below.setCell ?_ (by first | exact Nat.le_refl _ | (simp; done) | (simp; omega) | omega) _))), blk_new y _⟩
          clear B HB hT
          generalize y.alloc (.cells #[.slice A7 1 c7, .slice B7 1 d7] 27) = X7 at *
          have HB : Hid (Below W0.heap.size W0 X7) := Lib.hid HB7.out.1
          generalize y.heap.size = g7 at *
          clear y
          replace H5 := Lib.hid (kpx H5.out HB7.out.2)
          replace H6 := Lib.hid (kpx H6.out HB7.out.2)
          clear HB6 HB5
          obtain ⟨s46, hs46⟩ : ∃ s, s = W4.ofList [46] := ⟨_, rfl⟩
          have HS46 := Lib.hid hs46
          have kn_dot' := kn_dot
          rw [← hs46] at kn_dot'
          clear hs46
          refine (parse_okn knDot [(false, .alt (.set s46) (.set allW))] [] 4 [⟨2, s46, 0, 0, 0, 0⟩, ⟨2, allW, 0, 0, 0, 0⟩, ⟨4, W4.zero, 0, 1, 0, 0⟩] [⟨2, false⟩] 3 1 (by decide) kn_dot' rfl rfl rfl rfl X7).mono ?_
          rintro e y ⟨A8, B8, c8, d8, rfl, hT, B⟩
          go_upto_region 25 with (fail)
          have HB8 : Hid (Below W0.heap.size W0 (y.alloc (.cells #[.slice A8 3 c8, .slice B8 1 d8] 27)) ∧ Below X7.heap.size X7 (y.alloc (.cells #[.slice A8 3 c8, .slice B8 1 d8] 27))) := Lib.hid ⟨HB.out.trans ((bthen B (by (repeat (first | exact Below.refl _ _ | assumption | refine Below.drew ?_ | refine Below.alloc ?_ (by first | exact Nat.le_refl _ | (simp; done) | (simp; omega) | omega) _ | refine Below.setCell ?_ (by first | exact Nat.le_refl _ | (simp; done) | (simp; omega) | omega) _)))).mono HB.out.size), bthen B (by (repeat (first | exact Below.refl _ _ | assumption | refine Below.drew ?_ | refine Below.alloc ?_ (by first | exact Nat.le_refl _ | (simp; done) | (simp; omega) | omega) _ | refine Below.setCell ?_ (by first | exact Nat.le_refl _ | (simp; done) | (simp; omega) | omega) _)))⟩
          have H8 : Hid (Kpx (y.alloc (.cells #[.slice A8 3 c8, .slice B8 1 d8] 27)) y.heap.size A8 B8 3 c8 1 d8 [⟨2, s46, 0, 0, 0, 0⟩, ⟨2, allW, 0, 0, 0, 0⟩, ⟨4, W4.zero, 0, 1, 0, 0⟩] [⟨2, false⟩]) := Lib.hid ⟨hT.below (by (repeat (first | exact Below.refl _ _ | assumption | refine Below.drew ?_ | refine Below.alloc ?_ (by first | exact Nat.le_refl _ | (simp; done) | (simp; omega) | omega) _ | refine Below.setCell ?_ (by first | exact Nat.le_refl _ | (simp; done) | (simp; omega) | omega) _))), blk_new y _⟩
          clear B HB hT
          generalize y.alloc (.cells #[.slice A8 3 c8, .slice B8 1 d8] 27) = X8 at *
          have HB : Hid (Below W0.heap.size W0 X8) := Lib.hid HB8.out.1
          generalize y.heap.size = g8 at *
          clear y
          replace H5 := Lib.hid (kpx H5.out HB8.out.2)
          replace H6 := Lib.hid (kpx H6.out HB8.out.2)
          replace H7 := Lib.hid (kpx H7.out HB8.out.2)
          clear HB7 kn_dot'
          have k50 : X8.cell? ⟨g5, 1, none⟩ = some (.slice B5 20 d5) := (blk_cell H5.out.2 1).trans rfl
          go_wp2_with fail
          clear k50
          obtain ⟨a6, a7, a8, e6, e7, e8, -⟩ := kn_cells H6.out H7.out H8.out
          subst e6 e7 e8
          have HCL : Hid (∀ z, Below X8.heap.size X8 z → KnC z g6 g7 g8 c6 c7 c8 a6 a7 a8 s46) := Lib.hid fun z hz => kn_all (kpx H6.out hz) (kpx H7.out hz) (kpx H8.out hz)
          unfold KnC at HCL
          clear H5 H6 H7 H8 HB8
          have hes1 := fun w => eq_set knClsS knClsS w
          have hes2 := fun w => eq_set s46 s46 w
          have hes3 := fun w => eq_set allW allW w
          have hen := fun w => eq_nd ⟨5, W4.zero, 0, 0, 2, 2⟩ ⟨5, W4.zero, 0, 0, 2, 2⟩ w
          rw [decide_eq_true (rfl : knClsS = knClsS)] at hes1
          rw [decide_eq_true (rfl : s46 = s46)] at hes2
          rw [decide_eq_true (rfl : allW = allW)] at hes3
          rw [decide_eq_true (rfl : (⟨5, W4.zero, 0, 0, 2, 2⟩ : Nd) = ⟨5, W4.zero, 0, 0, 2, 2⟩)] at hen
          have hg1 := fun op u v (s : W4) w => eqg_set op u v #[.int .u64 s.a, .int .u64 s.b, .int .u64 s.c, .int .u64 s.d] #[.int .u64 s.a, .int .u64 s.b, .int .u64 s.c, .int .u64 s.d] w
          have hg2 := fun op u v w => eqg_nd op u v #[.int .u8 5, .int .u64 0, .int .u64 0, .int .u64 0, .int .u64 0, .int .i64 0, .int .i64 0, .int .i64 2, .int .i64 2] #[.int .u8 5, .int .u64 0, .int .u64 0, .int .u64 0, .int .u64 0, .int .i64 0, .int .i64 0, .int .i64 2, .int .i64 2] w
          have hez : ∀ w, (Op.equalIn 9999 34 (.agg #[.int .u64 0, .int .u64 0, .int .u64 0, .int .u64 0]) (.agg #[.int .u64 0, .int .u64 0, .int .u64 0, .int .u64 0])).run Try.prog w = .ok true w := fun w => by
            have := eqS 9997 w W4.zero W4.zero
            rw [decide_eq_true (rfl : W4.zero = W4.zero)] at this
            exact this
          refine region_by 69 (by kernel_rfl) rfl (fun x => { tmps := #[u0, Value.slice (some { block := a, off := 0 }) 19 19, Value.slice (some { block := a + 1, off := 0 }) 19 19, Value.int IntKind.i64 19, u4, u5, u6, Value.string { data := (aas 201).toArray }, Value.int IntKind.i64 201, Value.string { data := #[97, 123, 57, 125, 97, 123, 57, 125, 97, 123, 57, 125, 97, 123, 57, 125, 97, 123, 57, 125, 97, 123, 57, 125, 97, 123, 57, 125, 97, 123, 57, 125] }, Value.string { data := #[40, 40, 40, 40, 40, 40, 40, 40, 40, 40, 40, 40, 40, 40, 40, 40, 40, 97] }, Value.string { data := #[38, 38, 38, 38, 38, 38, 38, 38, 38, 38, 38, 38, 38, 38, 38, 38, 38, 38, 38, 38] }, Value.pointer (some { block := g1, off := 0 }), Value.int IntKind.i64 200, Value.int IntKind.i64 3, Value.pointer (some { block := g2, off := 0 }), Value.int IntKind.i64 32, Value.int IntKind.i64 3, Value.pointer (some { block := g3, off := 0 }), Value.int IntKind.i64 16, Value.int IntKind.i64 3, Value.pointer (some { block := g4, off := 0 }), Value.int IntKind.i64 19, Value.int IntKind.i64 3, Value.pointer (some { block := g5, off := 0 }), Value.int IntKind.i64 0, Value.int IntKind.i64 0, Value.pointer (some { block := g6, off := 0 }), Value.int IntKind.i64 0, Value.int IntKind.i64 0, Value.pointer (some { block := g7, off := 0 }), Value.int IntKind.i64 0, Value.int IntKind.i64 0, Value.pointer (some { block := g8, off := 0 }), Value.int IntKind.i64 0, Value.int IntKind.i64 0, Value.slice (some { block := a, off := 0 }) 19 19, Value.slice (some { block := a + 1, off := 0 }) 19 19, Value.int IntKind.i64 19, Value.slice (some { block := a, off := 0 }) 19 19, Value.int IntKind.i64 19, Value.bool false, u42, u43, u44, u45, u46, u47, u48, u49, u50, u51, u52, u53, u54, u55, u56, u57, u58, u59, u60, u61, u62, u63, u64, u65, u66, u67, u68, Value.int IntKind.i64 201, Value.bool false, u71, u72, u73, u74, Value.tuple #[Value.agg #[Value.slice none 0 0, Value.slice none 0 0], Value.int IntKind.i64 200, Value.int IntKind.i64 3], Value.string { data := (aas 201).toArray }, Value.tuple #[Value.agg #[Value.slice none 0 0, Value.slice none 0 0], Value.int IntKind.i64 200, Value.int IntKind.i64 3], Value.agg #[Value.slice none 0 0, Value.slice none 0 0], Value.int IntKind.i64 200, Value.int IntKind.i64 3, Value.tuple #[Value.agg #[Value.slice none 0 0, Value.slice none 0 0], Value.int IntKind.i64 32, Value.int IntKind.i64 3], Value.string { data := #[97, 123, 57, 125, 97, 123, 57, 125, 97, 123, 57, 125, 97, 123, 57, 125, 97, 123, 57, 125, 97, 123, 57, 125, 97, 123, 57, 125, 97, 123, 57, 125] }, Value.tuple #[Value.agg #[Value.slice none 0 0, Value.slice none 0 0], Value.int IntKind.i64 32, Value.int IntKind.i64 3], Value.agg #[Value.slice none 0 0, Value.slice none 0 0], Value.int IntKind.i64 32, Value.int IntKind.i64 3, Value.tuple #[Value.agg #[Value.slice none 0 0, Value.slice none 0 0], Value.int IntKind.i64 16, Value.int IntKind.i64 3], Value.string { data := #[40, 40, 40, 40, 40, 40, 40, 40, 40, 40, 40, 40, 40, 40, 40, 40, 40, 97] }, Value.tuple #[Value.agg #[Value.slice none 0 0, Value.slice none 0 0], Value.int IntKind.i64 16, Value.int IntKind.i64 3], Value.agg #[Value.slice none 0 0, Value.slice none 0 0], Value.int IntKind.i64 16, Value.int IntKind.i64 3, Value.tuple #[Value.agg #[Value.slice none 0 0, Value.slice none 0 0], Value.int IntKind.i64 19, Value.int IntKind.i64 3], Value.string { data := #[38, 38, 38, 38, 38, 38, 38, 38, 38, 38, 38, 38, 38, 38, 38, 38, 38, 38, 38, 38] }, Value.tuple #[Value.agg #[Value.slice none 0 0, Value.slice none 0 0], Value.int IntKind.i64 19, Value.int IntKind.i64 3], Value.agg #[Value.slice none 0 0, Value.slice none 0 0], Value.int IntKind.i64 19, Value.int IntKind.i64 3, Value.tuple #[Value.agg #[Value.slice A5 20 c5, Value.slice B5 20 d5], Value.int IntKind.i64 0, Value.int IntKind.i64 0], Value.string { data := #[38, 38, 38, 38, 38, 38, 38, 38, 38, 38, 38, 38, 38, 38, 38, 38, 38, 38, 38, 38] }, Value.string { data := #[38, 38, 38, 38, 38, 38, 38, 38, 38, 38, 38, 38, 38, 38, 38, 38, 38, 38, 38] }, Value.tuple #[Value.agg #[Value.slice A5 20 c5, Value.slice B5 20 d5], Value.int IntKind.i64 0, Value.int IntKind.i64 0], Value.agg #[Value.slice A5 20 c5, Value.slice B5 20 d5], Value.int IntKind.i64 0, Value.int IntKind.i64 0, Value.tuple #[Value.agg #[Value.slice (some a6) 2 c6, Value.slice B6 1 d6], Value.int IntKind.i64 0, Value.int IntKind.i64 0], Value.tuple #[Value.agg #[Value.slice (some a6) 2 c6, Value.slice B6 1 d6], Value.int IntKind.i64 0, Value.int IntKind.i64 0], Value.agg #[Value.slice (some a6) 2 c6, Value.slice B6 1 d6], Value.int IntKind.i64 0, Value.int IntKind.i64 0, Value.tuple #[Value.agg #[Value.slice (some a7) 1 c7, Value.slice B7 1 d7], Value.int IntKind.i64 0, Value.int IntKind.i64 0], Value.tuple #[Value.agg #[Value.slice (some a7) 1 c7, Value.slice B7 1 d7], Value.int IntKind.i64 0, Value.int IntKind.i64 0], Value.agg #[Value.slice (some a7) 1 c7, Value.slice B7 1 d7], Value.int IntKind.i64 0, Value.int IntKind.i64 0, Value.tuple #[Value.agg #[Value.slice (some a8) 3 c8, Value.slice B8 1 d8], Value.int IntKind.i64 0, Value.int IntKind.i64 0], Value.tuple #[Value.agg #[Value.slice (some a8) 3 c8, Value.slice B8 1 d8], Value.int IntKind.i64 0, Value.int IntKind.i64 0], Value.agg #[Value.slice (some a8) 3 c8, Value.slice B8 1 d8], Value.int IntKind.i64 0, Value.int IntKind.i64 0, Value.int IntKind.i64 200, Value.bool false, Value.bool false, Value.int IntKind.i64 3, Value.bool false, Value.bool false, Value.bool false, Value.int IntKind.i64 32, Value.bool false, Value.bool false, Value.bool false, Value.int IntKind.i64 3, Value.bool false, Value.bool false, Value.bool false, Value.int IntKind.i64 16, Value.bool false, Value.bool false, Value.bool false, Value.int IntKind.i64 3, Value.bool false, Value.bool false, Value.bool false, Value.int IntKind.i64 19, Value.bool false, Value.bool false, Value.bool false, Value.int IntKind.i64 3, Value.bool false, Value.bool false, Value.bool false, Value.int IntKind.i64 0, Value.bool false, Value.bool false, Value.bool false, Value.pointer (some { block := g5, off := 1 }), Value.slice B5 20 d5, Value.int IntKind.i64 20, Value.bool false, Value.bool false, x 0, x 1, x 2, x 3, x 4, x 5, x 6, x 7, x 8, x 9, x 10, x 11, x 12, x 13, x 14, x 15, x 16, x 17, x 18, x 19, x 20, x 21, x 22, x 23, x 24, x 25, x 26, x 27, x 28, x 29, x 30, x 31, x 32, x 33, x 34, x 35, x 36, x 37, x 38, x 39, x 40, x 41, x 42, x 43, x 44, x 45, x 46, x 47, x 48, x 49, x 50, x 51, x 52, x 53, x 54, x 55, x 56, x 57, x 58, x 59, x 60, x 61, x 62, x 63, x 64, x 65, x 66, x 67, x 68], defers := [] }) (fun _ => undef) rfl (F27 g6 g7 g8 c6 c7 c8 a6 a7 a8 s46) F27.below (by kernel_rfl) (by kernel_rfl) ?_ ?_
          · refine StepsAre.cons ?_ (StepsAre.cons ?_ (StepsAre.cons ?_ (StepsAre.cons ?_ (StepsAre.cons ?_ (StepsAre.cons ?_ (StepsAre.cons ?_ (StepsAre.cons ?_ (StepsAre.cons ?_ (StepsAre.cons ?_ (StepsAre.cons ?_ (StepsAre.cons ?_ (StepsAre.cons ?_ (StepsAre.cons ?_ (StepsAre.cons ?_ (StepsAre.cons ?_ (StepsAre.cons ?_ (StepsAre.cons ?_ (StepsAre.cons ?_ (StepsAre.cons ?_ (StepsAre.cons ?_ (StepsAre.cons ?_ (StepsAre.cons ?_ (StepsAre.cons ?_ (StepsAre.cons ?_ (StepsAre.cons ?_ (StepsAre.cons ?_ (StepsAre.cons ?_ (StepsAre.cons ?_ (StepsAre.cons ?_ (StepsAre.cons ?_ (StepsAre.cons ?_ (StepsAre.cons ?_ (StepsAre.cons ?_ (StepsAre.cons ?_ (StepsAre.cons ?_ (StepsAre.cons ?_ (StepsAre.cons ?_ (StepsAre.cons ?_ (StepsAre.cons ?_ (StepsAre.cons ?_ (StepsAre.cons ?_ (StepsAre.cons ?_ (StepsAre.cons ?_ (StepsAre.cons ?_ (StepsAre.cons ?_ (StepsAre.cons ?_ (StepsAre.cons ?_ (StepsAre.cons ?_ (StepsAre.cons ?_ (StepsAre.cons ?_ (StepsAre.cons ?_ (StepsAre.cons ?_ (StepsAre.cons ?_ (StepsAre.cons ?_ (StepsAre.cons ?_ (StepsAre.cons ?_ (StepsAre.cons ?_ (StepsAre.cons ?_ (StepsAre.cons ?_ (StepsAre.cons ?_ (StepsAre.cons ?_ (StepsAre.cons ?_ (StepsAre.cons ?_ (StepsAre.cons ?_ (StepsAre.cons ?_ (StepsAre.cons ?_ (StepsAre.cons ?_ (StepsAre.cons ?_ (StepsAre.nil)))))))))))))))))))))))))))))))))))))))))))))))))))))))))))))))))))))
            · refine StepIs.mk (fun x v => by kernel_rfl) (fun x z hb hdep => wpOp_step rfl (fun K hK => ?_))
              have HKK := Lib.hid hK
              clear hK
              clear hdep
              go_simp
              exact HKK.out _ _ ⟨.int .i64 0, (by dsimp only; kernel_rfl), Below.refl _ _, F27.mk (by decide) rfl⟩
            · refine StepIs.mk (fun x v => by kernel_rfl) (fun x z hb hdep => wpOp_step rfl (fun K hK => ?_))
              have HKK := Lib.hid hK
              clear hK
              have h0 : x 0 = .int .i64 0 := F27.get (by decide) (hdep ⟨0, .data⟩ (by simp) rfl)
              clear hdep
              go_simp
              exact HKK.out _ _ ⟨.bool true, (by dsimp only; rw [h0]; kernel_rfl), Below.refl _ _, F27.mk (by decide) rfl⟩
            · refine StepIs.mk (fun x v => by kernel_rfl) (fun x z hb hdep => wpOp_step rfl (fun K hK => ?_))
              have HKK := Lib.hid hK
              clear hK
              have h1 : x 1 = .bool true := F27.get (by decide) (hdep ⟨1, .data⟩ (by simp) rfl)
              clear hdep
              go_simp
              exact HKK.out _ _ ⟨.bool true, (by dsimp only; rw [h1]; kernel_rfl), Below.refl _ _, F27.mk (by decide) rfl⟩
            · refine StepIs.mk (fun x v => by kernel_rfl) (fun x z hb hdep => wpOp_step rfl (fun K hK => ?_))
              have HKK := Lib.hid hK
              clear hK
              have h2 : x 2 = .bool true := F27.get (by decide) (hdep ⟨2, .guard⟩ (by simp) rfl)
              clear hdep
              go_simp
              exact HKK.out _ _ ⟨.pointer (some ⟨g6, 0, none⟩), (by dsimp only; rw [h2]; kernel_rfl), Below.refl _ _, F27.mk (by decide) rfl⟩
            · refine StepIs.mk (fun x v => by kernel_rfl) (fun x z hb hdep => wpOp_step rfl (fun K hK => ?_))
              have HKK := Lib.hid hK
              clear hK
              have h3 : x 3 = .pointer (some ⟨g6, 0, none⟩) := F27.get (by decide) (hdep ⟨3, .data⟩ (by simp) rfl)
              have h2 : x 2 = .bool true := F27.get (by decide) (hdep ⟨2, .guard⟩ (by simp) rfl)
              clear hdep
              obtain ⟨p0, p1, p2, p3, p4, p5, p6, p7, p8, q0, q1, q2, q3, q4, q5, q6, q7, q8, r0, s1, s2, s3, s4, t1, t2, t3, t4, b6, b7, b8⟩ := HCL.out z ((Below.drew (Below.refl _ _)).trans hb)
              go_simp
              exact HKK.out _ _ ⟨.slice (some a6) 2 c6, (by dsimp only; rw [h3, h2]; kernel_rfl), Below.refl _ _, F27.mk (by decide) rfl⟩
            · refine StepIs.mk (fun x v => by kernel_rfl) (fun x z hb hdep => wpOp_step rfl (fun K hK => ?_))
              have HKK := Lib.hid hK
              clear hK
              have h4 : x 4 = .slice (some a6) 2 c6 := F27.get (by decide) (hdep ⟨4, .data⟩ (by simp) rfl)
              have h2 : x 2 = .bool true := F27.get (by decide) (hdep ⟨2, .guard⟩ (by simp) rfl)
              clear hdep
              go_simp
              exact HKK.out _ _ ⟨.int .i64 2, (by dsimp only; rw [h4, h2]; kernel_rfl), Below.refl _ _, F27.mk (by decide) rfl⟩
            · refine StepIs.mk (fun x v => by kernel_rfl) (fun x z hb hdep => wpOp_step rfl (fun K hK => ?_))
              have HKK := Lib.hid hK
              clear hK
              have h5 : x 5 = .int .i64 2 := F27.get (by decide) (hdep ⟨5, .data⟩ (by simp) rfl)
              have h2 : x 2 = .bool true := F27.get (by decide) (hdep ⟨2, .guard⟩ (by simp) rfl)
              clear hdep
              go_simp
              exact HKK.out _ _ ⟨.bool true, (by dsimp only; rw [h5, h2]; kernel_rfl), Below.refl _ _, F27.mk (by decide) rfl⟩
            · refine StepIs.mk (fun x v => by kernel_rfl) (fun x z hb hdep => wpOp_step rfl (fun K hK => ?_))
              have HKK := Lib.hid hK
              clear hK
              have h2 : x 2 = .bool true := F27.get (by decide) (hdep ⟨2, .data⟩ (by simp) rfl)
              have h6 : x 6 = .bool true := F27.get (by decide) (hdep ⟨6, .data⟩ (by simp) rfl)
              clear hdep
              go_simp
              exact HKK.out _ _ ⟨.bool true, (by dsimp only; rw [h2, h6]; kernel_rfl), Below.refl _ _, F27.mk (by decide) rfl⟩
            · refine StepIs.mk (fun x v => by kernel_rfl) (fun x z hb hdep => wpOp_step rfl (fun K hK => ?_))
              have HKK := Lib.hid hK
              clear hK
              have h7 : x 7 = .bool true := F27.get (by decide) (hdep ⟨7, .data⟩ (by simp) rfl)
              have h2 : x 2 = .bool true := F27.get (by decide) (hdep ⟨2, .chain⟩ (by simp) rfl)
              clear hdep
              go_simp
              exact HKK.out _ _ ⟨.bool true, (by dsimp only; rw [h7, h2]; kernel_rfl), Below.refl _ _, F27.mk (by decide) rfl⟩
            · refine StepIs.mk (fun x v => by kernel_rfl) (fun x z hb hdep => wpOp_step rfl (fun K hK => ?_))
              have HKK := Lib.hid hK
              clear hK
              have h8 : x 8 = .bool true := F27.get (by decide) (hdep ⟨8, .guard⟩ (by simp) rfl)
              clear hdep
              go_simp
              exact HKK.out _ _ ⟨.pointer (some ⟨g6, 0, none⟩), (by dsimp only; rw [h8]; kernel_rfl), Below.refl _ _, F27.mk (by decide) rfl⟩
            · refine StepIs.mk (fun x v => by kernel_rfl) (fun x z hb hdep => wpOp_step rfl (fun K hK => ?_))
              have HKK := Lib.hid hK
              clear hK
              have h9 : x 9 = .pointer (some ⟨g6, 0, none⟩) := F27.get (by decide) (hdep ⟨9, .data⟩ (by simp) rfl)
              have h8 : x 8 = .bool true := F27.get (by decide) (hdep ⟨8, .guard⟩ (by simp) rfl)
              clear hdep
              obtain ⟨p0, p1, p2, p3, p4, p5, p6, p7, p8, q0, q1, q2, q3, q4, q5, q6, q7, q8, r0, s1, s2, s3, s4, t1, t2, t3, t4, b6, b7, b8⟩ := HCL.out z ((Below.drew (Below.refl _ _)).trans hb)
              go_simp
              exact HKK.out _ _ ⟨.slice (some a6) 2 c6, (by dsimp only; rw [h9, h8]; kernel_rfl), Below.refl _ _, F27.mk (by decide) rfl⟩
            · refine StepIs.mk (fun x v => by kernel_rfl) (fun x z hb hdep => wpOp_step rfl (fun K hK => ?_))
              have HKK := Lib.hid hK
              clear hK
              have h10 : x 10 = .slice (some a6) 2 c6 := F27.get (by decide) (hdep ⟨10, .data⟩ (by simp) rfl)
              have h8 : x 8 = .bool true := F27.get (by decide) (hdep ⟨8, .guard⟩ (by simp) rfl)
              clear hdep
              go_simp
              exact HKK.out _ _ ⟨.pointer (some (a6.add 0)), (by dsimp only; rw [h10, h8]; kernel_rfl), Below.refl _ _, F27.mk (by decide) rfl⟩
            · refine StepIs.mk (fun x v => by kernel_rfl) (fun x z hb hdep => wpOp_step rfl (fun K hK => ?_))
              have HKK := Lib.hid hK
              clear hK
              have h11 : x 11 = .pointer (some (a6.add 0)) := F27.get (by decide) (hdep ⟨11, .data⟩ (by simp) rfl)
              have h8 : x 8 = .bool true := F27.get (by decide) (hdep ⟨8, .guard⟩ (by simp) rfl)
              clear hdep
              go_simp
              exact HKK.out _ _ ⟨.pointer (some ⟨(a6.add 0).block, (a6.add 0).off + 1, none⟩), (by dsimp only; rw [h11, h8]; kernel_rfl), Below.refl _ _, F27.mk (by decide) rfl⟩
            · refine StepIs.mk (fun x v => by kernel_rfl) (fun x z hb hdep => wpOp_step rfl (fun K hK => ?_))
              have HKK := Lib.hid hK
              clear hK
              have h12 : x 12 = .pointer (some ⟨(a6.add 0).block, (a6.add 0).off + 1, none⟩) := F27.get (by decide) (hdep ⟨12, .data⟩ (by simp) rfl)
              have h8 : x 8 = .bool true := F27.get (by decide) (hdep ⟨8, .guard⟩ (by simp) rfl)
              clear hdep
              obtain ⟨p0, p1, p2, p3, p4, p5, p6, p7, p8, q0, q1, q2, q3, q4, q5, q6, q7, q8, r0, s1, s2, s3, s4, t1, t2, t3, t4, b6, b7, b8⟩ := HCL.out z ((Below.drew (Below.refl _ _)).trans hb)
              go_simp
              exact HKK.out _ _ ⟨.agg #[.int .u64 knClsS.a, .int .u64 knClsS.b, .int .u64 knClsS.c, .int .u64 knClsS.d], (by dsimp only; rw [h12, h8]; kernel_rfl), Below.refl _ _, F27.mk (by decide) rfl⟩
            · refine StepIs.mk (fun x v => by kernel_rfl) (fun x z hb hdep => wpOp_step rfl (fun K hK => ?_))
              have HKK := Lib.hid hK
              clear hK
              have h8 : x 8 = .bool true := F27.get (by decide) (hdep ⟨8, .chain⟩ (by simp) rfl)
              clear hdep
              go_simp
              go_at_call 7
              refine (kn_range z).mono ?_
              rintro e z1 ⟨rfl, hz1⟩
              go_simp
              exact HKK.out _ _ ⟨.agg #[.int .u64 knClsS.a, .int .u64 knClsS.b, .int .u64 knClsS.c, .int .u64 knClsS.d], (by dsimp only; rw [h8]; kernel_rfl), hz1, F27.mk (by decide) rfl⟩
            · refine StepIs.mk (fun x v => by kernel_rfl) (fun x z hb hdep => wpOp_step rfl (fun K hK => ?_))
              have HKK := Lib.hid hK
              clear hK
              have h13 : x 13 = .agg #[.int .u64 knClsS.a, .int .u64 knClsS.b, .int .u64 knClsS.c, .int .u64 knClsS.d] := F27.get (by decide) (hdep ⟨13, .data⟩ (by simp) rfl)
              have h14 : x 14 = .agg #[.int .u64 knClsS.a, .int .u64 knClsS.b, .int .u64 knClsS.c, .int .u64 knClsS.d] := F27.get (by decide) (hdep ⟨14, .data⟩ (by simp) rfl)
              have h8 : x 8 = .bool true := F27.get (by decide) (hdep ⟨8, .guard⟩ (by simp) rfl)
              clear hdep
              go_simp
              exact HKK.out _ _ ⟨.bool true, (by dsimp only; rw [h13, h14, h8]; kernel_rfl), Below.refl _ _, F27.mk (by decide) rfl⟩
            · refine StepIs.mk (fun x v => by kernel_rfl) (fun x z hb hdep => wpOp_step rfl (fun K hK => ?_))
              have HKK := Lib.hid hK
              clear hK
              have h8 : x 8 = .bool true := F27.get (by decide) (hdep ⟨8, .data⟩ (by simp) rfl)
              have h15 : x 15 = .bool true := F27.get (by decide) (hdep ⟨15, .data⟩ (by simp) rfl)
              clear hdep
              go_simp
              exact HKK.out _ _ ⟨.bool true, (by dsimp only; rw [h8, h15]; kernel_rfl), Below.refl _ _, F27.mk (by decide) rfl⟩
            · refine StepIs.mk (fun x v => by kernel_rfl) (fun x z hb hdep => wpOp_step rfl (fun K hK => ?_))
              have HKK := Lib.hid hK
              clear hK
              have h16 : x 16 = .bool true := F27.get (by decide) (hdep ⟨16, .data⟩ (by simp) rfl)
              have h14 : x 14 = .agg #[.int .u64 knClsS.a, .int .u64 knClsS.b, .int .u64 knClsS.c, .int .u64 knClsS.d] := F27.get (by decide) (hdep ⟨14, .chain⟩ (by simp) rfl)
              clear hdep
              go_simp
              exact HKK.out _ _ ⟨.bool true, (by dsimp only; rw [h16, h14]; kernel_rfl), Below.refl _ _, F27.mk (by decide) rfl⟩
            · refine StepIs.mk (fun x v => by kernel_rfl) (fun x z hb hdep => wpOp_step rfl (fun K hK => ?_))
              have HKK := Lib.hid hK
              clear hK
              have h17 : x 17 = .bool true := F27.get (by decide) (hdep ⟨17, .guard⟩ (by simp) rfl)
              clear hdep
              go_simp
              exact HKK.out _ _ ⟨.pointer (some ⟨g6, 0, none⟩), (by dsimp only; rw [h17]; kernel_rfl), Below.refl _ _, F27.mk (by decide) rfl⟩
            · refine StepIs.mk (fun x v => by kernel_rfl) (fun x z hb hdep => wpOp_step rfl (fun K hK => ?_))
              have HKK := Lib.hid hK
              clear hK
              have h18 : x 18 = .pointer (some ⟨g6, 0, none⟩) := F27.get (by decide) (hdep ⟨18, .data⟩ (by simp) rfl)
              have h17 : x 17 = .bool true := F27.get (by decide) (hdep ⟨17, .guard⟩ (by simp) rfl)
              clear hdep
              obtain ⟨p0, p1, p2, p3, p4, p5, p6, p7, p8, q0, q1, q2, q3, q4, q5, q6, q7, q8, r0, s1, s2, s3, s4, t1, t2, t3, t4, b6, b7, b8⟩ := HCL.out z ((Below.drew (Below.refl _ _)).trans hb)
              go_simp
              exact HKK.out _ _ ⟨.slice (some a6) 2 c6, (by dsimp only; rw [h18, h17]; kernel_rfl), Below.refl _ _, F27.mk (by decide) rfl⟩
            · refine StepIs.mk (fun x v => by kernel_rfl) (fun x z hb hdep => wpOp_step rfl (fun K hK => ?_))
              have HKK := Lib.hid hK
              clear hK
              have h19 : x 19 = .slice (some a6) 2 c6 := F27.get (by decide) (hdep ⟨19, .data⟩ (by simp) rfl)
              have h17 : x 17 = .bool true := F27.get (by decide) (hdep ⟨17, .guard⟩ (by simp) rfl)
              clear hdep
              go_simp
              exact HKK.out _ _ ⟨.pointer (some (a6.add 9)), (by dsimp only; rw [h19, h17]; kernel_rfl), Below.refl _ _, F27.mk (by decide) rfl⟩
            · refine StepIs.mk (fun x v => by kernel_rfl) (fun x z hb hdep => wpOp_step rfl (fun K hK => ?_))
              have HKK := Lib.hid hK
              clear hK
              have h20 : x 20 = .pointer (some (a6.add 9)) := F27.get (by decide) (hdep ⟨20, .data⟩ (by simp) rfl)
              have h17 : x 17 = .bool true := F27.get (by decide) (hdep ⟨17, .guard⟩ (by simp) rfl)
              clear hdep
              obtain ⟨p0, p1, p2, p3, p4, p5, p6, p7, p8, q0, q1, q2, q3, q4, q5, q6, q7, q8, r0, s1, s2, s3, s4, t1, t2, t3, t4, b6, b7, b8⟩ := HCL.out z ((Below.drew (Below.refl _ _)).trans hb)
              go_simp
              exact HKK.out _ _ ⟨.agg #[.int .u8 5, .int .u64 0, .int .u64 0, .int .u64 0, .int .u64 0, .int .i64 0, .int .i64 0, .int .i64 2, .int .i64 2], (by dsimp only; rw [h20, h17]; kernel_rfl), Below.refl _ _, F27.mk (by decide) rfl⟩
            · refine StepIs.mk (fun x v => by kernel_rfl) (fun x z hb hdep => wpOp_step rfl (fun K hK => ?_))
              have HKK := Lib.hid hK
              clear hK
              have h17 : x 17 = .bool true := F27.get (by decide) (hdep ⟨17, .guard⟩ (by simp) rfl)
              clear hdep
              go_simp
              exact HKK.out _ _ ⟨.agg #[.int .u8 5, .int .u64 0, .int .u64 0, .int .u64 0, .int .u64 0, .int .i64 0, .int .i64 0, .int .i64 2, .int .i64 2], (by dsimp only; rw [h17]; kernel_rfl), Below.refl _ _, F27.mk (by decide) rfl⟩
            · refine StepIs.mk (fun x v => by kernel_rfl) (fun x z hb hdep => wpOp_step rfl (fun K hK => ?_))
              have HKK := Lib.hid hK
              clear hK
              have h21 : x 21 = .agg #[.int .u8 5, .int .u64 0, .int .u64 0, .int .u64 0, .int .u64 0, .int .i64 0, .int .i64 0, .int .i64 2, .int .i64 2] := F27.get (by decide) (hdep ⟨21, .data⟩ (by simp) rfl)
              have h22 : x 22 = .agg #[.int .u8 5, .int .u64 0, .int .u64 0, .int .u64 0, .int .u64 0, .int .i64 0, .int .i64 0, .int .i64 2, .int .i64 2] := F27.get (by decide) (hdep ⟨22, .data⟩ (by simp) rfl)
              have h17 : x 17 = .bool true := F27.get (by decide) (hdep ⟨17, .guard⟩ (by simp) rfl)
              clear hdep
              go_simp
              exact HKK.out _ _ ⟨.bool true, (by dsimp only; rw [h21, h22, h17]; kernel_rfl), Below.refl _ _, F27.mk (by decide) rfl⟩
            · refine StepIs.mk (fun x v => by kernel_rfl) (fun x z hb hdep => wpOp_step rfl (fun K hK => ?_))
              have HKK := Lib.hid hK
              clear hK
              have h17 : x 17 = .bool true := F27.get (by decide) (hdep ⟨17, .data⟩ (by simp) rfl)
              have h23 : x 23 = .bool true := F27.get (by decide) (hdep ⟨23, .data⟩ (by simp) rfl)
              clear hdep
              go_simp
              exact HKK.out _ _ ⟨.bool true, (by dsimp only; rw [h17, h23]; kernel_rfl), Below.refl _ _, F27.mk (by decide) rfl⟩
            · refine StepIs.mk (fun x v => by kernel_rfl) (fun x z hb hdep => wpOp_step rfl (fun K hK => ?_))
              have HKK := Lib.hid hK
              clear hK
              have h24 : x 24 = .bool true := F27.get (by decide) (hdep ⟨24, .data⟩ (by simp) rfl)
              have h17 : x 17 = .bool true := F27.get (by decide) (hdep ⟨17, .chain⟩ (by simp) rfl)
              clear hdep
              go_simp
              exact HKK.out _ _ ⟨.bool true, (by dsimp only; rw [h24, h17]; kernel_rfl), Below.refl _ _, F27.mk (by decide) rfl⟩
            · refine StepIs.mk (fun x v => by kernel_rfl) (fun x z hb hdep => wpOp_step rfl (fun K hK => ?_))
              have HKK := Lib.hid hK
              clear hK
              have h25 : x 25 = .bool true := F27.get (by decide) (hdep ⟨25, .guard⟩ (by simp) rfl)
              clear hdep
              go_simp
              exact HKK.out _ _ ⟨.int .i64 0, (by dsimp only; rw [h25]; kernel_rfl), Below.refl _ _, F27.mk (by decide) rfl⟩
            · refine StepIs.mk (fun x v => by kernel_rfl) (fun x z hb hdep => wpOp_step rfl (fun K hK => ?_))
              have HKK := Lib.hid hK
              clear hK
              have h26 : x 26 = .int .i64 0 := F27.get (by decide) (hdep ⟨26, .data⟩ (by simp) rfl)
              have h25 : x 25 = .bool true := F27.get (by decide) (hdep ⟨25, .guard⟩ (by simp) rfl)
              clear hdep
              go_simp
              exact HKK.out _ _ ⟨.bool true, (by dsimp only; rw [h26, h25]; kernel_rfl), Below.refl _ _, F27.mk (by decide) rfl⟩
            · refine StepIs.mk (fun x v => by kernel_rfl) (fun x z hb hdep => wpOp_step rfl (fun K hK => ?_))
              have HKK := Lib.hid hK
              clear hK
              have h25 : x 25 = .bool true := F27.get (by decide) (hdep ⟨25, .data⟩ (by simp) rfl)
              have h27 : x 27 = .bool true := F27.get (by decide) (hdep ⟨27, .data⟩ (by simp) rfl)
              clear hdep
              go_simp
              exact HKK.out _ _ ⟨.bool true, (by dsimp only; rw [h25, h27]; kernel_rfl), Below.refl _ _, F27.mk (by decide) rfl⟩
            · refine StepIs.mk (fun x v => by kernel_rfl) (fun x z hb hdep => wpOp_step rfl (fun K hK => ?_))
              have HKK := Lib.hid hK
              clear hK
              have h28 : x 28 = .bool true := F27.get (by decide) (hdep ⟨28, .data⟩ (by simp) rfl)
              have h25 : x 25 = .bool true := F27.get (by decide) (hdep ⟨25, .chain⟩ (by simp) rfl)
              clear hdep
              go_simp
              exact HKK.out _ _ ⟨.bool true, (by dsimp only; rw [h28, h25]; kernel_rfl), Below.refl _ _, F27.mk (by decide) rfl⟩
            · refine StepIs.mk (fun x v => by kernel_rfl) (fun x z hb hdep => wpOp_step rfl (fun K hK => ?_))
              have HKK := Lib.hid hK
              clear hK
              have h29 : x 29 = .bool true := F27.get (by decide) (hdep ⟨29, .guard⟩ (by simp) rfl)
              clear hdep
              go_simp
              exact HKK.out _ _ ⟨.pointer (some ⟨g7, 0, none⟩), (by dsimp only; rw [h29]; kernel_rfl), Below.refl _ _, F27.mk (by decide) rfl⟩
            · refine StepIs.mk (fun x v => by kernel_rfl) (fun x z hb hdep => wpOp_step rfl (fun K hK => ?_))
              have HKK := Lib.hid hK
              clear hK
              have h30 : x 30 = .pointer (some ⟨g7, 0, none⟩) := F27.get (by decide) (hdep ⟨30, .data⟩ (by simp) rfl)
              have h29 : x 29 = .bool true := F27.get (by decide) (hdep ⟨29, .guard⟩ (by simp) rfl)
              clear hdep
              obtain ⟨p0, p1, p2, p3, p4, p5, p6, p7, p8, q0, q1, q2, q3, q4, q5, q6, q7, q8, r0, s1, s2, s3, s4, t1, t2, t3, t4, b6, b7, b8⟩ := HCL.out z ((Below.drew (Below.refl _ _)).trans hb)
              go_simp
              exact HKK.out _ _ ⟨.slice (some a7) 1 c7, (by dsimp only; rw [h30, h29]; kernel_rfl), Below.refl _ _, F27.mk (by decide) rfl⟩
            · refine StepIs.mk (fun x v => by kernel_rfl) (fun x z hb hdep => wpOp_step rfl (fun K hK => ?_))
              have HKK := Lib.hid hK
              clear hK
              have h31 : x 31 = .slice (some a7) 1 c7 := F27.get (by decide) (hdep ⟨31, .data⟩ (by simp) rfl)
              have h29 : x 29 = .bool true := F27.get (by decide) (hdep ⟨29, .guard⟩ (by simp) rfl)
              clear hdep
              go_simp
              exact HKK.out _ _ ⟨.int .i64 1, (by dsimp only; rw [h31, h29]; kernel_rfl), Below.refl _ _, F27.mk (by decide) rfl⟩
            · refine StepIs.mk (fun x v => by kernel_rfl) (fun x z hb hdep => wpOp_step rfl (fun K hK => ?_))
              have HKK := Lib.hid hK
              clear hK
              have h32 : x 32 = .int .i64 1 := F27.get (by decide) (hdep ⟨32, .data⟩ (by simp) rfl)
              have h29 : x 29 = .bool true := F27.get (by decide) (hdep ⟨29, .guard⟩ (by simp) rfl)
              clear hdep
              go_simp
              exact HKK.out _ _ ⟨.bool true, (by dsimp only; rw [h32, h29]; kernel_rfl), Below.refl _ _, F27.mk (by decide) rfl⟩
            · refine StepIs.mk (fun x v => by kernel_rfl) (fun x z hb hdep => wpOp_step rfl (fun K hK => ?_))
              have HKK := Lib.hid hK
              clear hK
              have h29 : x 29 = .bool true := F27.get (by decide) (hdep ⟨29, .data⟩ (by simp) rfl)
              have h33 : x 33 = .bool true := F27.get (by decide) (hdep ⟨33, .data⟩ (by simp) rfl)
              clear hdep
              go_simp
              exact HKK.out _ _ ⟨.bool true, (by dsimp only; rw [h29, h33]; kernel_rfl), Below.refl _ _, F27.mk (by decide) rfl⟩
            · refine StepIs.mk (fun x v => by kernel_rfl) (fun x z hb hdep => wpOp_step rfl (fun K hK => ?_))
              have HKK := Lib.hid hK
              clear hK
              have h34 : x 34 = .bool true := F27.get (by decide) (hdep ⟨34, .data⟩ (by simp) rfl)
              have h29 : x 29 = .bool true := F27.get (by decide) (hdep ⟨29, .chain⟩ (by simp) rfl)
              clear hdep
              go_simp
              exact HKK.out _ _ ⟨.bool true, (by dsimp only; rw [h34, h29]; kernel_rfl), Below.refl _ _, F27.mk (by decide) rfl⟩
            · refine StepIs.mk (fun x v => by kernel_rfl) (fun x z hb hdep => wpOp_step rfl (fun K hK => ?_))
              have HKK := Lib.hid hK
              clear hK
              have h35 : x 35 = .bool true := F27.get (by decide) (hdep ⟨35, .guard⟩ (by simp) rfl)
              clear hdep
              go_simp
              exact HKK.out _ _ ⟨.pointer (some ⟨g7, 0, none⟩), (by dsimp only; rw [h35]; kernel_rfl), Below.refl _ _, F27.mk (by decide) rfl⟩
            · refine StepIs.mk (fun x v => by kernel_rfl) (fun x z hb hdep => wpOp_step rfl (fun K hK => ?_))
              have HKK := Lib.hid hK
              clear hK
              have h36 : x 36 = .pointer (some ⟨g7, 0, none⟩) := F27.get (by decide) (hdep ⟨36, .data⟩ (by simp) rfl)
              have h35 : x 35 = .bool true := F27.get (by decide) (hdep ⟨35, .guard⟩ (by simp) rfl)
              clear hdep
              obtain ⟨p0, p1, p2, p3, p4, p5, p6, p7, p8, q0, q1, q2, q3, q4, q5, q6, q7, q8, r0, s1, s2, s3, s4, t1, t2, t3, t4, b6, b7, b8⟩ := HCL.out z ((Below.drew (Below.refl _ _)).trans hb)
              go_simp
              exact HKK.out _ _ ⟨.slice (some a7) 1 c7, (by dsimp only; rw [h36, h35]; kernel_rfl), Below.refl _ _, F27.mk (by decide) rfl⟩
            · refine StepIs.mk (fun x v => by kernel_rfl) (fun x z hb hdep => wpOp_step rfl (fun K hK => ?_))
              have HKK := Lib.hid hK
              clear hK
              have h37 : x 37 = .slice (some a7) 1 c7 := F27.get (by decide) (hdep ⟨37, .data⟩ (by simp) rfl)
              have h35 : x 35 = .bool true := F27.get (by decide) (hdep ⟨35, .guard⟩ (by simp) rfl)
              clear hdep
              go_simp
              exact HKK.out _ _ ⟨.pointer (some (a7.add 0)), (by dsimp only; rw [h37, h35]; kernel_rfl), Below.refl _ _, F27.mk (by decide) rfl⟩
            · refine StepIs.mk (fun x v => by kernel_rfl) (fun x z hb hdep => wpOp_step rfl (fun K hK => ?_))
              have HKK := Lib.hid hK
              clear hK
              have h38 : x 38 = .pointer (some (a7.add 0)) := F27.get (by decide) (hdep ⟨38, .data⟩ (by simp) rfl)
              have h35 : x 35 = .bool true := F27.get (by decide) (hdep ⟨35, .guard⟩ (by simp) rfl)
              clear hdep
              go_simp
              exact HKK.out _ _ ⟨.pointer (some (a7.add 0)), (by dsimp only; rw [h38, h35]; kernel_rfl), Below.refl _ _, F27.mk (by decide) rfl⟩
            · refine StepIs.mk (fun x v => by kernel_rfl) (fun x z hb hdep => wpOp_step rfl (fun K hK => ?_))
              have HKK := Lib.hid hK
              clear hK
              have h39 : x 39 = .pointer (some (a7.add 0)) := F27.get (by decide) (hdep ⟨39, .data⟩ (by simp) rfl)
              have h35 : x 35 = .bool true := F27.get (by decide) (hdep ⟨35, .guard⟩ (by simp) rfl)
              clear hdep
              obtain ⟨p0, p1, p2, p3, p4, p5, p6, p7, p8, q0, q1, q2, q3, q4, q5, q6, q7, q8, r0, s1, s2, s3, s4, t1, t2, t3, t4, b6, b7, b8⟩ := HCL.out z ((Below.drew (Below.refl _ _)).trans hb)
              go_simp
              exact HKK.out _ _ ⟨.int .u8 1, (by dsimp only; rw [h39, h35]; kernel_rfl), Below.refl _ _, F27.mk (by decide) rfl⟩
            · refine StepIs.mk (fun x v => by kernel_rfl) (fun x z hb hdep => wpOp_step rfl (fun K hK => ?_))
              have HKK := Lib.hid hK
              clear hK
              have h40 : x 40 = .int .u8 1 := F27.get (by decide) (hdep ⟨40, .data⟩ (by simp) rfl)
              have h35 : x 35 = .bool true := F27.get (by decide) (hdep ⟨35, .guard⟩ (by simp) rfl)
              clear hdep
              go_simp
              exact HKK.out _ _ ⟨.bool true, (by dsimp only; rw [h40, h35]; kernel_rfl), Below.refl _ _, F27.mk (by decide) rfl⟩
            · refine StepIs.mk (fun x v => by kernel_rfl) (fun x z hb hdep => wpOp_step rfl (fun K hK => ?_))
              have HKK := Lib.hid hK
              clear hK
              have h35 : x 35 = .bool true := F27.get (by decide) (hdep ⟨35, .data⟩ (by simp) rfl)
              have h41 : x 41 = .bool true := F27.get (by decide) (hdep ⟨41, .data⟩ (by simp) rfl)
              clear hdep
              go_simp
              exact HKK.out _ _ ⟨.bool true, (by dsimp only; rw [h35, h41]; kernel_rfl), Below.refl _ _, F27.mk (by decide) rfl⟩
            · refine StepIs.mk (fun x v => by kernel_rfl) (fun x z hb hdep => wpOp_step rfl (fun K hK => ?_))
              have HKK := Lib.hid hK
              clear hK
              have h42 : x 42 = .bool true := F27.get (by decide) (hdep ⟨42, .data⟩ (by simp) rfl)
              have h35 : x 35 = .bool true := F27.get (by decide) (hdep ⟨35, .chain⟩ (by simp) rfl)
              clear hdep
              go_simp
              exact HKK.out _ _ ⟨.bool true, (by dsimp only; rw [h42, h35]; kernel_rfl), Below.refl _ _, F27.mk (by decide) rfl⟩
            · refine StepIs.mk (fun x v => by kernel_rfl) (fun x z hb hdep => wpOp_step rfl (fun K hK => ?_))
              have HKK := Lib.hid hK
              clear hK
              have h43 : x 43 = .bool true := F27.get (by decide) (hdep ⟨43, .guard⟩ (by simp) rfl)
              clear hdep
              go_simp
              exact HKK.out _ _ ⟨.int .i64 0, (by dsimp only; rw [h43]; kernel_rfl), Below.refl _ _, F27.mk (by decide) rfl⟩
            · refine StepIs.mk (fun x v => by kernel_rfl) (fun x z hb hdep => wpOp_step rfl (fun K hK => ?_))
              have HKK := Lib.hid hK
              clear hK
              have h44 : x 44 = .int .i64 0 := F27.get (by decide) (hdep ⟨44, .data⟩ (by simp) rfl)
              have h43 : x 43 = .bool true := F27.get (by decide) (hdep ⟨43, .guard⟩ (by simp) rfl)
              clear hdep
              go_simp
              exact HKK.out _ _ ⟨.bool true, (by dsimp only; rw [h44, h43]; kernel_rfl), Below.refl _ _, F27.mk (by decide) rfl⟩
            · refine StepIs.mk (fun x v => by kernel_rfl) (fun x z hb hdep => wpOp_step rfl (fun K hK => ?_))
              have HKK := Lib.hid hK
              clear hK
              have h43 : x 43 = .bool true := F27.get (by decide) (hdep ⟨43, .data⟩ (by simp) rfl)
              have h45 : x 45 = .bool true := F27.get (by decide) (hdep ⟨45, .data⟩ (by simp) rfl)
              clear hdep
              go_simp
              exact HKK.out _ _ ⟨.bool true, (by dsimp only; rw [h43, h45]; kernel_rfl), Below.refl _ _, F27.mk (by decide) rfl⟩
            · refine StepIs.mk (fun x v => by kernel_rfl) (fun x z hb hdep => wpOp_step rfl (fun K hK => ?_))
              have HKK := Lib.hid hK
              clear hK
              have h46 : x 46 = .bool true := F27.get (by decide) (hdep ⟨46, .data⟩ (by simp) rfl)
              have h43 : x 43 = .bool true := F27.get (by decide) (hdep ⟨43, .chain⟩ (by simp) rfl)
              clear hdep
              go_simp
              exact HKK.out _ _ ⟨.bool true, (by dsimp only; rw [h46, h43]; kernel_rfl), Below.refl _ _, F27.mk (by decide) rfl⟩
            · refine StepIs.mk (fun x v => by kernel_rfl) (fun x z hb hdep => wpOp_step rfl (fun K hK => ?_))
              have HKK := Lib.hid hK
              clear hK
              have h47 : x 47 = .bool true := F27.get (by decide) (hdep ⟨47, .guard⟩ (by simp) rfl)
              clear hdep
              go_simp
              exact HKK.out _ _ ⟨.pointer (some ⟨g8, 0, none⟩), (by dsimp only; rw [h47]; kernel_rfl), Below.refl _ _, F27.mk (by decide) rfl⟩
            · refine StepIs.mk (fun x v => by kernel_rfl) (fun x z hb hdep => wpOp_step rfl (fun K hK => ?_))
              have HKK := Lib.hid hK
              clear hK
              have h48 : x 48 = .pointer (some ⟨g8, 0, none⟩) := F27.get (by decide) (hdep ⟨48, .data⟩ (by simp) rfl)
              have h47 : x 47 = .bool true := F27.get (by decide) (hdep ⟨47, .guard⟩ (by simp) rfl)
              clear hdep
              obtain ⟨p0, p1, p2, p3, p4, p5, p6, p7, p8, q0, q1, q2, q3, q4, q5, q6, q7, q8, r0, s1, s2, s3, s4, t1, t2, t3, t4, b6, b7, b8⟩ := HCL.out z ((Below.drew (Below.refl _ _)).trans hb)
              go_simp
              exact HKK.out _ _ ⟨.slice (some a8) 3 c8, (by dsimp only; rw [h48, h47]; kernel_rfl), Below.refl _ _, F27.mk (by decide) rfl⟩
            · refine StepIs.mk (fun x v => by kernel_rfl) (fun x z hb hdep => wpOp_step rfl (fun K hK => ?_))
              have HKK := Lib.hid hK
              clear hK
              have h49 : x 49 = .slice (some a8) 3 c8 := F27.get (by decide) (hdep ⟨49, .data⟩ (by simp) rfl)
              have h47 : x 47 = .bool true := F27.get (by decide) (hdep ⟨47, .guard⟩ (by simp) rfl)
              clear hdep
              go_simp
              exact HKK.out _ _ ⟨.pointer (some (a8.add 0)), (by dsimp only; rw [h49, h47]; kernel_rfl), Below.refl _ _, F27.mk (by decide) rfl⟩
            · refine StepIs.mk (fun x v => by kernel_rfl) (fun x z hb hdep => wpOp_step rfl (fun K hK => ?_))
              have HKK := Lib.hid hK
              clear hK
              have h50 : x 50 = .pointer (some (a8.add 0)) := F27.get (by decide) (hdep ⟨50, .data⟩ (by simp) rfl)
              have h47 : x 47 = .bool true := F27.get (by decide) (hdep ⟨47, .guard⟩ (by simp) rfl)
              clear hdep
              go_simp
              exact HKK.out _ _ ⟨.pointer (some ⟨(a8.add 0).block, (a8.add 0).off + 1, none⟩), (by dsimp only; rw [h50, h47]; kernel_rfl), Below.refl _ _, F27.mk (by decide) rfl⟩
            · refine StepIs.mk (fun x v => by kernel_rfl) (fun x z hb hdep => wpOp_step rfl (fun K hK => ?_))
              have HKK := Lib.hid hK
              clear hK
              have h51 : x 51 = .pointer (some ⟨(a8.add 0).block, (a8.add 0).off + 1, none⟩) := F27.get (by decide) (hdep ⟨51, .data⟩ (by simp) rfl)
              have h47 : x 47 = .bool true := F27.get (by decide) (hdep ⟨47, .guard⟩ (by simp) rfl)
              clear hdep
              obtain ⟨p0, p1, p2, p3, p4, p5, p6, p7, p8, q0, q1, q2, q3, q4, q5, q6, q7, q8, r0, s1, s2, s3, s4, t1, t2, t3, t4, b6, b7, b8⟩ := HCL.out z ((Below.drew (Below.refl _ _)).trans hb)
              go_simp
              exact HKK.out _ _ ⟨.agg #[.int .u64 s46.a, .int .u64 s46.b, .int .u64 s46.c, .int .u64 s46.d], (by dsimp only; rw [h51, h47]; kernel_rfl), Below.refl _ _, F27.mk (by decide) rfl⟩
            · refine StepIs.mk (fun x v => by kernel_rfl) (fun x z hb hdep => wpOp_step rfl (fun K hK => ?_))
              have HKK := Lib.hid hK
              clear hK
              have h47 : x 47 = .bool true := F27.get (by decide) (hdep ⟨47, .guard⟩ (by simp) rfl)
              clear hdep
              go_simp
              exact HKK.out _ _ ⟨.slice (some ⟨z.heap.size, 0, none⟩) 1 1, (by dsimp only; rw [h47]; kernel_rfl), (Below.refl _ _).alloc (Nat.le_refl _) _, ⟨z.heap.size, rfl, rblk_new_at _ _ _ rfl⟩⟩
            · refine StepIs.mk (fun x v => by kernel_rfl) (fun x z hb hdep => wpOp_step rfl (fun K hK => ?_))
              have HKK := Lib.hid hK
              clear hK
              obtain ⟨g53, h53, n53⟩ : ∃ g, x 53 = .slice (some ⟨g, 0, none⟩) 1 1 ∧ z.heap[g]? = some (.cells #[.int .u8 46] 5 (0, 0)) := hdep ⟨53, .data⟩ (by simp) rfl
              have h47 : x 47 = .bool true := F27.get (by decide) (hdep ⟨47, .chain⟩ (by simp) rfl)
              clear hdep
              go_simp
              go_at_call 8
              refine (kn_of46 HS46.out z g53 n53).mono ?_
              rintro e z1 ⟨rfl, hz1⟩
              go_simp
              exact HKK.out _ _ ⟨.agg #[.int .u64 s46.a, .int .u64 s46.b, .int .u64 s46.c, .int .u64 s46.d], (by dsimp only; rw [h53, h47]; kernel_rfl), hz1, F27.mk (by decide) rfl⟩
            · refine StepIs.mk (fun x v => by kernel_rfl) (fun x z hb hdep => wpOp_step rfl (fun K hK => ?_))
              have HKK := Lib.hid hK
              clear hK
              have h52 : x 52 = .agg #[.int .u64 s46.a, .int .u64 s46.b, .int .u64 s46.c, .int .u64 s46.d] := F27.get (by decide) (hdep ⟨52, .data⟩ (by simp) rfl)
              have h54 : x 54 = .agg #[.int .u64 s46.a, .int .u64 s46.b, .int .u64 s46.c, .int .u64 s46.d] := F27.get (by decide) (hdep ⟨54, .data⟩ (by simp) rfl)
              have h47 : x 47 = .bool true := F27.get (by decide) (hdep ⟨47, .guard⟩ (by simp) rfl)
              clear hdep
              go_simp
              exact HKK.out _ _ ⟨.bool true, (by dsimp only; rw [h52, h54, h47]; kernel_rfl), Below.refl _ _, F27.mk (by decide) rfl⟩
            · refine StepIs.mk (fun x v => by kernel_rfl) (fun x z hb hdep => wpOp_step rfl (fun K hK => ?_))
              have HKK := Lib.hid hK
              clear hK
              have h47 : x 47 = .bool true := F27.get (by decide) (hdep ⟨47, .data⟩ (by simp) rfl)
              have h55 : x 55 = .bool true := F27.get (by decide) (hdep ⟨55, .data⟩ (by simp) rfl)
              clear hdep
              go_simp
              exact HKK.out _ _ ⟨.bool true, (by dsimp only; rw [h47, h55]; kernel_rfl), Below.refl _ _, F27.mk (by decide) rfl⟩
            · refine StepIs.mk (fun x v => by kernel_rfl) (fun x z hb hdep => wpOp_step rfl (fun K hK => ?_))
              have HKK := Lib.hid hK
              clear hK
              have h56 : x 56 = .bool true := F27.get (by decide) (hdep ⟨56, .data⟩ (by simp) rfl)
              have h54 : x 54 = .agg #[.int .u64 s46.a, .int .u64 s46.b, .int .u64 s46.c, .int .u64 s46.d] := F27.get (by decide) (hdep ⟨54, .chain⟩ (by simp) rfl)
              clear hdep
              go_simp
              exact HKK.out _ _ ⟨.bool true, (by dsimp only; rw [h56, h54]; kernel_rfl), Below.refl _ _, F27.mk (by decide) rfl⟩
            · refine StepIs.mk (fun x v => by kernel_rfl) (fun x z hb hdep => wpOp_step rfl (fun K hK => ?_))
              have HKK := Lib.hid hK
              clear hK
              have h57 : x 57 = .bool true := F27.get (by decide) (hdep ⟨57, .guard⟩ (by simp) rfl)
              clear hdep
              go_simp
              exact HKK.out _ _ ⟨.pointer (some ⟨g8, 0, none⟩), (by dsimp only; rw [h57]; kernel_rfl), Below.refl _ _, F27.mk (by decide) rfl⟩
            · refine StepIs.mk (fun x v => by kernel_rfl) (fun x z hb hdep => wpOp_step rfl (fun K hK => ?_))
              have HKK := Lib.hid hK
              clear hK
              have h58 : x 58 = .pointer (some ⟨g8, 0, none⟩) := F27.get (by decide) (hdep ⟨58, .data⟩ (by simp) rfl)
              have h57 : x 57 = .bool true := F27.get (by decide) (hdep ⟨57, .guard⟩ (by simp) rfl)
              clear hdep
              obtain ⟨p0, p1, p2, p3, p4, p5, p6, p7, p8, q0, q1, q2, q3, q4, q5, q6, q7, q8, r0, s1, s2, s3, s4, t1, t2, t3, t4, b6, b7, b8⟩ := HCL.out z ((Below.drew (Below.refl _ _)).trans hb)
              go_simp
              exact HKK.out _ _ ⟨.slice (some a8) 3 c8, (by dsimp only; rw [h58, h57]; kernel_rfl), Below.refl _ _, F27.mk (by decide) rfl⟩
            · refine StepIs.mk (fun x v => by kernel_rfl) (fun x z hb hdep => wpOp_step rfl (fun K hK => ?_))
              have HKK := Lib.hid hK
              clear hK
              have h59 : x 59 = .slice (some a8) 3 c8 := F27.get (by decide) (hdep ⟨59, .data⟩ (by simp) rfl)
              have h57 : x 57 = .bool true := F27.get (by decide) (hdep ⟨57, .guard⟩ (by simp) rfl)
              clear hdep
              go_simp
              exact HKK.out _ _ ⟨.pointer (some (a8.add 9)), (by dsimp only; rw [h59, h57]; kernel_rfl), Below.refl _ _, F27.mk (by decide) rfl⟩
            · refine StepIs.mk (fun x v => by kernel_rfl) (fun x z hb hdep => wpOp_step rfl (fun K hK => ?_))
              have HKK := Lib.hid hK
              clear hK
              have h60 : x 60 = .pointer (some (a8.add 9)) := F27.get (by decide) (hdep ⟨60, .data⟩ (by simp) rfl)
              have h57 : x 57 = .bool true := F27.get (by decide) (hdep ⟨57, .guard⟩ (by simp) rfl)
              clear hdep
              go_simp
              exact HKK.out _ _ ⟨.pointer (some ⟨(a8.add 9).block, (a8.add 9).off + 1, none⟩), (by dsimp only; rw [h60, h57]; kernel_rfl), Below.refl _ _, F27.mk (by decide) rfl⟩
            · refine StepIs.mk (fun x v => by kernel_rfl) (fun x z hb hdep => wpOp_step rfl (fun K hK => ?_))
              have HKK := Lib.hid hK
              clear hK
              have h61 : x 61 = .pointer (some ⟨(a8.add 9).block, (a8.add 9).off + 1, none⟩) := F27.get (by decide) (hdep ⟨61, .data⟩ (by simp) rfl)
              have h57 : x 57 = .bool true := F27.get (by decide) (hdep ⟨57, .guard⟩ (by simp) rfl)
              clear hdep
              obtain ⟨p0, p1, p2, p3, p4, p5, p6, p7, p8, q0, q1, q2, q3, q4, q5, q6, q7, q8, r0, s1, s2, s3, s4, t1, t2, t3, t4, b6, b7, b8⟩ := HCL.out z ((Below.drew (Below.refl _ _)).trans hb)
              go_simp
              exact HKK.out _ _ ⟨.agg #[.int .u64 allW.a, .int .u64 allW.b, .int .u64 allW.c, .int .u64 allW.d], (by dsimp only; rw [h61, h57]; kernel_rfl), Below.refl _ _, F27.mk (by decide) rfl⟩
            · refine StepIs.mk (fun x v => by kernel_rfl) (fun x z hb hdep => wpOp_step rfl (fun K hK => ?_))
              have HKK := Lib.hid hK
              clear hK
              have h57 : x 57 = .bool true := F27.get (by decide) (hdep ⟨57, .chain⟩ (by simp) rfl)
              clear hdep
              go_simp
              go_at_call 9
              refine (all_any z).mono ?_
              rintro e z1 ⟨rfl, hz1⟩
              go_simp
              exact HKK.out _ _ ⟨.agg #[.int .u64 allW.a, .int .u64 allW.b, .int .u64 allW.c, .int .u64 allW.d], (by dsimp only; rw [h57]; kernel_rfl), hz1, F27.mk (by decide) rfl⟩
            · refine StepIs.mk (fun x v => by kernel_rfl) (fun x z hb hdep => wpOp_step rfl (fun K hK => ?_))
              have HKK := Lib.hid hK
              clear hK
              have h62 : x 62 = .agg #[.int .u64 allW.a, .int .u64 allW.b, .int .u64 allW.c, .int .u64 allW.d] := F27.get (by decide) (hdep ⟨62, .data⟩ (by simp) rfl)
              have h63 : x 63 = .agg #[.int .u64 allW.a, .int .u64 allW.b, .int .u64 allW.c, .int .u64 allW.d] := F27.get (by decide) (hdep ⟨63, .data⟩ (by simp) rfl)
              have h57 : x 57 = .bool true := F27.get (by decide) (hdep ⟨57, .guard⟩ (by simp) rfl)
              clear hdep
              go_simp
              exact HKK.out _ _ ⟨.bool true, (by dsimp only; rw [h62, h63, h57]; kernel_rfl), Below.refl _ _, F27.mk (by decide) rfl⟩
            · refine StepIs.mk (fun x v => by kernel_rfl) (fun x z hb hdep => wpOp_step rfl (fun K hK => ?_))
              have HKK := Lib.hid hK
              clear hK
              have h57 : x 57 = .bool true := F27.get (by decide) (hdep ⟨57, .data⟩ (by simp) rfl)
              have h64 : x 64 = .bool true := F27.get (by decide) (hdep ⟨64, .data⟩ (by simp) rfl)
              clear hdep
              go_simp
              exact HKK.out _ _ ⟨.bool true, (by dsimp only; rw [h57, h64]; kernel_rfl), Below.refl _ _, F27.mk (by decide) rfl⟩
            · refine StepIs.mk (fun x v => by kernel_rfl) (fun x z hb hdep => wpOp_step rfl (fun K hK => ?_))
              have HKK := Lib.hid hK
              clear hK
              have h65 : x 65 = .bool true := F27.get (by decide) (hdep ⟨65, .data⟩ (by simp) rfl)
              have h63 : x 63 = .agg #[.int .u64 allW.a, .int .u64 allW.b, .int .u64 allW.c, .int .u64 allW.d] := F27.get (by decide) (hdep ⟨63, .chain⟩ (by simp) rfl)
              clear hdep
              go_simp
              exact HKK.out _ _ ⟨.bool true, (by dsimp only; rw [h65, h63]; kernel_rfl), Below.refl _ _, F27.mk (by decide) rfl⟩
            · refine StepIs.mk (fun x v => by kernel_rfl) (fun x z hb hdep => wpOp_step rfl (fun K hK => ?_))
              have HKK := Lib.hid hK
              clear hK
              have h66 : x 66 = .bool true := F27.get (by decide) (hdep ⟨66, .chain⟩ (by simp) rfl)
              clear hdep
              go_simp
              go_at_call 10
              refine (rawake_any z).mono ?_
              rintro e z1 ⟨rfl, hz1⟩
              go_simp
              exact HKK.out _ _ ⟨.bool true, (by dsimp only; rw [h66]; kernel_rfl), hz1, F27.mk (by decide) rfl⟩
            · refine StepIs.mk (fun x v => by kernel_rfl) (fun x z hb hdep => wpOp_step rfl (fun K hK => ?_))
              have HKK := Lib.hid hK
              clear hK
              have h66 : x 66 = .bool true := F27.get (by decide) (hdep ⟨66, .data⟩ (by simp) rfl)
              have h67 : x 67 = .bool true := F27.get (by decide) (hdep ⟨67, .data⟩ (by simp) rfl)
              clear hdep
              go_simp
              exact HKK.out _ _ ⟨.bool true, (by dsimp only; rw [h66, h67]; kernel_rfl), Below.refl _ _, F27.mk (by decide) rfl⟩
          · intro x z hb hF
            refine wpOp_step rfl (fun K hK => ?_)
            have HKK := Lib.hid hK
            clear hK
            have h68 : x 68 = .bool true := F27.get (by decide) (hF 68 (by decide))
            have HZ := Lib.hid (HB0.out.trans ((HB.out.trans (((Below.drew (Below.refl _ _)).trans hb).mono HB.out.size)).mono HB0.out.size))
            clear hF hb
            go_simp
            refine HKK.out _ _ ?_
            go_wp2_with fail
            go_ret
            exact ⟨rfl, HZ.out⟩
end Go.Proofs.Ytebkaajnnjfhjaa
