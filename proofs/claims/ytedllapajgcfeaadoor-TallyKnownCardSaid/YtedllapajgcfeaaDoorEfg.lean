/-
  append of a literal's numbers to a row of one's own; fmtEFG at 7, at 1e300, at -0.
-/
import Derived.Test.YtedllapajgcfeaaDoorT7
import Derived.Test.YtedllapajgcfeaaDoorT300
namespace Go.Proofs.YtedllapajgcfeaaDoor
open Go.RowKit Go.Proofs.YtedllapajgcfeaaDoorW.PrintWords

section
variable {P : Program} {ops : Array Oper} {rest : List Oper} {o : Oper} {a : Act} {Q : Exit → Act → World → Prop} {K : Act → World → Prop}

theorem run_append_lits {w0 W : World} (base : Nat) (t ty e : TypeId) (k : IntKind) (bytes : Nat)
    (ht : P.underlying t = some (.slice e)) (hinfo : (P.info? e).map (fun i => (i.zero, i.size, i.bytes)) = some (some (.int k 0), 1, bytes)) (hb0 : 0 < bytes)
    (v : Value) (xs ys : List Int) (HO : W.ownsRow base e 1 v xs.length (nums k xs)) (HB : Below base w0 W) (hbase : base ≤ W.heap.size) (hl : (xs.length + ys.length) * bytes ≤ 140737488355328) :
    ∃ v1 w1, (Builtin.append_ #[t, t] ty #[v, .slice (some ⟨W.heap.size, 0, none⟩) ys.length ys.length]).run P (W.alloc (.cells (nums k ys).toArray e)) = .ok v1 w1 ∧
      w1.ownsRow base e 1 v1 (xs ++ ys).length (nums k (xs ++ ys)) ∧ Below base w0 w1 ∧ W.heap.size ≤ w1.heap.size ∧ W.grownBy w1 v.ownBlock := by
  obtain ⟨i0, hi, hzz⟩ := Option.map_eq_some_iff.1 hinfo
  simp only [Prod.mk.injEq] at hzz
  obtain ⟨hz0, hz1, hz2⟩ := hzz
  have hlen : xs.length + ys.length ≤ 140737488355328 := Nat.le_trans (Nat.le_mul_of_pos_right _ hb0) hl
  obtain ⟨v1, w1, hr, hown, hg, _, hat⟩ := run_append_own_at (P := P) (W.alloc (.cells (nums k ys).toArray e)) base t ty e i0 (.int k 0) 1 bytes ht hi hz0 hz1 hz2 rfl (by omega) v xs.length (nums k xs) (HO.alloc _) ⟨W.heap.size, 0, none⟩ ys.length ys.length (nums k ys) (by simp [nums])
    (by simpa using World.news_of_block (cs := (nums k ys).toArray) (t := e) (fr := (0, 0)) (heap_alloc_new W (.cells (nums k ys).toArray e)))
    (by intro u hu; simp only [nums, List.mem_map] at hu; obtain ⟨q, _, rfl⟩ := hu; rfl) (by simp only [maxLen]; omega) hl (by simp; omega)
  exact ⟨v1, w1, hr, by simpa [nums] using hown, (HB.alloc hbase _).grown hg (by simp; omega) (own_base HO), by have := hg.size; simp at this; omega, World.grownBy.trans (World.grownBy_alloc W _ _) hg⟩

theorem append_lits {w0 W : World} (base : Nat) (hgd : o.guard = none) (s x : Operand) (t e : TypeId) (k : IntKind) (bytes : Nat)
    (ho : o.op = .call { callee := .builtin .append, args := #[s, x], argTypes := #[t, t] })
    (ht : P.underlying t = some (.slice e)) (hinfo : (P.info? e).map (fun i => (i.zero, i.size, i.bytes)) = some (some (.int k 0), 1, bytes)) (hb0 : 0 < bytes)
    (v : Value) (xs ys : List Int) (hs : a.eval s = v) (hx : a.eval x = .slice (some ⟨W.heap.size, 0, none⟩) ys.length ys.length)
    (HO : W.ownsRow base e 1 v xs.length (nums k xs)) (HB : Below base w0 W) (hbase : base ≤ W.heap.size) (hl : (xs.length + ys.length) * bytes ≤ 140737488355328)
    (h : ∀ v1 w1, w1.ownsRow base e 1 v1 (xs ++ ys).length (nums k (xs ++ ys)) → Below base w0 w1 → W.heap.size ≤ w1.heap.size → W.grownBy w1 v.ownBlock → wpList P ops Q rest (a.put o.dst v1) w1) :
    wpList P ops Q (o :: rest) a (W.alloc (.cells (nums k ys).toArray e)) := by
  obtain ⟨v1, w1, hr, h1, h2, h3, h4⟩ := run_append_lits (P := P) base t o.type e k bytes ht hinfo hb0 v xs ys HO HB hbase hl
  refine wpList_plain hgd fun K hK => ?_
  unfold Oper.wp execOp
  simp only [ho, resolve, invoke, builtin, Sem.run_bind, Sem.run_pure, Result.andThen_ok, List.map_toArray, List.map_cons, List.map_nil, hs, hx, hr]
  exact hK _ _ (h v1 w1 h1 h2 h3 h4)

end
set_option maxRecDepth 100000 in
set_option maxHeartbeats 6400000 in
theorem efg_Th : EfgTh [49, 101, 43, 51, 48, 48] := by
  intro v base g w0 w HO HB hbase C0 hlt hne
  have c0 := C0
  replace C0 := Lib.hid C0
  replace HO := Lib.hid HO
  replace HB := Lib.hid HB
  replace hbase := Lib.hid hbase
  clear hne hlt
  have m0 : max (0 : Int) 0 = 0 := by decide
  have m1 : max (1 : Int) 0 = 1 := by decide
  have m2 : min (1 : Int) 1 = 1 := by decide
  have m3 : max (-1 : Int) 0 = 0 := by decide
  go_enter Tryd.func62, Tryd.ntmps62
  go_wp2_with (at_builtin; first | (refine append_lits (w0 := w0) base rfl _ _ 68 5 .u8 1 rfl Tryd.underlying68 (by kernel_rfl) (by omega) v [] [49] rfl rfl (by exact HO.out) (by exact HB.out) hbase.out (by decide) ?_; intro v1 w1 HO1 HB1 hs1 hg1; have hb1 := Lib.hid (Nat.le_trans hbase.out hs1); replace HO1 := Lib.hid HO1; replace HB1 := Lib.hid HB1; clear hs1 hg1 HO HB hbase) | (refine append_lits (w0 := w0) base rfl _ _ 68 5 .u8 1 rfl Tryd.underlying68 (by kernel_rfl) (by omega) _ ([] ++ [49]) [101] rfl rfl (by exact HO1.out) (by exact HB1.out) hb1.out (by decide) ?_; intro v2 w2 HO2 HB2 hs2 hg2; have hb2 := Lib.hid (Nat.le_trans hb1.out hs2); replace HO2 := Lib.hid HO2; replace HB2 := Lib.hid HB2; clear hs2 hg2 HO1 HB1 hb1) | (refine append_lits (w0 := w0) base rfl _ _ 68 5 .u8 1 rfl Tryd.underlying68 (by kernel_rfl) (by omega) _ (([] ++ [49]) ++ [101]) [43] rfl rfl (by exact HO2.out) (by exact HB2.out) hb2.out (by decide) ?_; intro v3 w3 HO3 HB3 hs3 hg3; have hb3 := Lib.hid (Nat.le_trans hb2.out hs3); replace HO3 := Lib.hid HO3; replace HB3 := Lib.hid HB3; clear hs3 hg3 HO2 HB2 hb2) | (refine append_lits (w0 := w0) base rfl _ _ 68 5 .u8 1 rfl Tryd.underlying68 (by kernel_rfl) (by omega) _ ((([] ++ [49]) ++ [101]) ++ [43]) [51, 48, 48] rfl rfl (by exact HO3.out) (by exact HB3.out) hb3.out (by decide) ?_; intro v4 w4 HO4 HB4 hs4 hg4; have hb4 := Lib.hid (Nat.le_trans hb3.out hs4); replace HO4 := Lib.hid HO4; replace HB4 := Lib.hid HB4; clear hs4 hg4 HO3 HB3 hb3))
  go_ret
  exact ⟨_, rfl, HO4.out, HB4.out⟩
set_option maxRecDepth 100000 in
set_option maxHeartbeats 6400000 in
theorem efg_Mz (v : Value) (base : Nat) (w0 w : World) (HO : w.ownsRow base 5 1 v 0 (nums .u8 [])) (HB : Below base w0 w) (hbase : base ≤ w.heap.size) : Calls Tryd.prog 62 #[v, .bool true, .slice none 0 0, .int .i64 0, .int .i64 0, .int .i64 (-1), .int .u8 103, .bool true] w fun e w' => ∃ v', e = .returned v' ∧ w'.ownsRow base 5 1 v' 2 (nums .u8 [45, 48]) ∧ Below base w0 w' := by
  replace HO := Lib.hid HO
  replace HB := Lib.hid HB
  replace hbase := Lib.hid hbase
  have m0 : max (0 : Int) 0 = 0 := by decide
  have m1 : max (1 : Int) 0 = 1 := by decide
  have m2 : min (1 : Int) 1 = 1 := by decide
  have m3 : max (-1 : Int) 0 = 0 := by decide
  go_enter Tryd.func62, Tryd.ntmps62
  go_wp2_with (at_builtin; first | (refine append_lits (w0 := w0) base rfl _ _ 68 5 .u8 1 rfl Tryd.underlying68 (by kernel_rfl) (by omega) v [] [45] rfl rfl (by exact HO.out) (by exact HB.out) hbase.out (by decide) ?_; intro v1 w1 HO1 HB1 hs1 hg1; have hb1 := Lib.hid (Nat.le_trans hbase.out hs1); replace HO1 := Lib.hid HO1; replace HB1 := Lib.hid HB1; clear hs1 hg1 HO HB hbase) | (refine append_lits (w0 := w0) base rfl _ _ 68 5 .u8 1 rfl Tryd.underlying68 (by kernel_rfl) (by omega) _ ([] ++ [45]) [48] rfl rfl (by exact HO1.out) (by exact HB1.out) hb1.out (by decide) ?_; intro v2 w2 HO2 HB2 hs2 hg2; have hb2 := Lib.hid (Nat.le_trans hb1.out hs2); replace HO2 := Lib.hid HO2; replace HB2 := Lib.hid HB2; clear hs2 hg2 HO1 HB1 hb1))
  go_ret
  exact ⟨_, rfl, HO2.out, HB2.out⟩
set_option maxRecDepth 100000 in
set_option maxHeartbeats 6400000 in
theorem efg_Sv : EfgSv [55] := by
  intro v base g w0 w HO HB hbase C0 hlt hne
  have c0 := C0
  replace C0 := Lib.hid C0
  replace HO := Lib.hid HO
  replace HB := Lib.hid HB
  replace hbase := Lib.hid hbase
  clear hne hlt
  have m0 : max (0 : Int) 0 = 0 := by decide
  have m1 : max (1 : Int) 0 = 1 := by decide
  have m2 : min (1 : Int) 1 = 1 := by decide
  have m3 : max (-1 : Int) 0 = 0 := by decide
  have i1 : (0 : Int) < 32 := by omega
  go_enter Tryd.func62, Tryd.ntmps62
  go_wp2_with fail
  go_loopw [0, 191] (fun d i wr => (v = d ∧ i = .int .i64 0 ∧ w = wr) ∨ (∃ d' : Value, d' = d ∧ i = .int .i64 1 ∧ wr.ownsRow base 5 1 d' 1 (nums .u8 [55]) ∧ Below base w0 wr)) (fun _ i _ => 1 - (RowKit.intOf i).toNat)
  case atStart => exact Or.inl ⟨rfl, rfl, rfl⟩
  case round =>
    rcases hrel with ⟨rfl, rfl, rfl⟩ | ⟨d, rfl, rfl, HO3, HB3⟩
    · go_wp2_with (at_builtin; (refine append_lits (w0 := w0) base rfl _ _ 68 5 .u8 1 rfl Tryd.underlying68 (by kernel_rfl) (by omega) v [] [55] rfl rfl (by exact HO.out) (by exact HB.out) hbase.out (by decide) ?_; intro v1 w1 HO1 HB1 hs1 hg1; have hb1 := Lib.hid (Nat.le_trans hbase.out hs1); replace HO1 := Lib.hid HO1; replace HB1 := Lib.hid HB1; clear hs1 hg1 HO HB hbase))
      go_roundw
      case rel => exact Or.inr ⟨v1, rfl, by go_num, HO1.out, HB1.out⟩
      case measure => simp [RowKit.intOf]
    · replace HO3 := Lib.hid HO3
      replace HB3 := Lib.hid HB3
      go_wp2_with fail
      go_loopw [0, 203] (fun d' i wr => ∃ d'' : Value, d'' = d' ∧ i = .int .i64 0 ∧ wr.ownsRow base 5 1 d'' 1 (nums .u8 [55]) ∧ Below base w0 wr) (fun _ _ _ => 0)
      case atStart => exact ⟨_, rfl, rfl, HO3.out, HB3.out⟩
      case round =>
        obtain ⟨d5, rfl, rfl, HO4, HB4⟩ := hrel
        replace HO4 := Lib.hid HO4
        replace HB4 := Lib.hid HB4
        go_wp2_with fail
        go_ret
        exact ⟨_, rfl, HO4.out, HB4.out⟩
end Go.Proofs.YtedllapajgcfeaaDoor
