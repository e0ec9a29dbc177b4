/-
  The rules' map: its length, a look-up, a store.
-/
import Derived.Test.YtckcgiimeaklcaaDoorAm
namespace Go.Proofs.YtckcgiimeaklcaaDoor
set_option linter.unusedVariables false
set_option linter.unusedSimpArgs false
open Go.RowKit Go.Proofs.YtckcgiimeaklcaaDoorW.PrintWords
open Ab (T El R Rs sz rootI post els root hasR szs)
namespace Ab
theorem root_append (b : B) (r : B × T) : ∀ (m : Nat) (rs : Rs), root m (rs ++ [r]) b = match root m rs b with
    | some k => some k
    | none => if r.1 = b then some (rootI (m + szs rs) r.2) else none
  | m, [] => by simp [root, szs]
  | m, q :: rs => by
    simp only [List.cons_append, root, szs]
    by_cases h : q.1 = b
    · simp [h]
    · rw [if_neg h, if_neg h, root_append b r (m + sz q.2) rs, Nat.add_assoc]
theorem root_has (b : B) : ∀ (m : Nat) (rs : Rs), (root m rs b).isSome = hasR rs b
  | m, [] => rfl
  | m, q :: rs => by
    simp only [root, hasR, List.any_cons]
    by_cases h : q.1 = b
    · simp [h]
    · rw [if_neg h, root_has b]
      have : (q.1 == b) = false := by simpa using h
      rw [this]
      rfl
theorem has_append (b : B) (r : B × T) (rs : Rs) : hasR (rs ++ [r]) b = (hasR rs b || r.1 == b) := by simp [hasR]
theorem els_append (r : B × T) : ∀ (m : Nat) (rs : Rs), els m (rs ++ [r]) = els m rs ++ post (m + szs rs) r.2
  | m, [] => by simp [els, szs]
  | m, q :: rs => by simp only [List.cons_append, els, szs]; rw [els_append r, List.append_assoc, Nat.add_assoc]
theorem els_len : ∀ (m : Nat) (rs : Rs), (els m rs).length = szs rs
  | m, [] => rfl
  | m, q :: rs => by simp only [els, szs, List.length_append, post_len]; rw [els_len]
theorem szs_append (r : B × T) : ∀ rs : Rs, szs (rs ++ [r]) = szs rs + sz r.2
  | [] => by simp [szs]
  | q :: rs => by simp only [List.cons_append, szs]; rw [szs_append r]; omega
end Ab
section
variable {w w' : World} {b : Nat} {rs : Rs}
theorem zero_int (w : World) : (zeroValue 3).run Tryd.prog w = .ok (.int .i64 0) w := by kernel_rfl
theorem key_str (n : List UInt8) (hn : n.length ≤ maxLen) : keyOf Tryd.prog 9 (.string ⟨n.toArray⟩) = some (.string n) := WideMaps.keyOf_string_mk Tryd.underlying9 (by show n.toArray.size ≤ _; simpa using hn)
theorem MapAt.len (h : MapAt w b rs) (ty : TypeId) : (Builtin.len_ #[33] ty #[.map (some b)]).run Tryd.prog w = .ok (.int .i64 rs.length) w := by
  obtain ⟨D, h1, h2, h3, h4, h5⟩ := h
  have := h1.len Tryd.underlying33 ty
  rw [h3] at this
  exact this
theorem MapAt.look (h : MapAt w b rs) (n : List UInt8) (hn : n.length ≤ maxLen) : ∃ c : Int, (Instr.lookup 33 (.map (some b)) (.string ⟨n.toArray⟩) true).run Tryd.prog w = .ok (.tuple #[.int .i64 c, .bool (hasR rs n)]) w ∧ ∀ k, root 0 rs n = some k → c = k := by
  obtain ⟨D, h1, h2, h3, h4, h5⟩ := h
  obtain ⟨v, ps, hrun, hv⟩ := h1.look_ok (Maps.string_keyed Tryd.underlying9) Tryd.underlying33 (zero_int w) (plainElem_int Tryd.underlying3 (by decide)) (key_str n hn)
  obtain ⟨c, rfl, hc, hwc⟩ := plainElem_int_inv Tryd.underlying3 hv
  rw [h4] at hrun
  refine ⟨c, hrun, fun k hk => ?_⟩
  have h6 := congrArg Prod.fst hc
  simp only at h6
  rw [h5 n k hk] at h6
  exact (Lit.int.inj (DataW.lit.inj h6)).2.symm
theorem MapAt.look1 (h : MapAt w b rs) (n : List UInt8) (hn : n.length ≤ maxLen) : ∃ c : Int, (Instr.lookup 33 (.map (some b)) (.string ⟨n.toArray⟩) false).run Tryd.prog w = .ok (.int .i64 c) w ∧ ∀ k, root 0 rs n = some k → c = k := by
  obtain ⟨D, h1, h2, h3, h4, h5⟩ := h
  obtain ⟨c, hrun, hat, hwc⟩ := h1.lookup_int (Maps.string_keyed Tryd.underlying9) Tryd.underlying33 Tryd.underlying3 (zero_int w) (key_str n hn)
  refine ⟨c, hrun, fun k hk => ?_⟩
  rw [h5 n k hk] at hat
  exact (Lit.int.inj (DataW.lit.inj hat)).2.symm
theorem MapAt.put (h : MapAt w b rs) (n : List UInt8) (t : T) (hn : n.length ≤ 8000) (hno : hasR rs n = false) (hl : rs.length < 1000) (hs : szs rs + sz t ≤ 1500) :
    ∃ w', (Instr.mapUpdate 33 (.map (some b)) (.string ⟨n.toArray⟩) (.int .i64 (rootI (szs rs) t))).run Tryd.prog w = .ok () w' ∧ MapAt w' b (rs ++ [(n, t)]) ∧ w.grownBy w' (some b) := by
  obtain ⟨D, h1, h2, h3, h4, h5⟩ := h
  have hk : rootI (szs rs) t = wrap64 (rootI (szs rs) t) := by have := Ab.sz_pos t; unfold rootI wrap64; omega
  have hv : plainElem (H := Unit) Tryd.prog 3 (.int .i64 (rootI (szs rs) t)) = some (.lit (.int .i64 (rootI (szs rs) t)), []) := by
    rw [hk]
    exact plainElem_int Tryd.underlying3 (wrap64_wf _)
  obtain ⟨w', hrun, ho, hg⟩ := h1.update (Maps.string_keyed Tryd.underlying9) Tryd.underlying33 (by unfold maxLen; omega) (key_str n (by unfold maxLen; omega)) hv
  have hL : Maps.has D (.string n) = false := by rw [h4, hno]
  refine ⟨w', hrun, ⟨_, ?_, ho.tidy (Maps.string_keyed Tryd.underlying9), ?_, ?_, ?_⟩, hg⟩
  · simpa using ho
  · rw [Maps.size_put h2, hL, h3]; simp
  · intro m
    rw [Ab.has_append]
    by_cases hm : n = m
    · subst hm
      rw [Maps.has_put_same h2.isMap (show WideAt.IsKeyLit (.string n) from trivial)]
      simp
    · rw [Maps.has_put_other (by intro e; injection e with e; exact hm e.symm), h4]
      have : (n == m) = false := by simpa using hm
      rw [this, Bool.or_false]
  · intro m k hk
    rw [Ab.root_append] at hk
    by_cases hm : n = m
    · subst hm
      rw [Maps.atKey_put_same h2.isMap (show WideAt.IsKeyLit (.string n) from trivial)]
      have h0 : root 0 rs n = none := by
        have := Ab.root_has n 0 rs
        rw [hno] at this
        simpa using this
      rw [h0] at hk
      simp at hk
      rw [← hk]
    · rw [Maps.atKey_put_other (by intro e; injection e with e; exact hm e.symm)]
      cases h0 : root 0 rs m with
      | none => rw [h0] at hk; simp [hm] at hk
      | some k0 =>
        rw [h0] at hk
        simp at hk
        subst hk
        exact h5 m k0 h0
end
section
variable {w w' : World} {base gg gr bm : Nat} {l : List UInt8} {ln : Int} {op : Nat} {es : List El} {ls : List Int} {rs rs' : Rs} {vE vL : Value}
theorem RSv.putM (h : RSv w base gg gr bm l ln op es ls rs vE vL) (hm : MapAt w' bm rs') (hg : w.grownBy w' (some bm)) : RSv w' base gg gr bm l ln op es ls rs' vE vL ∧ Kp base gg bm w w' := by
  have hK : Kp base gg bm w w' := (Kp.refl base gg bm w).grown h.lt hg (fun k hk => by injection hk with hk; exact .inr (.inr hk.symm)) (fun k v _ h3 _ e => by injection e with e; exact h3 e)
  have n1 : bm ≠ gr := h.map.ne h.blk
  have n2 : bm ≠ gg := h.map.ne h.gblk
  refine ⟨⟨blk_grown h.blk hg (by simpa using fun e => n1 e.symm), blk_grown h.gblk hg (by simpa using fun e => n2 e.symm), hm, ?_, ?_, h.bg, h.bmlt, h.len, h.le, h.ll, h.op, mx_kp h.mx hK h.p0, h.p0⟩, hK⟩
  · exact own_other h.rE hg (.inr fun e => by have := own_base h.rE bm e; have := h.bmlt; omega)
  · exact own_other h.rL hg (.inr fun e => by have := own_base h.rL bm e; have := h.bmlt; omega)
end
end Go.Proofs.YtckcgiimeaklcaaDoor
