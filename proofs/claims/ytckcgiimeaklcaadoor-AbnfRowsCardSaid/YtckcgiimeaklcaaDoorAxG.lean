/-
  Read: walked.
-/
import Derived.Test.YtckcgiimeaklcaaDoorAg
import Derived.Test.YtckcgiimeaklcaaDoorAok
import Derived.BigQuiet
import Derived.BigRegion
namespace Go.Proofs.YtckcgiimeaklcaaDoor
set_option linter.unusedVariables false
set_option linter.unusedSimpArgs false
open Go.RowKit Go.Proofs.YtckcgiimeaklcaaDoorW.PrintWords
open Ab (T El R Rs sz rootI post els root hasR szs)
namespace Ab
def R.Nz {α : Type} : R α → Prop
  | .no e => e ≠ 0
  | _ => True
theorem R.bnd_nz {α β : Type} {r : R α} {f : α → B → Nat → R β} (h : r.Nz) (hf : ∀ v l n, (f v l n).Nz) : (r.bnd f).Nz := by
  cases r with
  | ok v l n => exact hf v l n
  | no e => exact h
theorem nz_no {α : Type} (e : Int) (h : e ≠ 0) : (R.no e : R α).Nz := h
theorem nz_ite {α : Type} {c : Prop} [Decidable c] {a b : R α} (h1 : a.Nz) (h2 : b.Nz) : (if c then a else b).Nz := by split <;> assumption
theorem nz_add (t : T) (l : B) (n : Nat) : (add t l n).Nz := nz_ite (nz_no 3 (by decide)) trivial
theorem nz_lit (l : B) (n : Nat) : (lit l n).Nz := by
  unfold lit
  split
  · exact nz_no 8 (by decide)
  · exact nz_ite (nz_no 8 (by decide)) (nz_add _ _ _)
theorem nz_spans (l : B) (n : Nat) : (spans l n).Nz := by
  unfold spans
  split
  · exact nz_no 8 (by decide)
  · refine nz_ite ?_ (nz_add _ _ _)
    split
    · exact nz_no 8 (by decide)
    · exact nz_ite (nz_no 8 (by decide)) (nz_add _ _ _)
theorem nz_named (l : B) (n : Nat) : (named l n).Nz := nz_ite (nz_no 8 (by decide)) (nz_add _ _ _)
section
variable {g : UInt8 → B → Nat → R T} (hg : ∀ c l n, (g c l n).Nz)
include hg
theorem nz_elm (l : B) (n : Nat) : (elm g l n).Nz := nz_ite (hg _ _ _) (nz_ite (R.bnd_nz (hg _ _ _) fun _ _ _ => nz_add _ _ _) (nz_ite (nz_lit _ _) (nz_ite (nz_spans _ _) (nz_named _ _))))
theorem nz_rpt (l : B) (n : Nat) : (rpt g l n).Nz := nz_ite (nz_ite (nz_no 8 (by decide)) (R.bnd_nz (nz_elm hg _ _) fun _ _ _ => nz_add _ _ _)) (nz_ite (R.bnd_nz (nz_elm hg _ _) fun _ _ _ => nz_add _ _ _) (nz_elm hg _ _))
theorem nz_catl : ∀ (f : Nat) (a : T) (l : B) (n : Nat), (catl g f a l n).Nz
  | 0, _, _, _ => nz_no 99 (by decide)
  | f + 1, a, l, n => nz_ite trivial (R.bnd_nz (nz_rpt hg _ _) fun _ _ _ => R.bnd_nz (nz_add _ _ _) fun _ _ _ => nz_catl f _ _ _)
theorem nz_cat (f0 : Nat) (l : B) (n : Nat) : (cat f0 g l n).Nz := R.bnd_nz (nz_rpt hg _ _) fun _ _ _ => nz_catl hg _ _ _ _
theorem nz_altl (f0 : Nat) : ∀ (f : Nat) (a : T) (l : B) (n : Nat), (altl f0 g f a l n).Nz
  | 0, _, _, _ => nz_no 99 (by decide)
  | f + 1, a, l, n => nz_ite (R.bnd_nz (nz_cat hg _ _ _) fun _ _ _ => R.bnd_nz (nz_add _ _ _) fun _ _ _ => nz_altl f0 f _ _ _) trivial
theorem nz_alt (f0 : Nat) (l : B) (n : Nat) : (alt f0 g l n).Nz := R.bnd_nz (nz_cat hg _ _ _) fun _ _ _ => nz_altl hg _ _ _ _ _
end
theorem nz_grp (f0 : Nat) : ∀ (d : Nat) (c : UInt8) (l : B) (n : Nat), (grp f0 d c l n).Nz
  | 0, _, _, _ => nz_no 3 (by decide)
  | d + 1, c, l, n => R.bnd_nz (nz_alt (nz_grp f0 d) _ _ _) fun _ _ _ => nz_ite trivial (nz_no 8 (by decide))
theorem nz_rule (f0 : Nat) (rs : Rs) (l : B) : (rule f0 rs l).Nz := nz_ite trivial (nz_ite (nz_no 3 (by decide)) (nz_ite (nz_no 8 (by decide)) (nz_ite (R.bnd_nz (nz_alt (nz_grp f0 16) _ _ _) fun _ _ _ => nz_ite (nz_no 8 (by decide)) trivial) (nz_no 8 (by decide)))))
theorem rule_100 {f0 : Nat} {rs : Rs} {l l' : B} {r : B × T} {n : Nat} (h : rule f0 rs l = .ok (some r) l' n) : rs.length ≠ 100 := by
  intro e
  unfold rule at h
  split at h
  · cases h
  · simp [e] at h
/-- What is good of rules that are read. -/
structure Sound (rs : Rs) : Prop where
  tok : ∀ r ∈ rs, OkT r.2 ∧ r.1.length ≤ 8000
  nod : (rs.map (·.1)).Nodup
  r100 : rs.length ≤ 100
  le : szs rs ≤ 1500
  has : ∀ x ∈ els 0 rs, x.k = 2 → hasR rs x.t = true
theorem missing_none (rs : Rs) : ∀ (es : List El) (ls : List Int), ls.length = es.length → missing rs es ls = none → ∀ x ∈ es, x.k = 2 → hasR rs x.t = true
  | [], _, _, _, x, hx, _ => by cases hx
  | y :: t, [], h, _, _, _, _ => by simp at h
  | y :: t, i :: r, h, hm, x, hx, h2 => by
    unfold missing at hm
    split at hm
    · cases hm
    · next hn =>
      rcases List.mem_cons.1 hx with rfl | hx
      · cases hh : hasR rs x.t
        · exact absurd ⟨h2, hh⟩ hn
        · rfl
      · exact missing_none rs t r (by simpa using h) hm x hx h2
end Ab
theorem adE_els (rs : Rs) (v : Option (List UInt8 × T)) : adE (els 0 rs) v = els 0 (Ab.addR rs v) := by
  cases v with
  | none => rfl
  | some r => show els 0 rs ++ post (els 0 rs).length r.2 = els 0 (rs ++ [r]); rw [Ab.els_append, Ab.els_len, Nat.zero_add]
theorem adL_eq (ls : List Int) (j : Nat) (v : Option (List UInt8 × T)) : Ab.addL ls (j + 1) v = adL ls ((j : Int) + 1) v := by cases v <;> rfl
theorem adL_len (es : List El) (ls : List Int) (ln : Int) (v : Option (List UInt8 × T)) (h : ls.length = es.length) : (adL ls ln v).length = (adE es v).length := by
  cases v with
  | none => exact h
  | some r => show (ls ++ _).length = (es ++ _).length; rw [List.length_append, List.length_append, List.length_replicate, Ab.post_len, h]
theorem addR_len {f0 : Nat} {rs : Rs} {l l' : List UInt8} {v : Option (List UInt8 × T)} {n : Nat} (h : Ab.rule f0 rs l = .ok v l' n) (hl : rs.length ≤ 100) : (Ab.addR rs v).length ≤ 100 := by
  cases v with
  | none => exact hl
  | some r => have := Ab.rule_100 h; show (rs ++ [r]).length ≤ 100; simp; omega
theorem addR_tok {f0 : Nat} {rs : Rs} {l l' : List UInt8} {v : Option (List UInt8 × T)} {n : Nat} (h : Ab.rule f0 rs l = .ok v l' n) (hl : l.length ≤ 8000) (ht : ∀ r ∈ rs, Ab.OkT r.2 ∧ r.1.length ≤ 8000) : ∀ r ∈ Ab.addR rs v, Ab.OkT r.2 ∧ r.1.length ≤ 8000 := by
  cases v with
  | none => exact ht
  | some r =>
    intro q hq
    rcases List.mem_append.1 hq with hq | hq
    · exact ht q hq
    · have : q = r := by simpa using hq
      subst this
      exact ⟨(Ab.rule_fit h hl).1, (Ab.rule_fit h hl).2.1⟩
theorem addR_nod {f0 : Nat} {rs : Rs} {l l' : List UInt8} {v : Option (List UInt8 × T)} {n : Nat} (h : Ab.rule f0 rs l = .ok v l' n) (hl : l.length ≤ 8000) (ht : (rs.map (·.1)).Nodup) : ((Ab.addR rs v).map (·.1)).Nodup := by
  cases v with
  | none => exact ht
  | some r =>
    show ((rs ++ [r]).map (·.1)).Nodup
    rw [List.map_append, List.nodup_append]
    refine ⟨ht, by simp, ?_⟩
    intro a ha b hb e
    have h1 := (Ab.rule_fit h hl).2.2
    simp only [List.map_cons, List.map_nil, List.mem_singleton] at hb
    obtain ⟨q, hq, rfl⟩ := List.mem_map.1 ha
    have : hasR rs r.1 = true := by
      unfold hasR
      rw [List.any_eq_true]
      exact ⟨q, hq, by simp [e, hb]⟩
    rw [h1] at this
    cases this
section
variable {w0 w w' : World} {base gg gr bm a : Nat} {l l0 : List UInt8} {ln : Int} {op : Nat} {es : List El} {ls : List Int} {rs : Rs} {vE vL : Value}
/-- A grammar that is being read. -/
structure GRv (w : World) (base gg bm : Nat) (es : List El) (ls : List Int) (rs : Rs) (vE vL : Value) : Prop where
  gblk : w.heap[gg]? = some (.cells #[vE, .map (some bm), vL] 37 (0, 0))
  map : MapAt w bm rs
  rE : w.ownsRow base 45 6 vE es.length (es.flatMap elC)
  rL : w.ownsRow base 3 1 vL ls.length (encs lnC ls)
  lt : base ≤ w.heap.size
  bmlt : bm < base
  len : ls.length = es.length
  le : es.length ≤ 1500
  mx : ∃ m, w.cell? ⟨0, 0, none⟩ = some (.int .i64 m)
  p0 : 0 < base ∧ 0 < gg ∧ 0 < bm
  es_ : es = els 0 rs
  r100 : rs.length ≤ 100
  tok : ∀ r ∈ rs, Ab.OkT r.2 ∧ r.1.length ≤ 8000
  nod : (rs.map (·.1)).Nodup
theorem GRv.reader (h : GRv w base gg bm es ls rs vE vL) (l : List UInt8) (ln : Int) (hl : l.length ≤ 8000) : RSv (w.alloc (.cells #[.pointer (some ⟨gg, 0, none⟩), .string ⟨l.toArray⟩, .int .i64 ln, .int .i64 0] 42)) base gg w.heap.size bm l ln 0 es ls rs vE vL := by
  have hB : Below w.heap.size w (w.alloc (.cells #[.pointer (some ⟨gg, 0, none⟩), .string ⟨l.toArray⟩, .int .i64 ln, .int .i64 0] 42)) := (Below.refl _ _).alloc (Nat.le_refl _) _
  exact ⟨blk_new w _, blk_below h.gblk hB, h.map.grown (grown_of_below hB none) (by simp), pw_own_below h.rE hB, pw_own_below h.rL hB, h.lt, h.bmlt, Nat.le_of_eq h.len, h.le, hl, by omega, mx_below h.mx hB, h.p0⟩
theorem RSv.gram (h : RSv w base gg gr bm l ln op es ls rs vE vL) (h1 : ls.length = es.length) (h2 : es = els 0 rs) (h3 : rs.length ≤ 100) (h4 : ∀ r ∈ rs, Ab.OkT r.2 ∧ r.1.length ≤ 8000) (h5 : (rs.map (·.1)).Nodup) : GRv w base gg bm es ls rs vE vL := ⟨h.gblk, h.map, h.rE, h.rL, h.lt, h.bmlt, h1, h.le, h.mx, h.p0, h2, h3, h4, h5⟩
/-- What Read says. -/
def OutRead (w : World) (res : Ab.Rd) (e : Ending) (w' : World) : Prop := Below w.heap.size w w' ∧ match res with
  | .good rs _ => ∃ gg bm A c vL, e = .returned (.tuple #[.pointer (some ⟨gg, 0, none⟩), .int .i64 0, .int .i64 0]) ∧ GramAt w' gg bm (els 0 rs) rs A c vL ∧ Ab.Sound rs
  | .bad i x => e = .returned (.tuple #[.pointer none, .int .i64 i, .int .i64 x])
theorem ab_new_at (W : World) (o : Obj) (g : Nat) (h : W.heap.size = g) : (W.alloc o).heap[g]? = some o := h ▸ blk_new W o
theorem ab_own_nil (w : World) (base : Nat) (t : TypeId) (s : Nat) : w.ownsRow base t s (.slice none 0 0) 0 [] := ⟨by simp, .inl ⟨rfl, rfl⟩⟩
theorem made_map (w : World) : MapAt (w.alloc (.map #[] 0)) w.heap.size [] :=
  ⟨.map [], World.ownsMap_made w Tryd.prog 9 _, ⟨[], rfl, List.Pairwise.nil⟩, rfl, fun _ => rfl, fun n k h => by cases h⟩
set_option maxRecDepth 100000 in
set_option maxHeartbeats 12800000 in
theorem read_any (l : List UInt8) (m : Int) (hm : w.cell? ⟨0, 0, none⟩ = some (.int .i64 m)) : Calls Tryd.prog 5 #[.string ⟨l.toArray⟩] w (OutRead w (Ab.read l)) := by
  have hmm := @run_makeMap Tryd.prog
  by_cases h8 : 8000 < l.length
  · have HT : Hid (Ab.read l = .bad 0 3) := Lib.hid (if_pos h8)
    have t1 : decide ((8000 : Int) < (l.length : Int)) = true := decide_eq_true (by omega)
    clear h8
    go_enter Tryd.func5, Tryd.ntmps5
    go_wp2_with fail
    rw [HT.out]
    refine bodyPost_ret (v := .tuple #[.pointer none, .int .i64 0, .int .i64 3]) (by simp [results, Tryd.results5]) rfl ⟨Below.refl _ _, rfl⟩
  · have t1 : decide ((8000 : Int) < (l.length : Int)) = false := decide_eq_false (by omega)
    have h0 := World.block_lt_of_cell? w _ hm
    have HL8 := Lib.hid (show l.length ≤ 8000 by omega)
    have hres : Ab.read l = match Ab.lines 1 [] [] (Ab.split l) with
      | .bad i e => .bad i e
      | .good rs ln => match Ab.missing rs (els 0 rs) ln with
        | some i => .bad i 4
        | none => .good rs ln := if_neg h8
    generalize Ab.read l = RES at hres ⊢
    have HRES := Lib.hid hres
    clear hres h8
    go_enter Tryd.func5, Tryd.ntmps5
    go_wp2_with fail
    refine (split_any l m _ HL8.out ((pw_cell_below (w := w) (by (repeat (first | exact Below.refl _ _ | assumption | refine Below.drew ?_ | refine Below.alloc ?_ (by first | exact Nat.le_refl _ | (simp; done) | (simp; omega) | omega) _ | refine Below.setCell ?_ (by first | exact Nat.le_refl _ | (simp; done) | (simp; omega) | omega) _))) hm))).mono ?_
    rintro e w1 ⟨rfl, hw1⟩
    have hb0 : (((w.alloc (.map #[] 0)).alloc (.cells #[.slice none 0 0, .map (some w.heap.size), .slice none 0 0] 37))).heap.size = w.heap.size + 2 := by simp
    rw [hb0]
    have HP : Hid (w1.heap[w.heap.size + 2]? = some (.cells ((Ab.split l).map fun s => Value.string ⟨s.toArray⟩).toArray 9 (0, 0))) := Lib.hid (by rw [hw1]; exact ab_new_at _ _ _ hb0)
    have HB1 : Hid (Below w.heap.size w w1) := Lib.hid (by rw [hw1]; (repeat (first | exact Below.refl _ _ | assumption | refine Below.drew ?_ | refine Below.alloc ?_ (by first | exact Nat.le_refl _ | (simp; done) | (simp; omega) | omega) _ | refine Below.setCell ?_ (by first | exact Nat.le_refl _ | (simp; done) | (simp; omega) | omega) _)))
    have HG : Hid (GRv w1 (w.heap.size + 3) (w.heap.size + 1) w.heap.size [] [] [] (.slice none 0 0) (.slice none 0 0)) := Lib.hid (by
      rw [hw1]
      refine ⟨blk_alloc (ab_new_at _ _ _ (by simp)) _, ?_, ab_own_nil _ _ _ _, ab_own_nil _ _ _ _, by simp, by omega, rfl, by simp, ⟨m, pw_cell_below (w := w) (by (repeat (first | exact Below.refl _ _ | assumption | refine Below.drew ?_ | refine Below.alloc ?_ (by first | exact Nat.le_refl _ | (simp; done) | (simp; omega) | omega) _ | refine Below.setCell ?_ (by first | exact Nat.le_refl _ | (simp; done) | (simp; omega) | omega) _))) hm⟩, by omega, rfl, by simp, by simp, by simp⟩
      have h2 : Below (w.alloc (.map #[] 0)).heap.size (w.alloc (.map #[] 0)) (((w.alloc (.map #[] 0)).alloc (.cells #[.slice none 0 0, .map (some w.heap.size), .slice none 0 0] 37)).alloc (.cells ((Ab.split l).map fun s => Value.string ⟨s.toArray⟩).toArray 9)) := ((Below.refl _ _).alloc (Nat.le_refl _) _).alloc (by simp) _
      exact (made_map w).grown (grown_of_below h2 none) (by simp))
    have HPL := Lib.hid (Ab.split_len l)
    have HPC := Lib.hid (Ab.split_count l)
    generalize Ab.split l = P at *
    generalize hRL : Ab.lines 1 [] [] P = RL at HRES
    have HRL := Lib.hid hRL
    have H0 := Lib.hid h0
    clear hw1 hb0 hm h0 hRL
    obtain ⟨q, hq⟩ : ∃ q, w.heap.size = q := ⟨_, rfl⟩
    have HQ := Lib.hid hq
    rw [hq] at HP HG H0 HB1 ⊢
    clear hq
    go_wp2_with fail
    go_loopw [20, 2] (fun iv v2 wr => v2 = .pointer (some ⟨q + 1, 0, none⟩) ∧ ∃ (j : Nat) (es : List El) (ls : List Int) (rs : Rs) (vE vL : Value), iv = .int .i64 j ∧ j ≤ P.length ∧ Hid (Ab.lines (j + 1) rs ls (P.drop j) = RL) ∧ Hid (GRv wr (q + 3) (q + 1) q es ls rs vE vL) ∧ Hid (Kp (q + 3) (q + 1) q w1 wr)) (fun iv _ _ => P.length - (RowKit.intOf iv).toNat)
    case atStart => exact ⟨rfl, 0, [], [], [], _, _, rfl, by omega, HRL, HG, Lib.hid (Kp.refl _ _ _ _)⟩
    case round =>
      clear HRL HG
      obtain ⟨rfl, j, es, ls, rs, vE, vL, rfl, hj, HC, HG, HK⟩ := hrel
      have hPC := HPC.out
      have hL8 := HL8.out
      by_cases hlt : j < P.length
      · have e1 : decide ((j : Int) < (P.length : Int)) = true := decide_eq_true (by omega)
        have e2 : (j : Int) < P.length := by omega
        have e3 : (0 : Int) ≤ (j : Int) := by omega
        have wj0 : IntKind.i64.wrap (j : Int) = (j : Int) := IntWalk.i64_in _ (by omega)
        have wj1 : IntKind.i64.wrap ((j : Int) + 1) = (j : Int) + 1 := IntWalk.i64_in _ (by omega)
        obtain ⟨s, hs⟩ : ∃ s, s = P[j] := ⟨_, rfl⟩
        have hd : P.drop j = s :: P.drop (j + 1) := by rw [hs]; exact List.drop_eq_getElem_cons hlt
        have hsl : Hid (s.length ≤ 8000) := Lib.hid (by have := HPL.out s (by rw [hs]; exact List.getElem_mem hlt); omega)
        have hc : wr.cell? ⟨q + 2, j, none⟩ = some (.string ⟨s.toArray⟩) := by
          have h1 : wr.heap[q + 2]? = w1.heap[q + 2]? := HK.out.block (q + 2) (by omega) (by omega) (by omega)
          rw [blk_cell (h1.trans HP.out) j, hs]
          simp [hlt]
        rw [hd] at HC
        clear hs hd hlt hL8 hPC
        go_wp2_with fail
        refine (Tryd.strings_HasPrefix ⟨s.toArray⟩ ⟨[59].toArray⟩ _).mono ?_
        rintro e w2 ⟨rfl, rfl⟩
        rw [show Lib.hasPrefix (ByteArray.mk s.toArray).data.toList (ByteArray.mk [59].toArray).data.toList = Ab.nx 59 s from Ab.pre1 59 s]
        cases h59 : Ab.nx 59 s
        · replace HC : Hid ((match Ab.rule 8001 rs s with
            | .no e => Ab.Rd.bad (j + 1 : Nat) e
            | .ok r _ _ => Ab.lines (j + 1 + 1) (Ab.addR rs r) (Ab.addL ls (j + 1) r) (P.drop (j + 1))) = RL) := Lib.hid (by rw [← HC.out, Ab.lines, h59]; rfl)
          clear h59 hc
          go_wp2_with fail
          have HRD := Lib.hid (HG.out.reader s ((j : Int) + 1) hsl.out)
          have HKR : Hid (Kp (q + 3) (q + 1) q w1 (w2.alloc (.cells #[.pointer (some ⟨q + 1, 0, none⟩), .string ⟨s.toArray⟩, .int .i64 ((j : Int) + 1), .int .i64 0] 42))) := Lib.hid (HK.out.alloc HG.out.lt _)
          refine (reads_any (f0 := 8001) (by decide) HG.out.len (by rw [HG.out.es_, Ab.els_len]) HG.out.r100 HRD.out).mono ?_
          rintro e w3 hO
          cases hr : Ab.rule 8001 rs s with
          | no x =>
            have hnz : x ≠ 0 := by have := Ab.nz_rule 8001 rs s; rw [hr] at this; exact this
            rw [hr] at hO HC
            obtain ⟨rfl, k3⟩ := hO
            have HK3 := Lib.hid (HKR.out.trans k3)
            have tx : (x == 0) = false := by simpa using hnz
            replace HC : Hid (RL = .bad (j + 1 : Nat) x) := Lib.hid HC.out.symm
            clear hnz k3 hr
            go_wp2_with fail
            refine bodyPost_ret (v := .tuple #[.pointer none, .int .i64 ((j : Int) + 1), .int .i64 x]) (by simp [results, Tryd.results5]) rfl ⟨?_, ?_⟩
            · rw [HQ.out]
              exact HB1.out.trans (HK3.out.below (by omega) (by omega) (by omega))
            · rw [HRES.out, HC.out]
              rfl
          | ok v l3 n3 =>
            rw [hr] at hO HC
            obtain ⟨rfl, ⟨vE3, vL3, hR3⟩, k3⟩ := hO
            replace HC : Hid (Ab.lines (j + 1 + 1) (Ab.addR rs v) (Ab.addL ls (j + 1) v) (P.drop (j + 1)) = RL) := HC
            rw [adL_eq] at HC
            have HG3 := Lib.hid (hR3.gram (adL_len es ls _ v HG.out.len) (by rw [HG.out.es_, adE_els]) (addR_len hr HG.out.r100) (addR_tok hr hsl.out HG.out.tok) (addR_nod hr hsl.out HG.out.nod))
            have HK3 := Lib.hid (HKR.out.trans k3)
            clear hR3 k3 hr HRD HKR
            go_wp2_with fail
            go_roundw
            case rel => exact ⟨rfl, j + 1, _, _, _, vE3, vL3, by go_num, by omega, HC, HG3, HK3⟩
            case measure => simp [RowKit.intOf] <;> omega
        · replace HC : Hid (Ab.lines (j + 1 + 1) rs ls (P.drop (j + 1)) = RL) := Lib.hid (by rw [← HC.out, Ab.lines, h59]; rfl)
          clear h59
          go_wp2_with fail
          go_roundw
          case rel => exact ⟨rfl, j + 1, es, ls, rs, vE, vL, by go_num, by omega, HC, HG, HK⟩
          case measure => simp [RowKit.intOf] <;> omega
      · obtain rfl : j = P.length := by omega
        have e1 : decide ((P.length : Int) < (P.length : Int)) = false := decide_eq_false (by omega)
        rw [List.drop_length] at HC
        replace HC : Hid (RL = .good rs ls) := Lib.hid (HC.out.symm.trans (by rw [Ab.lines]))
        rw [HC.out] at HRES
        replace HRES : Hid (RES = match Ab.missing rs (els 0 rs) ls with | some i => .bad i 4 | none => .good rs ls) := HRES
        have HB2 : Hid (Below q w wr) := Lib.hid (HB1.out.trans (HK.out.below (by omega) (by omega) (by omega)))
        obtain ⟨A, cE, rfl⟩ := own_slice HG.out.rE
        obtain ⟨A', cL, rfl⟩ := own_slice HG.out.rL
        have HGR : Hid (GramAt wr (q + 1) q es rs A cE (.slice A' ls.length cL)) := Lib.hid ⟨HG.out.gblk, ElsAt.row HG.out.rE, HG.out.map⟩
        have HLN := Lib.hid (LnsAt.row HG.out.rL)
        have HLE := Lib.hid (And.intro HG.out.len HG.out.le)
        have HES := Lib.hid HG.out.es_
        have HTK := Lib.hid HG.out.tok
        have HND := Lib.hid (And.intro HG.out.nod HG.out.r100)
        obtain ⟨g0, g1, g2⟩ := HGR.out.cells
        clear HC HG HK HP HB1 hPC hL8 hlt HPL HPC
        rw [← HES.out] at HRES
        generalize hM : Ab.missing rs es ls = MM at HRES
        have HM := Lib.hid hM
        have HMM := Lib.hid hM
        have hle := HLE.out.2
        clear hM
        go_wp2_with fail
        obtain ⟨WL, hWL⟩ : ∃ z, z = wr := ⟨_, rfl⟩
        subst hWL
        go_loopw [46, 2] (fun iv v2 wx => v2 = .pointer (some ⟨q + 1, 0, none⟩) ∧ ∃ k : Nat, iv = .int .i64 k ∧ k ≤ es.length ∧ Hid (Ab.missing rs (es.drop k) (ls.drop k) = MM) ∧ Hid (Below WL.heap.size WL wx)) (fun iv _ _ => es.length - (RowKit.intOf iv).toNat)
        case atStart => exact ⟨rfl, 0, rfl, by omega, HM, Lib.hid (Below.refl _ _)⟩
        case round =>
          clear HM g0 g1 g2
          obtain ⟨rfl, k, rfl, hk, HC, HB⟩ := hrel
          have HGX := Lib.hid (HGR.out.below HB.out)
          obtain ⟨g0, g1, g2⟩ := HGX.out.cells
          by_cases hlt : k < es.length
          · obtain ⟨a, ha, hab, hN⟩ := HGR.out.els k hlt
            have hkl : k < ls.length := by have := HLE.out.1; omega
            obtain ⟨a', ha', hab', hL⟩ := HLN.out k hkl
            subst ha ha'
            obtain ⟨c0, c1, c2, c3, c4, c5⟩ := hN.below HB.out (by rw [ab_add_block]; exact hab)
            have cL : wr.cell? (a'.add k) = some (.int .i64 ls[k]) := (HB.out.cell (p := a'.add k) (by rw [ab_add_block]; exact hab')).trans hL
            have hxt : Hid ((es[k]).t.length ≤ 8000) := Lib.hid (by have h1 : (els 0 rs)[k]? = some es[k] := by rw [← HES.out]; exact List.getElem?_eq_getElem hlt
                                                                    exact (Ab.els_ok rs 0 k _ (fun r hr => (HTK.out r hr).1) h1).1)
            have hd : es.drop k = es[k] :: es.drop (k + 1) := List.drop_eq_getElem_cons hlt
            have hdl : ls.drop k = ls[k] :: ls.drop (k + 1) := List.drop_eq_getElem_cons hkl
            rw [hd, hdl] at HC
            generalize es[k] = x at c0 c1 c2 c3 c4 c5 hxt HC hd hN
            generalize ls[k] = y at cL HC hdl hL
            have e1 : decide ((k : Int) < (es.length : Int)) = true := decide_eq_true (by omega)
            have e2 : (k : Int) < es.length := by omega
            have e3 : (0 : Int) ≤ (k : Int) := by omega
            have e4 : (k : Int) < ls.length := by have := HLE.out.1; omega
            have wk0 : IntKind.i64.wrap (k : Int) = (k : Int) := IntWalk.i64_in _ (by omega)
            have wk1 : IntKind.i64.wrap ((k : Int) + 1) = (k : Int) + 1 := IntWalk.i64_in _ (by omega)
            have HLA := Lib.hid hab'
            clear hd hdl hN hL hab hab' hlt hkl
            by_cases h2 : x.k = 2
            · have tk : (x.k == 2) = true := by rw [h2]; rfl
              have HBA : Hid (Below wr.heap.size wr (wr.alloc (.cells (elC x).toArray 45))) := Lib.hid ((Below.refl _ _).alloc (Nat.le_refl _) _)
              have HGA := Lib.hid (HGX.out.below HBA.out)
              have HHX := Lib.hid (has_any x.t (by have := hxt.out; unfold maxLen; omega) HGA.out.cells.2.1 HGA.out.map)
              cases hh : hasR rs x.t
              · replace HC : Hid (MM = some y) := Lib.hid (by rw [← HC.out, Ab.missing, if_pos ⟨h2, hh⟩])
                rw [hh] at HHX
                clear hh h2
                go_wp2_with fail
                refine HHX.out.mono ?_
                rintro e w5 ⟨rfl, rfl⟩
                have cL2 : (wr.alloc (.cells (elC x).toArray 45)).cell? (a'.add k) = some (.int .i64 y) := (HBA.out.cell (p := a'.add k) (by rw [ab_add_block]; exact Nat.lt_of_lt_of_le (HLA.out) HB.out.size)).trans cL
                have HBZ : Hid (Below q w (wr.alloc (.cells (elC x).toArray 45))) := Lib.hid ((HB2.out.trans (HB.out.mono (by have := HB2.out.size; have := HQ.out; omega))).trans (HBA.out.mono (by have := HB2.out.size; have := HQ.out; have := HB.out.size; omega)))
                obtain ⟨d0, d1, d2⟩ := HGA.out.cells
                clear g0 g1 g2 c0 c1 c2 c3 c4 c5 cL
                clear HGA HBA HHX
                generalize wr.alloc (.cells (elC x).toArray 45) = X at cL2 d0 d1 d2 HBZ ⊢
                go_upto_region 17 with (fail)
                go_region
                all_goals
                  go_wp2_with fail
                  exact bodyPost_ret (v := .tuple #[.pointer none, .int .i64 y, .int .i64 4]) (by simp [results, Tryd.results5]) rfl ⟨by rw [HQ.out]; exact HBZ.out.drew, by rw [HRES.out, HC.out]⟩
              · replace HC : Hid (Ab.missing rs (es.drop (k + 1)) (ls.drop (k + 1)) = MM) := Lib.hid (by rw [← HC.out, Ab.missing, if_neg (by rintro ⟨_, h⟩; rw [hh] at h; cases h)])
                rw [hh] at HHX
                clear hh h2
                go_wp2_with fail
                refine HHX.out.mono ?_
                rintro e w5 ⟨rfl, rfl⟩
                go_wp2_with fail
                go_roundw
                case rel => exact ⟨rfl, k + 1, by go_num, by omega, HC, Lib.hid (HB.out.alloc HB.out.size _)⟩
                case measure => simp [RowKit.intOf] <;> omega
            · have tk : (x.k == 2) = false := beq_eq_false_iff_ne.2 h2
              replace HC : Hid (Ab.missing rs (es.drop (k + 1)) (ls.drop (k + 1)) = MM) := Lib.hid (by rw [← HC.out, Ab.missing, if_neg (by rintro ⟨h, _⟩; exact h2 h)])
              clear h2
              go_wp2_with fail
              go_roundw
              case rel => exact ⟨rfl, k + 1, by go_num, by omega, HC, Lib.hid (HB.out.alloc HB.out.size _)⟩
              case measure => simp [RowKit.intOf] <;> omega
          · obtain rfl : k = es.length := by omega
            have e1 : decide ((es.length : Int) < (es.length : Int)) = false := decide_eq_false (by omega)
            rw [List.drop_length] at HC
            have HMN : Hid (RES = .good rs ls → Ab.missing rs es ls = none) := Lib.hid (fun _ => by rw [HMM.out, ← HC.out]; rfl)
            replace HC : Hid (RES = .good rs ls) := Lib.hid (by rw [HRES.out, ← HC.out]; rfl)
            go_wp2_with fail
            refine bodyPost_ret (v := .tuple #[.pointer (some ⟨q + 1, 0, none⟩), .int .i64 0, .int .i64 0]) (by simp [results, Tryd.results5]) rfl ⟨?_, ?_⟩
            · rw [HQ.out]
              exact HB2.out.trans (HB.out.mono (by have := HB2.out.size; have := HQ.out; omega))
            · rw [HC.out]
              exact ⟨q + 1, q, A, cE, _, rfl, (by rw [← HES.out]; exact HGX.out), ⟨HTK.out, HND.out.1, HND.out.2, by rw [← Ab.els_len 0 rs, ← HES.out]; exact HLE.out.2, by rw [← HES.out]; exact Ab.missing_none rs es ls HLE.out.1 (HMN.out (HC.out))⟩⟩
end
end Go.Proofs.YtckcgiimeaklcaaDoor
