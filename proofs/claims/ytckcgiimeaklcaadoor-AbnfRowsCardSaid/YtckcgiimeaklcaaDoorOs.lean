/-
  The table's one; a table with one place more.
-/
import Derived.Test.YtckcgiimeaklcaaDoorOn
import Derived.Test.YtckcgiimeaklcaaDoorOo
import Derived.Test.YtckcgiimeaklcaaDoorOp
import Derived.Test.YtckcgiimeaklcaaDoorOq
import Derived.Test.YtckcgiimeaklcaaDoorOr
namespace Go.Proofs.YtckcgiimeaklcaaDoor
set_option linter.unusedVariables false
set_option linter.unusedSimpArgs false
open Go.RowKit Go.Proofs.YtckcgiimeaklcaaDoorW.PrintWords
open Ab (T El R Rs sz rootI post els root hasR szs Tb TT)
namespace Ab
theorem root_lt (b : B) : ∀ (n : Nat) (rs : Rs) (k : Int), root n rs b = some k → (n : Int) ≤ k ∧ k < n + szs rs
  | n, [], k, h => by cases h
  | n, r :: t, k, h => by
    have h1 := sz_pos r.2
    unfold root at h
    split at h
    · cases h
      unfold rootI szs
      omega
    · have := root_lt b _ t k h
      unfold szs
      omega
theorem miss_congr {tb tb' : Tb} {i : Nat} : ∀ (n : Nat), (∀ k, k < n → tb k i = tb' k i) → miss tb i n = miss tb' i n
  | 0, _ => rfl
  | n + 1, h => by
    unfold miss
    rw [miss_congr n (fun k hk => h k (by omega)), h n (by omega)]
end Ab
/-- What a cell holds, as a number. -/
def natC (v : Option Value) : Nat := match v with
  | some (.int _ x) => x.toNat
  | _ => 0
def tbW (W : World) (gs : Nat → Nat) : Tb := fun k i => ⟨natC (W.cell? ⟨gs k, i * 2, none⟩), natC (W.cell? ⟨gs k, i * 2 + 1, none⟩)⟩
section
variable {w0 W W' : World} {gt gg bm : Nat} {es : List El} {rs : Rs} {A : Option Addr} {c : Nat} {vL : Value} {wd : List UInt8} {tb : Tb} {ge cap : Nat} {gs : Nat → Nat}
theorem TbAt.tbW (h : TbAt w0 W gt gg bm es rs A c vL wd tb ge cap gs) (k : Nat) (hk : k < es.length) (i : Nat) (hi : i ≤ wd.length) : tbW W gs k i = tb k i := by
  obtain ⟨h1, h2⟩ := h.rcell k hk i hi
  unfold Go.Proofs.YtckcgiimeaklcaaDoor.tbW
  rw [h1, h2]
  simp [natC]
theorem TbAt.miss (h : TbAt w0 W gt gg bm es rs A c vL wd tb ge cap gs) (i : Nat) (hi : i ≤ wd.length) : Ab.miss (Go.Proofs.YtckcgiimeaklcaaDoor.tbW W gs) i es.length = Ab.miss tb i es.length := Ab.miss_congr _ (fun k hk => h.tbW k hk i hi)
theorem TbAt.upd (h : TbAt w0 W gt gg bm es rs A c vL wd tb ge cap gs) (k : Nat) (hk : k < es.length) (i : Nat) (hi : i ≤ wd.length) (p : W2) :
    TbAt w0 ((W.setCell ⟨gs k, i * 2, none⟩ (.int .u64 p.a)).setCell ⟨gs k, i * 2 + 1, none⟩ (.int .u64 p.b)) gt gg bm es rs A c vL wd (Ab.upd tb k i p) ge cap gs := by
  obtain ⟨rc, hrc, hrv⟩ := h.row k hk
  obtain ⟨ec, hec, hev⟩ := h.eblk
  have n1 : gt ≠ gs k := blk_ne h.tblk hrc (by decide)
  have n2 : ge ≠ gs k := blk_ne hec hrc (by decide)
  refine ⟨h.gram, (h.bel.setCell (p := ⟨gs k, i * 2, none⟩) (h.rlt k hk) _).setCell (p := ⟨gs k, i * 2 + 1, none⟩) (h.rlt k hk) _, h.lt, blk_far (blk_far h.tblk (p := ⟨gs k, i * 2, none⟩) n1 _) (p := ⟨gs k, i * 2 + 1, none⟩) n1 _, ⟨ec, blk_far (blk_far hec (p := ⟨gs k, i * 2, none⟩) n2 _) (p := ⟨gs k, i * 2 + 1, none⟩) n2 _, hev⟩, ?_, h.rlt, h.inj, h.wl, h.nl⟩
  intro k' hk'
  by_cases e : k' = k
  · subst e
    refine ⟨_, blk_set (blk_set hrc (i * 2) (.int .u64 p.a)) (i * 2 + 1) (.int .u64 p.b), ?_⟩
    intro i' hi'
    have b1 := (hrv i hi).1
    have b2 := (hrv i hi).2
    have l1 : i * 2 < rc.size := (Array.getElem?_eq_some_iff.1 b1).1
    have l2 : i * 2 + 1 < rc.size := (Array.getElem?_eq_some_iff.1 b2).1
    by_cases ei : i' = i
    · subst ei
      rw [Ab.upd_same]
      constructor
      · rw [Array.getElem?_setIfInBounds_ne (by omega), Array.getElem?_setIfInBounds_self_of_lt l1]
      · rw [Array.getElem?_setIfInBounds_self_of_lt (by simpa using l2)]
    · rw [Ab.upd_other (by omega)]
      rw [Array.getElem?_setIfInBounds_ne (by omega), Array.getElem?_setIfInBounds_ne (by omega), Array.getElem?_setIfInBounds_ne (by omega), Array.getElem?_setIfInBounds_ne (by omega)]
      exact hrv i' hi'
  · obtain ⟨rc', hrc', hrv'⟩ := h.row k' hk'
    have n3 : gs k' ≠ gs k := fun e2 => e (h.inj k' k hk' hk e2)
    refine ⟨rc', blk_far (blk_far hrc' (p := ⟨gs k, i * 2, none⟩) n3 _) (p := ⟨gs k, i * 2 + 1, none⟩) n3 _, fun i' hi' => ?_⟩
    rw [Ab.upd_other (by omega)]
    exact hrv' i' hi'
theorem one_any (h : TbAt w0 W gt gg bm es rs A c vL wd tb ge cap gs) (hS : Ab.Sound rs) (hes : es = els 0 rs) (hok : ∀ k i, (tb k i).Ok) (hF : Ab.Fwd wd tb) (x : El) (k i : Nat) (hx : es[k]? = some x) (hk : k < es.length) (hii : i ≤ wd.length) :
    Calls Tryd.prog 19 #[.pointer (some ⟨gt, 0, none⟩), .agg (elC x).toArray, .int .i64 i] W (OutOne W es rs wd tb k i) := by
  have hxo : x.Ok k := by
    have := Ab.els_ok rs 0 k x (fun r hr => (hS.tok r hr).1) (by rw [← hes]; exact hx)
    rwa [Nat.zero_add] at this
  rcases hxo.2 with h0 | h1 | h2 | ⟨h3 | h4, _⟩ | ⟨h5, _⟩
  · exact one_txt h hok hF x k i hx hk hii hxo h0
  · exact one_spn h hok hF x k i hx hk hii hxo h1
  · have hh := hS.has x (by rw [← hes]; exact List.mem_of_getElem? hx) h2
    have hr := Ab.root_has x.t 0 rs
    rw [hh] at hr
    obtain ⟨r, hr⟩ := Option.isSome_iff_exists.1 hr
    have hl := Ab.root_lt x.t 0 rs r hr
    have hlen : es.length = szs rs := by rw [hes, Ab.els_len]
    have e : r = ((r.toNat : Nat) : Int) := by omega
    exact one_nam h hok hF x k i hx hk hii hxo h2 r.toNat (by rw [← e]; exact hr) (by omega)
  · exact one_both h hok hF x k i hx hk hii hxo h3
  · exact one_eith h hok hF x k i hx hk hii hxo h4
  · exact one_oft h hok hF x k i hx hk hii hxo h5
end
end Go.Proofs.YtckcgiimeaklcaaDoor
