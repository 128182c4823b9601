/- What the tied rows of this layer share: what the listed tables give, the world's shape kept, and the reading of arguments. -/
import Derived.Test.YtnkaegdnjfpliaaGreatDoorVread
import Derived.Lib.LaidU8
import Derived.Shelf.Vars
import Derived.Lay
import Derived.LaidMore
import Derived.HandedShaped
import Derived.ProofKit
import Derived.Stop.Joined
namespace Go.Proofs.YtnkaegdnjfpliaaGreatDoor
set_option linter.unusedSimpArgs false
set_option linter.unusedVariables false
open Go.ChangeShapes Go.WideShapes Go.ChangeAt Go.RowKit Go.Joins

/-- The listed tables. -/
def LD : List (String × DataW Unit) := [("math/bits.deBruijn32tab", Rows.laid_math_bits_deBruijn32tab), ("math/bits.deBruijn64tab", Rows.laid_math_bits_deBruijn64tab), ("internal/strconv.uint64pow10", Rows.laid_internal_strconv_uint64pow10), ("unicode/utf8.acceptRanges", Rows.laid_unicode_utf8_acceptRanges), ("unicode/utf8.first", Rows.laid_unicode_utf8_first)]
set_option maxRecDepth 100000 in
theorem first_eq : Rows.laid_unicode_utf8_first = Lib.firstData := by kernel_rfl
set_option maxRecDepth 100000 in
theorem accept_eq : Rows.laid_unicode_utf8_acceptRanges = Lib.acceptData := by kernel_rfl
set_option maxRecDepth 100000 in
theorem pow_eq : Rows.laid_internal_strconv_uint64pow10 (H := Unit) = Lib.tabData .u64 Lib.pow10Tab := by kernel_rfl
theorem varTabs {W : World} (h3 : Lib.VarReads Tryz.prog W "unicode/utf8.first" Lib.firstData) (h4 : Lib.VarReads Tryz.prog W "unicode/utf8.acceptRanges" Lib.acceptData) : Lib.Utf8Tabs 0 1 W := by
  have hc5 : Tryz.prog.cellsOf 5 = 1 := by kernel_rfl
  refine ⟨fun c hc => ?_, fun i hi => ?_⟩
  · obtain ⟨g, t, cs, fuel, p, hg, hty, hvar, hd⟩ := h3
    have eg : g = 0 := Option.some.inj (hg.symm.trans (by kernel_rfl))
    subst eg
    have et : t = 110 := Option.some.inj (hty.symm.trans (by kernel_rfl))
    subst et
    have hcs := Lib.cells_of_tab Tryz.underlying110 Tryz.underlying5 hc5 (by kernel_rfl) hd
    rw [World.var?_cell hg hvar c, ← Array.getElem?_toList, hcs]
    simp [Lib.firstTab, hc]
  · obtain ⟨g, t, cs, fuel, p, hg, hty, hvar, hd⟩ := h4
    have eg : g = 1 := Option.some.inj (hg.symm.trans (by kernel_rfl))
    subst eg
    have et : t = 113 := Option.some.inj (hty.symm.trans (by kernel_rfl))
    subst et
    obtain ⟨fuel', d, q, hdi, he⟩ := Lib.array_elem Tryz.underlying113 hd i hi
    have hc2 : Tryz.prog.cellsOf 112 = 2 := by kernel_rfl
    simp only [List.getElem?_map, List.getElem?_range hi, Option.map_some, Option.some.injEq] at hdi
    subst hdi
    rw [hc2] at he
    have hcs := Lib.ints_of_struct Tryz.underlying112 (k := .u8) (fun j f hj => by
      match j, hj with
      | 0, hj => simp at hj; subst hj; exact ⟨Tryz.underlying5, rfl, hc5⟩
      | 1, hj => simp at hj; subst hj; exact ⟨Tryz.underlying5, rfl, hc5⟩
      | j + 2, hj => simp at hj) (by rw [hc2]; rfl) he
    have e0 := congrArg (·[0]?) hcs
    have e1 := congrArg (·[1]?) hcs
    simp only [List.getElem?_take, List.getElem?_drop] at e0 e1
    constructor
    · rw [World.var?_cell hg hvar (2 * i), ← Array.getElem?_toList]
      simpa [Nat.mul_comm] using e0
    · rw [World.var?_cell hg hvar (2 * i + 1), ← Array.getElem?_toList]
      simpa [Nat.mul_comm] using e1
/-- What the listed tables and the world's shape give. -/
theorem env_of {W : World} (hL : laidMetH Tryz.prog LD W) (hsh : W.ShapedOpen Tryz.prog) : Env W := by
  rw [MakeChecks.laidMetH_plain _ _ _ (by kernel_rfl)] at hL
  have r1 := Lib.laidMet.reads hL (n := "unicode/utf8.first") (d := Rows.laid_unicode_utf8_first) (.tail _ (.tail _ (.tail _ (.tail _ (.head _)))))
  have r2 := Lib.laidMet.reads hL (n := "unicode/utf8.acceptRanges") (d := Rows.laid_unicode_utf8_acceptRanges) (.tail _ (.tail _ (.tail _ (.head _))))
  have r3 := Lib.laidMet.reads hL (n := "internal/strconv.uint64pow10") (d := Rows.laid_internal_strconv_uint64pow10) (.tail _ (.tail _ (.head _)))
  have r4 := Lib.laidMet.reads hL (n := "math/bits.deBruijn64tab") (d := Rows.laid_math_bits_deBruijn64tab) (.tail _ (.head _))
  rw [first_eq] at r1
  rw [accept_eq] at r2
  rw [pow_eq] at r3
  refine ⟨varTabs r1 r2, cell_of_shapedOpen_int (zero := #[.int .i64 0]) (t := 3) hsh (of_decide_eq_true (by kernel_rfl)) (by kernel_rfl) rfl (by kernel_rfl) (by kernel_rfl) Tryz.underlying3, fun w' hb => ?_, ?_⟩
  · obtain ⟨g, t, cs, fuel, p, hg, hty, hvar, hd⟩ := r3
    have eg : g = 3 := Option.some.inj (hg.symm.trans (by kernel_rfl))
    subst eg
    have et : t = 154 := Option.some.inj (hty.symm.trans (by kernel_rfl))
    subst et
    have hcs := Lib.cells_of_tab Tryz.underlying154 Tryz.underlying128 (by kernel_rfl) (by kernel_rfl) hd
    unfold Lib.TabIs
    rw [← hcs]
    have : w'.var? Tryz.prog "internal/strconv.uint64pow10" = W.var? Tryz.prog "internal/strconv.uint64pow10" := by
      unfold World.var?
      rw [hg]
      simp only [Option.bind_some]
      rw [hb.block 3 (by decide)]
    rw [this, hvar]
  · obtain ⟨g, t, cs, fuel, p, hg, hty, hvar, hd⟩ := r4
    have eg : g = 5 := Option.some.inj (hg.symm.trans (by kernel_rfl))
    subst eg
    rcases Nat.lt_or_ge 5 W.heap.size with h | h
    · exact h
    · exfalso
      unfold World.var? at hvar
      rw [hg] at hvar
      have e : W.heap[5]? = none := Array.getElem?_eq_none h
      simp [e] at hvar
set_option maxRecDepth 100000 in
/-- A law over tied tables: the walk is handed the world's shape, the tables and the reach. -/
theorem returns_tied {H : Type} {enc : TypeId × Value → H} {os : Os} {f : FuncId} {fn : Func} {s : ChangeSpec} (started : os.Started) (noInit : Tryz.prog.inits.idxOf? f = none) (hfn : Tryz.prog.funcs[f]? = some fn) (args0 : Array Value)
    (w1 : Input.okWideB Tryz.prog ((World.laidAll Tryz.prog os LD).forCall (fun _ _ => 0) ⟨#[], args0, []⟩) f ⟨#[], args0, []⟩ = true)
    (w2 : s.preB enc Tryz.prog fn [] false ((World.laidAll Tryz.prog os LD).forCall (fun _ _ => 0) ⟨#[], args0, []⟩).memory args0 8 = true)
    (w3 : s.sizedB enc Tryz.prog fn false ((World.laidAll Tryz.prog os LD).forCall (fun _ _ => 0) ⟨#[], args0, []⟩).memory args0 8 = true)
    (w4 : ((World.laidAll Tryz.prog os LD).forCall (fun _ _ => 0) ⟨#[], args0, []⟩).Shaped Tryz.prog)
    (w5 : laidMetH Tryz.prog LD ((World.laidAll Tryz.prog os LD).forCall (fun _ _ => 0) ⟨#[], args0, []⟩).memory)
    (contract : ∀ (W : World) (base : Nat) (args : Array Value) (ds gs : List (DataW H)) (before : List MemPlace),
      (∀ (j : Nat) t v, fn.params[j]? = some t → args[j]? = some v → Value.okWide Tryz.prog W .any base t v) →
      DataW.Whole enc Tryz.prog fn.params.toList s.vars false W args.toList ds gs before →
      (DataW.weightsEach Tryz.prog (fn.params.toList ++ s.plain.varTypes Tryz.prog) (ds ++ gs)).all (· ≤ reachBytes) = true → Env W →
      Calls Tryz.prog f args W fun e W' => ∃ v, e = .returned v ∧ s.post enc Tryz.prog fn false true false false W args v W') :
    ReturnsInHanded {} Tryz.checked os f .any (fun w args => (s.pre enc Tryz.prog fn [] false w args ∧ laidMetH Tryz.prog LD w) ∧ sizedMet enc Tryz.prog fn (OpenSpec.ofChange s) false w args) (s.post enc Tryz.prog fn false true false false) := by
  refine returnsInHanded_of_calls ownT started noInit (ChangeSpec.witness_shaped (C := Tryz.checked) (X := fun w _ => laidMetH Tryz.prog LD w) false (World.laidAll Tryz.prog os LD) args0 8 (World.laidAll_os _ _ _) w4 w1 w2 w3 w5) ?_
  intro w tape i _ hsh _ hok hpre hholds
  obtain ⟨_, _, _, fn', hfn', _, _, _, _, hval⟩ := hok
  have e : fn' = fn := Option.some.inj (hfn'.symm.trans hfn)
  subst e
  obtain ⟨⟨⟨ds, gs, before, hw, hc⟩, hx⟩, hz⟩ := hpre
  have hw' := DataW.Whole.of_heap (w' := w.forCall tape i) (by rfl) hw
  refine (contract (w.forCall tape i) w.heap.size i.args ds gs before hval hw' (hz.weights hw) (env_of (laidMetH.of_heap (by rfl) hx) hsh)).mono fun e W' ⟨v, he, hp⟩ => ?_
  subst he
  exact ChangeSpec.post_blind hp
set_option maxRecDepth 100000 in
/-- The witness's world has its shape and meets the tables. -/
theorem wit_shape (os : Os) (args0 : Array Value) : ((World.laidAll Tryz.prog os LD).forCall (fun _ _ => 0) ⟨#[], args0, []⟩).Shaped Tryz.prog := World.shaped_of_ZipB (by kernel_rfl) (by kernel_rfl)
set_option maxRecDepth 100000 in
theorem wit_laid (os : Os) (args0 : Array Value) : laidMetH Tryz.prog LD ((World.laidAll Tryz.prog os LD).forCall (fun _ _ => 0) ⟨#[], args0, []⟩).memory := by
  rw [MakeChecks.laidMetH_plain _ _ _ (by kernel_rfl)]; exact laidMet_laidAll _ (by kernel_rfl) (by kernel_rfl)
theorem fits_each {H : Type} {t : TypeId} {ts : List TypeId} {d : DataW H} {ds : List (DataW H)} (h : (DataW.weightsEach Tryz.prog (t :: ts) (d :: ds)).all (· ≤ reachBytes) = true) : Fits t d ∧ (DataW.weightsEach Tryz.prog ts ds).all (· ≤ reachBytes) = true := by
  rw [DataW.weightsEach, List.all_append, Bool.and_eq_true] at h
  exact ⟨Fits.of h.1, h.2⟩
theorem fits_one {H : Type} {t : TypeId} {us : List TypeId} {d : DataW H} (h : (DataW.weightsEach Tryz.prog ([t] ++ us) ([d] ++ [])).all (· ≤ reachBytes) = true) : Fits t d := (fits_each h).1
theorem fits_two {H : Type} {t t1 : TypeId} {us : List TypeId} {d d1 : DataW H} (h : (DataW.weightsEach Tryz.prog ([t, t1] ++ us) ([d, d1] ++ [])).all (· ≤ reachBytes) = true) : Fits t d ∧ Fits t1 d1 := ⟨(fits_each h).1, (fits_each (fits_each h).2).1⟩
theorem fits_three {H : Type} {t t1 t2 : TypeId} {us : List TypeId} {d d1 d2 : DataW H} (h : (DataW.weightsEach Tryz.prog ([t, t1, t2] ++ us) ([d, d1, d2] ++ [])).all (· ≤ reachBytes) = true) : Fits t d ∧ Fits t1 d1 ∧ Fits t2 d2 := ⟨(fits_each h).1, (fits_each (fits_each h).2).1, (fits_each (fits_each (fits_each h).2).2).1⟩
end Go.Proofs.YtnkaegdnjfpliaaGreatDoor
