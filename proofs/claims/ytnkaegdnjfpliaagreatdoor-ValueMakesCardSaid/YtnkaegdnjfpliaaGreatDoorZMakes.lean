/- ValueMakes: for every parts the law returns true, and the arguments read as they did. The listed tables of Go's library read as the program's text lays them. -/
import Derived.Test.YtnkaegdnjfpliaaGreatDoorGC
import Derived.Test.YtnkaegdnjfpliaaGreatDoorGA
import Derived.Lib.Hide
import Derived.Test.YtnkaegdnjfpliaaGreatDoorGD
import Derived.Test.YtnkaegdnjfpliaaGreatDoorGE
import Derived.Deep.WholeRow
import Derived.Laws.MakeOwn
import Derived.Test.YtnkaegdnjfpliaaGreatDoorGB
import Derived.Laws.StructEq
import Derived.Test.YtnkaegdnjfpliaaGreatDoorCards
import Derived.Test.YtnkaegdnjfpliaaGreatDoorTie
/-! Rows of values that come in. -/
namespace Go.Proofs.YtnkaegdnjfpliaaGreatDoor
set_option linter.unusedSimpArgs false
set_option linter.unusedVariables false
open Go.ChangeShapes Go.WideShapes Go.ChangeAt Go.RowKit Go.Joins

section
variable {H : Type} {enc : TypeId × Value → H} {w : World} {base : Nat} {held : Bool}
set_option maxRecDepth 100000 in
/-- Values that come in, in a row. -/
theorem vals_of {fuel : Nat} {v0 : Value} {x : DataW H × List MemPlace} (h : DataW.trod enc Tryz.prog w base (fun _ => true) held fuel 24 [v0] = some x) (hf : Fits 24 x.1) :
    ∃ p c l, v0 = .slice p (List.length l) c ∧ LRd w p c l ∧ rngVs l := by
  rcases DataW.trod_slice Tryz.underlying24 h with ⟨hv, _⟩ | ⟨a, len, cap, elems, rest, m, rfl, hv, e5, _, hle, hm, hel, helt, _, _⟩
  · cases hv
    exact ⟨none, 0, [], rfl, ⟨⟨Nat.le_refl _, by simp, fun _ => rfl⟩, fun ad h => by cases h⟩, by simp [rngVs]⟩
  · cases hv
    rw [e5] at hf
    obtain ⟨g1, g2⟩ := fits_slice Tryz.underlying24 hf
    rw [bytes26] at g1
    rw [cells26] at helt
    have hlenE : (elems.map (·.1)).length = len := by simpa using hel
    rw [hlenE] at g1
    obtain ⟨f, hfv⟩ := Go.Deep.choose_lt (n := len) (α := V) (p := fun i v => ∃ cs', w.cells? base (a.add (i * 6)) 6 = some cs' ∧ VRd w v cs'.toArray ∧ rngV v) (fun i hi => by
      have hi2 : i < elems.length := by omega
      have h1 := helt i hi
      rw [List.getElem?_eq_getElem hi2] at h1
      obtain ⟨cs', h2, h3⟩ := Option.bind_eq_some_iff.1 h1
      obtain ⟨v, hv1, hv2⟩ := value_of m cs' elems[i] h3 (g2 _ (List.mem_map.2 ⟨elems[i], List.getElem_mem hi2, rfl⟩))
      exact ⟨v, cs', h2, hv1, hv2⟩)
    have hspot : 0 < len → a.spot = none := fun h0 => by
      obtain ⟨cs', h1, _⟩ := hfv 0 h0
      obtain ⟨_, hcl, hc⟩ := World.cells?_some h1
      have h3 := hc 0 (by omega)
      rw [List.getElem?_eq_getElem (by omega)] at h3
      have := World.cell?_spot h3
      simpa [Addr.add] using this
    have hll : ((List.range len).map f).length = len := by simp
    refine ⟨some a, cap, (List.range len).map f, by rw [hll], ⟨⟨by rw [hll]; exact hle, by rw [hll]; exact ⟨by omega, hm⟩, fun e => by cases e⟩, fun ad had => ?_⟩, rngVs_iff.2 fun v hv => ?_⟩
    · cases had
      refine ⟨fun hne => hspot ?_, fun j v hv => ?_⟩
      · rcases Nat.eq_zero_or_pos len with h0 | h0
        · exact absurd (List.eq_nil_of_length_eq_zero (by rw [hll]; exact h0)) hne
        · exact h0
      · have hj : j < len := by
          have := (List.getElem?_eq_some_iff.1 hv).1
          rwa [hll] at this
        have e : v = f j := by
          have := (List.getElem?_eq_some_iff.1 hv).2
          simpa using this.symm
        subst e
        obtain ⟨cs', h1, h2, _⟩ := hfv j hj
        have hs0 := hspot (by omega)
        obtain ⟨ab, ao, asp⟩ := a
        simp only at hs0
        subst hs0
        obtain ⟨_, hcl, hc⟩ := World.cells?_some h1
        match cs', hcl with
        | [u0, u1, u2, u3, u4, u5], _ =>
          have q0 := hc 0 (by omega)
          have q1 := hc 1 (by omega)
          have q2 := hc 2 (by omega)
          have q3 := hc 3 (by omega)
          have q4 := hc 4 (by omega)
          have q5 := hc 5 (by omega)
          simp only [addr_add, Nat.add_zero] at q0 q1 q2 q3 q4 q5
          exact ⟨_, ⟨u0, u1, u2, u3, u4, u5, rfl, q0, q1, q2, q3, q4, q5⟩, h2⟩
    · obtain ⟨i, hi, rfl⟩ := List.mem_map.1 hv
      obtain ⟨_, _, _, h3⟩ := hfv i (List.mem_range.1 hi)
      exact h3
set_option maxRecDepth 100000 in
/-- Values that come in, at the top. -/
theorem vals_in {r : Reach} {b0 : Nat} {v : Value} {d : DataW H} {p : List MemPlace} (hv : Value.okWide Tryz.prog w r b0 24 v) (h : DataW.Trod enc Tryz.prog w base (fun _ => true) held 24 v d p) (hf : Fits 24 d) :
    ∃ p c l, v = .slice p (List.length l) c ∧ LRd w p c l ∧ rngVs l := by
  obtain ⟨a, len, cap, rfl⟩ := okWide_slice Tryz.underlying24 hv
  obtain ⟨fuel, h⟩ := h
  exact vals_of (by simpa [Value.cells] using h) hf
end
end Go.Proofs.YtnkaegdnjfpliaaGreatDoor

/-! Parts that come in. -/
namespace Go.Proofs.YtnkaegdnjfpliaaGreatDoor
set_option linter.unusedSimpArgs false
set_option linter.unusedVariables false
open Go.ChangeShapes Go.WideShapes Go.ChangeAt Go.RowKit Go.Joins

theorem cells44 : Tryz.prog.cellsOf 44 = 5 := by kernel_rfl
section
variable {H : Type} {enc : TypeId × Value → H} {w : World} {base : Nat} {held : Bool}
set_option maxRecDepth 100000 in
theorem weights_parts {d0 d1 d2 d3 d4 : DataW H} (h : Fits 44 (.agg [d0, d1, d2, d3, d4])) : Fits 9 d2 ∧ Fits 23 d3 ∧ Fits 24 d4 := by
  unfold Fits at h
  rw [DataW.weights, Tryz.underlying44] at h
  simp only [List.map_cons, List.map_nil, DataW.weightsEach, List.append_nil, List.mem_append] at h
  exact ⟨fun n hn => h n (by simp [hn]), fun n hn => h n (by simp [hn]), fun n hn => h n (by simp [hn])⟩
set_option maxRecDepth 100000 in
theorem parts_in {r : Reach} {b0 : Nat} {v : Value} {d : DataW H} {p : List MemPlace} (hv : Value.okWide Tryz.prog w r b0 44 v) (h : DataW.Trod enc Tryz.prog w base (fun _ => true) held 44 v d p) (hf : Fits 44 d) :
    ∃ b n s pk ck ks pl cl l, v = .agg #[.bool b, .int .i64 n, .string (strB s), .slice pk (List.length ks) ck, .slice pl (List.length l) cl] ∧ s.length ≤ 140737488355328 ∧ RdS w pk ck ks ∧ LRd w pl cl l := by
  obtain ⟨cs, rfl, _⟩ := okWide_struct Tryz.underlying44 hv
  obtain ⟨fuel, h⟩ := h
  obtain ⟨xs, n, rfl, hd, hl, hlen, hfl⟩ := DataW.trod_struct Tryz.underlying44 h
  rw [cells44] at hl
  obtain ⟨cl⟩ := cs
  simp only [Value.cells] at hl hfl
  match xs, hlen with
  | [y0, y1, y2, y3, y4], _ =>
    match cl, hl with
    | [c0, c1, c2, c3, c4], _ =>
      have k0 := hfl 0 _ rfl
      have k1 := hfl 1 _ rfl
      have k2 := hfl 2 _ rfl
      have k3 := hfl 3 _ rfl
      have k4 := hfl 4 _ rfl
      simp only [cells4, cells2, cells9, cells23, cells24, List.drop_zero, List.drop_succ_cons, List.take_succ_cons, List.take_zero, List.getElem?_cons_zero, List.getElem?_cons_succ] at k0 k1 k2 k3 k4
      have hd1 := (Prod.mk.inj hd).1
      rw [hd1] at hf
      obtain ⟨w2, w3, w4⟩ := weights_parts hf
      obtain ⟨b, e0, _⟩ := DataW.trod_bool Tryz.underlying4 k0
      obtain ⟨num, e1, _, hw⟩ := DataW.trod_int Tryz.underlying2 k1
      obtain ⟨s, e2, e2', _⟩ := DataW.trod_string Tryz.underlying9 k2
      obtain ⟨pk, ck, ks, rfl, hks⟩ := keys_of k3 w3
      obtain ⟨pl, cl, l, rfl, hll⟩ := vals_of k4 w4
      obtain rfl : c0 = _ := (List.cons.inj e0).1
      obtain rfl : c1 = _ := (List.cons.inj e1).1
      obtain rfl : c2 = _ := (List.cons.inj e2).1
      rw [e2'] at w2
      have ht := fits_string w2
      exact ⟨b, num, s.data.toList, pk, ck, ks, pl, cl, l, by rw [strB_back], by omega, hks, hll.1⟩
end
end Go.Proofs.YtnkaegdnjfpliaaGreatDoor

/-! Bytes in memory, and the smallest functions on them. -/
namespace Go.Proofs.YtnkaegdnjfpliaaGreatDoor
set_option linter.unusedSimpArgs false
set_option linter.unusedVariables false
open Go.RowKit

/-- A byte as a value. -/
def Bv (b : UInt8) : Value := .int .u8 (b.toNat : Int)

/-- A value reads as these bytes: a slice of them. -/
def RdB (w : World) (v : Value) (l : List UInt8) : Prop :=
  ∃ a cap, v = .slice a l.length cap ∧ (l.length ≤ cap ∧ cap ≤ maxLen ∧ (a = none → cap = 0)) ∧ (∀ ad, a = some ad → (l ≠ [] → ad.spot = none) ∧ ∀ i b, l[i]? = some b → w.cell? ⟨ad.block, ad.off + i, none⟩ = some (.int .u8 (b.toNat : Int)))

theorem RdB.below {w w' : World} {v : Value} {l : List UInt8} (h : RdB w v l) (hb : Below w.heap.size w w') : RdB w' v l := by
  obtain ⟨a, cap, rfl, h1, h2⟩ := h
  refine ⟨a, cap, rfl, h1, fun ad had => ⟨(h2 ad had).1, fun i b hi => ?_⟩⟩
  have h3 := (h2 ad had).2 i b hi
  exact (hb.cell (p := ⟨ad.block, ad.off + i, none⟩) (World.block_lt_of_cell? w _ h3)).trans h3

theorem RdB.at {w : World} {ad : Addr} {n c : Nat} {l : List UInt8} (h : RdB w (.slice (some ad) n c) l) (i : Nat) (b : UInt8) (hi : l[i]? = some b) : w.cell? (ad.add i) = some (.int .u8 (b.toNat : Int)) := by
  obtain ⟨a', cap, heq, h1, h2⟩ := h
  cases heq
  have hs := (h2 ad rfl).1 (fun e => by rw [e] at hi; simp at hi)
  have hc := (h2 ad rfl).2 i b hi
  obtain ⟨x, o, sp⟩ := ad
  simp only at hs; subst hs
  have ha : (⟨x, o, none⟩ : Addr).add i = ⟨x, o + i, none⟩ := by unfold Addr.add; split <;> simp_all
  rw [ha]; exact hc
/-! Pieces of slices and strings, as run equations. -/
section
variable {P : Program} {t e : TypeId} {s : Nat}
theorem run_slice_gen (ht : P.underlying t = some (.slice e)) (hs : ∀ w, (sizeOf e).run P w = .ok s w) (a : Option Addr) (len cap : Nat) (lo hi : Option Int) (l h : Nat)
    (hlo : ∀ i, lo = some i → i = (l : Int)) (hlo' : lo = none → l = 0) (hhi : ∀ i, hi = some i → i = (h : Int)) (hhi' : hi = none → h = len) (h1 : l ≤ h) (h2 : h ≤ cap) (W : World) :
    (Instr.slice t (.slice a len cap) (lo.map (.int .i64)) (hi.map (.int .i64)) none).run P W = .ok (.slice (if cap = l then a else a.map (·.add (l * s))) (h - l) (cap - l)) W := by
  have hb : (Instr.sliceBounds true len cap (lo.map (.int .i64)) (hi.map (.int .i64)) none).run P W = .ok (l, h, cap) W := by
    have e1 : ∀ (x y : Nat) (code : BoundsCode), x ≤ y → (Instr.sliceBound (.int .i64 (x : Int)) y code).run P W = .ok x W := fun x y code hxy => by
      simp [Instr.sliceBound, asIntOf, Sem.run_bind, hxy]
    cases lo with
    | none =>
      obtain rfl := hlo' rfl
      cases hi with
      | none => obtain rfl := hhi' rfl; simp [Instr.sliceBounds]
      | some i => obtain rfl := hhi i rfl; simp [Instr.sliceBounds, Sem.run_bind, e1 h cap _ h2]
    | some j =>
      obtain rfl := hlo j rfl
      cases hi with
      | none => obtain rfl := hhi' rfl; simp [Instr.sliceBounds, Sem.run_bind, e1 l h _ h1]
      | some i => obtain rfl := hhi i rfl; simp [Instr.sliceBounds, Sem.run_bind, e1 h cap _ h2, e1 l h _ h1]
  simp only [Instr.slice, Sem.run_bind, run_underlying ht, Result.andThen_ok, hb, hs, Sem.run_pure]
theorem run_sliceAt_gen (ht : P.underlying t = some (.slice e)) (x : Value) (lo hi mx : Option Value) (W : World) : (Instr.sliceAt t x lo hi mx).run P W = (Instr.slice t x lo hi mx).run P W := by
  simp [Instr.sliceAt, run_underlying ht]
end

/-- What slices.Backward hands out. -/
def backs (l : List UInt8) (k : Nat) : List (UInt8 × Nat) := (List.range k).map fun j => (l.getD (l.length - 1 - j) 0, l.length - 1 - j)
theorem backs_succ (l : List UInt8) (k : Nat) : backs l (k + 1) = backs l k ++ [(l.getD (l.length - 1 - k) 0, l.length - 1 - k)] := by simp [backs, List.range_succ]

theorem u8_lt (b : UInt8) : (b.toNat : Int) < 256 := by have := b.toNat_lt; omega

attribute [local go_sem] Oper.semAt_some

/-- A number out of bytes, the lowest first. -/
def leNat (l : List UInt8) : Nat := l.foldr (fun b n => b.toNat + 256 * n) 0
theorem leNat_lt (l : List UInt8) : leNat l < 256 ^ l.length := by
  induction l with
  | nil => simp [leNat]
  | cons b l ih =>
    have := b.toNat_lt
    simp only [leNat, List.foldr_cons, List.length_cons, Nat.pow_succ] at *
    omega
theorem leNat_drop (l : List UInt8) (k : Nat) (hk : k < l.length) : leNat (l.drop (l.length - (k + 1))) = (l.getD (l.length - 1 - k) 0).toNat + 256 * leNat (l.drop (l.length - k)) := by
  have h1 : l.length - (k + 1) < l.length := by omega
  rw [List.drop_eq_getElem_cons h1]
  have h2 : l.length - (k + 1) + 1 = l.length - k := by omega
  have h3 : l.length - 1 - k = l.length - (k + 1) := by omega
  simp [leNat, h2, h3, h1]

theorem or_step (A b : Nat) (hA : 256 * A + b < 18446744073709551616) (hb : b < 256) :
    bits .or .u64 (IntKind.u64.wrap ((A : Int) * 256)) (IntKind.u64.wrap (b : Int)) = ((b + 256 * A : Nat) : Int) := by
  have w1 : IntKind.u64.wrap ((A : Int) * 256) = ((A * 256 : Nat) : Int) := by simp [IntKind.wrap, IntKind.signed, IntKind.bits]; omega
  have w2 : IntKind.u64.wrap (b : Int) = (b : Int) := by simp [IntKind.wrap, IntKind.signed, IntKind.bits]; omega
  rw [w1, w2, bits_or_u64_nat _ _ (by omega) (by omega)]
  have h := Nat.two_pow_add_eq_or_of_lt (i := 8) (b := b) (by simpa using hb) A
  have h2 : 2 ^ 8 * A = A * 256 := by omega
  rw [h2] at h
  rw [← h]; congr 1; omega

end Go.Proofs.YtnkaegdnjfpliaaGreatDoor

/-! Rows of one's own whose values lie below, and pieces of them appended to others (the document's Map). -/
namespace Go.Proofs.YtnkaegdnjfpliaaGreatDoor
set_option linter.unusedSimpArgs false
set_option linter.unusedVariables false
open Go.RowKit

/-- A row of one's own from block n0 on, of values that were readable at w. -/
def RowV (w : World) (n0 : Nat) (W : World) (v : Value) (l : List V) : Prop := ∃ xs, OwnsP W (fun b => n0 ≤ b) 26 6 v l.length (xs.flatMap Array.toList) ∧ VRs w l xs
/-- A piece of such a row, or of one that came in. -/
def PieceV (w W : World) (p : Option Addr) (m : List V) : Prop := (p = none → m = []) ∧ ∃ ys, VRs w m ys ∧ ∀ ad, p = some ad → ∀ (j : Nat) (u : Value), (ys.flatMap Array.toList)[j]? = some u → W.cell? (ad.add j) = some u
theorem RowV.start (w : World) (n0 : Nat) (W : World) : RowV w n0 W (.slice none 0 0) [] := ⟨[], ⟨⟨rfl, .inl ⟨rfl, rfl⟩⟩, fun g hg => by simp [Value.ownBlock] at hg⟩, VRs.nil w⟩
theorem RowV.below {w W W' : World} {n0 : Nat} {v : Value} {l : List V} (h : RowV w n0 W v l) (g : Below W.heap.size W W') : RowV w n0 W' v l := by
  obtain ⟨xs, h1, h2⟩ := h
  exact ⟨xs, h1.keep fun b _ hb => g.block b hb, h2⟩
theorem RowV.mono {w W : World} {n0 n1 : Nat} {v : Value} {l : List V} (h : RowV w n0 W v l) (g : n1 ≤ n0) : RowV w n1 W v l := by
  obtain ⟨xs, h1, h2⟩ := h
  exact ⟨xs, h1.imp fun b _ hb => Nat.le_trans g hb, h2⟩
theorem RowV.slice {w W : World} {n0 : Nat} {v : Value} {l : List V} (h : RowV w n0 W v l) : ∃ p c, v = .slice p l.length c := by obtain ⟨_, h, _⟩ := h; exact slices_of h
theorem RowV.rd {w W : World} {n0 : Nat} {v : Value} {l : List V} (h : RowV w n0 W v l) (h0 : w.heap.size ≤ n0) (hb : Below w.heap.size w W) (hn : l.length ≤ 1000000) : ∃ p c, v = .slice p l.length c ∧ LRd W p c l := by
  obtain ⟨xs, h1, h2⟩ := h
  exact AInv.rd (w := w) ⟨xs, h1.imp fun b _ hb => Nat.le_trans h0 hb, h2, hb⟩ hn
theorem VRs.six6 {w : World} {l : List V} {xs : List (Array Value)} (h : VRs w l xs) : ∀ x ∈ xs, x.size = 6 := fun x hx => by obtain ⟨v, hv⟩ := h.six x hx; exact hv.size6
/-- A piece is appended. -/
theorem RowV.step {w W : World} {n0 : Nat} {v : Value} {l m : List V} {p : Option Addr} {c : Nat} (h : RowV w n0 W v l) (hm : PieceV w W p m) (h0 : n0 ≤ W.heap.size) (hn : l.length + m.length ≤ 1000000) (hc : p = none → c = 0) (ty : TypeId) :
    ∃ v' W', (Builtin.append_ #[24, 24] ty #[v, .slice p m.length c]).run Tryz.prog W = .ok v' W' ∧ RowV w n0 W' v' (l ++ m) ∧ Below n0 W W' := by
  obtain ⟨xs, h1, h2⟩ := h
  obtain ⟨i, i1, i2, i3, i4⟩ := info_val
  obtain ⟨hnil, ys, hy, hcell⟩ := hm
  have hy6 := hy.six6
  cases p with
  | none =>
    have hl := hnil rfl
    subst hl
    have hc0 := hc rfl
    subst hc0
    refine ⟨v, W, append_law_nil (P := Tryz.prog) (w := W) 24 ty 26 i 6 Tryz.underlying24 i1 i3 v l.length _ h1.1, ?_, Below.refl _ _⟩
    rw [List.append_nil]
    exact ⟨xs, h1, h2⟩
  | some ad =>
    obtain ⟨v', W2, a1, a2, a3, a4, a5⟩ := append_law (P := Tryz.prog) (w := W) 24 ty 26 i _ 6 88 Tryz.underlying24 i1 i2 i3 i4 rfl v l.length _ h1.1 ad m.length c (ys.flatMap Array.toList)
      (by rw [flatA_len hy6, hy.1]) (fun j u hu => hcell ad rfl j u hu) (fun u hu => by
        obtain ⟨x, hx, hu⟩ := List.mem_flatMap.1 hu
        obtain ⟨v, hv⟩ := hy.six x hx
        exact hv.ones u hu) (by unfold maxLen; omega) (by omega)
    refine ⟨v', W2, a1, ⟨xs ++ ys, ⟨?_, fun g hg => ?_⟩, h2.append hy⟩, a3.toBelow h0 (fun b hb e => by have := h1.2 b e; omega)⟩
    · rw [List.flatMap_append, List.length_append]; exact a2
    · rcases a4 with e | e
      · exact h1.2 g (e.symm.trans hg)
      · rw [e] at hg; cases hg; exact h0
/-- One value out of a box. -/
theorem PieceV.one {w W : World} {v : V} {x : Array Value} {g : Nat} (hv : VRd w v x) (hg : W.heap[g]? = some (.cells x 26 (0, 0))) : PieceV w W (some ⟨g, 0, none⟩) [v] := by
  refine ⟨(fun h => by cases h), [x], ⟨rfl, fun j u hu => ?_⟩, fun ad had j u hu => ?_⟩
  · cases j with
    | zero => obtain rfl : v = u := by simpa using hu
              exact ⟨x, rfl, hv⟩
    | succ j => simp at hu
  · cases had
    rw [addr_add, Nat.zero_add]
    exact cellOf (o := j) hg (by simpa using hu)
theorem flat_take {xs : List (Array Value)} (h6 : ∀ x ∈ xs, x.size = 6) (m : Nat) : (xs.take m).flatMap Array.toList = (xs.flatMap Array.toList).take (m * 6) := by
  induction xs generalizing m with
  | nil => simp
  | cons a r ih =>
    cases m with
    | zero => simp
    | succ m =>
      have ha := h6 a (by simp)
      rw [List.take_succ_cons, List.flatMap_cons, List.flatMap_cons, ih (fun x hx => h6 x (by simp [hx])), List.take_append]
      have hl : a.toList.length = 6 := by simpa using ha
      rw [hl, List.take_of_length_le (l := a.toList) (by omega), show (m + 1) * 6 - 6 = m * 6 by omega]
theorem flat_drop {xs : List (Array Value)} (h6 : ∀ x ∈ xs, x.size = 6) (m : Nat) : (xs.drop m).flatMap Array.toList = (xs.flatMap Array.toList).drop (m * 6) := by
  induction xs generalizing m with
  | nil => simp
  | cons a r ih =>
    cases m with
    | zero => simp
    | succ m =>
      have ha := h6 a (by simp)
      rw [List.drop_succ_cons, List.flatMap_cons, ih (fun x hx => h6 x (by simp [hx])), List.drop_append]
      have hl : a.toList.length = 6 := by simpa using ha
      rw [hl, List.drop_of_length_le (l := a.toList) (by omega), show (m + 1) * 6 - 6 = m * 6 by omega, List.nil_append]
theorem VRs.take {w : World} {l : List V} {xs : List (Array Value)} (h : VRs w l xs) (m : Nat) : VRs w (l.take m) (xs.take m) := by
  refine ⟨by simp [h.1], fun j v hv => ?_⟩
  rw [List.getElem?_take] at hv ⊢
  by_cases hj : j < m
  · rw [if_pos hj] at hv ⊢; exact h.2 j v hv
  · rw [if_neg hj] at hv; cases hv
theorem VRs.drop {w : World} {l : List V} {xs : List (Array Value)} (h : VRs w l xs) (m : Nat) : VRs w (l.drop m) (xs.drop m) := by
  refine ⟨by simp [h.1], fun j v hv => ?_⟩
  rw [List.getElem?_drop] at hv ⊢
  exact h.2 _ v hv
/-- The first m values of such a row. -/
theorem RowV.low {w W : World} {n0 : Nat} {v : Value} {l : List V} (h : RowV w n0 W v l) {m : Nat} (hm : m ≤ l.length) : ∃ p c, (∀ W, (Instr.slice 24 v none (some (.int .i64 (m : Int))) none).run Tryz.prog W = .ok (.slice p m c) W) ∧ PieceV w W p (l.take m) ∧ (p = none → c = 0) := by
  obtain ⟨xs, h1, h2⟩ := h
  have h6 := h2.six6
  rcases h1.1.2 with ⟨rfl, h0⟩ | ⟨g, cap, cur, rfl, _, hg, hnc, hcm, _⟩
  · obtain rfl : m = 0 := by omega
    have e : l = [] := List.eq_nil_of_length_eq_zero h0
    subst e
    exact ⟨none, 0, fun W => by simp [go_sem], ⟨fun _ => rfl, [], VRs.nil w, fun ad h => by cases h⟩, fun _ => rfl⟩
  · have hc := fun j u => h1.1.cells (g := g) rfl j u
    refine ⟨some ⟨g, 0, none⟩, cap, fun W => ?_, ⟨(fun h => by cases h), xs.take m, h2.take m, fun ad had j u hu => ?_⟩, (fun h => by cases h)⟩
    · have h1 : (m : Int) ≤ cap := by omega
      simp [go_sem, h1, addr_add]
    · cases had
      rw [flat_take h6, List.getElem?_take] at hu
      by_cases hj : j < m * 6
      · rw [if_pos hj] at hu
        have := hc j u hu
        simpa [addr_add] using this
      · rw [if_neg hj] at hu; cases hu
/-- The values from place m on. -/
theorem RowV.high {w W : World} {n0 : Nat} {v : Value} {l : List V} (h : RowV w n0 W v l) {m : Nat} (hm : m ≤ l.length) : ∃ p c, (∀ W, (Instr.slice 24 v (some (.int .i64 (m : Int))) none none).run Tryz.prog W = .ok (.slice p (l.length - m) c) W) ∧ PieceV w W p (l.drop m) ∧ (p = none → c = 0) := by
  obtain ⟨xs, h1, h2⟩ := h
  have h6 := h2.six6
  rcases h1.1.2 with ⟨rfl, h0⟩ | ⟨g, cap, cur, rfl, _, hg, hnc, hcm, _⟩
  · obtain rfl : m = 0 := by omega
    have e : l = [] := List.eq_nil_of_length_eq_zero h0
    subst e
    exact ⟨none, 0, fun W => by simp [go_sem], ⟨fun _ => rfl, [], VRs.nil w, fun ad h => by cases h⟩, fun _ => rfl⟩
  · have hc := fun j u => h1.1.cells (g := g) rfl j u
    refine ⟨_, _, fun W => run_slice_gen (s := 6) Tryz.underlying24 (fun w => by simp [go_sem]) (some ⟨g, 0, none⟩) l.length cap (some (m : Int)) none m l.length (fun i h => by cases h; rfl) (fun h => by cases h) (fun i h => by cases h) (fun _ => rfl) hm hnc W, ?_, ?_⟩
    · refine ⟨fun h => ?_, xs.drop m, h2.drop m, fun ad had j u hu => ?_⟩
      · split at h <;> cases h
      · rw [flat_drop h6, List.getElem?_drop] at hu
        have := hc _ u hu
        have hne : ¬ cap = m := by
          intro e
          have hlen := (List.getElem?_eq_some_iff.1 hu).1
          rw [flatA_len h6, h2.1] at hlen
          omega
        rw [if_neg hne] at had
        cases had
        simpa [addr_add] using this
    · intro h; split at h <;> cases h
/-- The first m keys of a row of one's own. -/
theorem keys_low {W : World} {P : Nat → Prop} {v : Value} {l : List (List UInt8)} (h : OwnsP W P 9 1 v l.length (l.map strV)) (h1 : l.length ≤ 140737488355328) (h2 : ∀ s ∈ l, s.length ≤ 140737488355328) {m : Nat} (hm : m ≤ l.length) : ∃ p c, (∀ W, (Instr.slice 23 v none (some (.int .i64 (m : Int))) none).run Tryz.prog W = .ok (.slice p (l.take m).length c) W) ∧ RdS W p c (l.take m) := by
  have hlt : (l.take m).length = m := by simp; omega
  rcases h.1.2 with ⟨rfl, h0⟩ | ⟨g, cap, cur, rfl, _, hg, hnc, hcm, _⟩
  · obtain rfl : m = 0 := by omega
    exact ⟨none, 0, fun W => by simp [go_sem], by simp, by simp, fun _ => rfl, by simp, fun ad h => by cases h⟩
  · have hc := fun j u => h.1.cells (g := g) rfl j u
    unfold maxLen at hcm
    refine ⟨some ⟨g, 0, none⟩, cap, fun W => ?_, by omega, by omega, (fun h => by cases h), fun s hs => h2 s (List.mem_of_mem_take hs), fun ad had => ?_⟩
    · rw [hlt]
      have h1 : (m : Int) ≤ cap := by omega
      simp [go_sem, h1, addr_add]
    · cases had
      refine ⟨fun _ => rfl, fun i s hs => ?_⟩
      rw [List.getElem?_take] at hs
      by_cases hi : i < m
      · rw [if_pos hi] at hs
        have := hc i (strV s) (by simp [hs])
        rw [addr_add] at this
        simpa [strV] using this
      · rw [if_neg hi] at hs; cases hs
/-- The keys from place m on. -/
theorem keys_high {W : World} {P : Nat → Prop} {v : Value} {l : List (List UInt8)} (h : OwnsP W P 9 1 v l.length (l.map strV)) (h1 : l.length ≤ 140737488355328) (h2 : ∀ s ∈ l, s.length ≤ 140737488355328) {m : Nat} (hm : m ≤ l.length) : ∃ p c, (∀ W, (Instr.slice 23 v (some (.int .i64 (m : Int))) none none).run Tryz.prog W = .ok (.slice p (l.drop m).length c) W) ∧ RdS W p c (l.drop m) := by
  have hlt : (l.drop m).length = l.length - m := by simp
  rcases h.1.2 with ⟨rfl, h0⟩ | ⟨g, cap, cur, rfl, _, hg, hnc, hcm, _⟩
  · obtain rfl : m = 0 := by omega
    have e : l = [] := List.eq_nil_of_length_eq_zero h0
    subst e
    exact ⟨none, 0, fun W => by simp [go_sem], by simp, by simp, fun _ => rfl, by simp, fun ad h => by cases h⟩
  · have hc := fun j u => h.1.cells (g := g) rfl j u
    unfold maxLen at hcm
    refine ⟨_, _, fun W => (run_slice_gen (s := 1) Tryz.underlying23 (fun w => by simp [go_sem]) (some ⟨g, 0, none⟩) l.length cap (some (m : Int)) none m l.length (fun i h => by cases h; rfl) (fun h => by cases h) (fun i h => by cases h) (fun _ => rfl) hm hnc W).trans (by rw [hlt]), by omega, by omega, (fun h => by split at h <;> cases h), fun s hs => h2 s (List.mem_of_mem_drop hs), fun ad had => ?_⟩
    refine ⟨fun hne => ?_, fun i s hs => ?_⟩
    · split at had
      · cases had; rfl
      · cases had
        show ((⟨g, 0, none⟩ : Addr).add (m * 1)).spot = none
        rw [addr_add]
    · rw [List.getElem?_drop] at hs
      have hlen := (List.getElem?_eq_some_iff.1 hs).1
      rw [if_neg (by omega)] at had
      cases had
      have := hc (m + i) (strV s) (by simp [hs])
      rw [addr_add] at this
      simpa [strV, addr_add] using this
/-- A piece of keys is appended. -/
theorem keys_step {W : World} {n0 : Nat} {v : Value} {l m : List (List UInt8)} {p : Option Addr} {c : Nat} (h : OwnsP W (fun b => n0 ≤ b) 9 1 v l.length (l.map strV)) (hm : RdS W p c m) (hn : l.length + m.length ≤ 1000000) (h0 : n0 ≤ W.heap.size) (ty : TypeId) :
    ∃ v' W', (Builtin.append_ #[23, 23] ty #[v, .slice p m.length c]).run Tryz.prog W = .ok v' W' ∧ OwnsP W' (fun b => n0 ≤ b) 9 1 v' (l ++ m).length ((l ++ m).map strV) ∧ Below n0 W W' := by
  obtain ⟨v', W', a1, a2, a3, a4, a5⟩ := append_keys (w := W) h hm hn h0 ty
  exact ⟨v', W', a1, a2, a3.toBelow h0 (fun b hb e => by have := h.2 b e; omega)⟩
theorem keys_nil (W : World) (P : Nat → Prop) : OwnsP W P 9 1 (.slice none 0 0) ([] : List (List UInt8)).length (([] : List (List UInt8)).map strV) := ⟨⟨rfl, .inl ⟨rfl, rfl⟩⟩, fun g hg => by simp [Value.ownBlock] at hg⟩
end Go.Proofs.YtnkaegdnjfpliaaGreatDoor

/-! The document's Map, the plain part: rows of rising keys are told by what is in them; one key is set in. -/
namespace Go.Proofs.YtnkaegdnjfpliaaGreatDoor
set_option linter.unusedSimpArgs false
set_option linter.unusedVariables false
open Go.RowKit

theorem ltB_iff {a b : List UInt8} : ltB a b = true ↔ cmpB a b = -1 := by unfold ltB; exact beq_iff_eq
theorem ltB_trans {a b c : List UInt8} (h : ltB a b = true) (g : ltB b c = true) : ltB a c = true := by
  rw [ltB_iff] at *
  exact (ord_cmpB a).chain b c h (by rw [g]; decide)
theorem ltB_irrefl {a : List UInt8} : ltB a a = false := by
  unfold ltB; rw [cmpB_self]; rfl
theorem ltB_asymm {a b : List UInt8} (h : ltB a b = true) : ltB b a = false := by
  cases g : ltB b a with
  | false => rfl
  | true => have := ltB_trans h g; rw [ltB_irrefl] at this; exact this.symm
theorem ltB_total {a b : List UInt8} (h : ltB a b = false) (hne : a ≠ b) : ltB b a = true := by
  have h1 := (ord_cmpB a).range b
  have h2 := (ord_cmpB a).anti b
  have h3 : cmpB a b ≠ 0 := fun e => hne (cmpB_zero e)
  have h4 : cmpB a b ≠ -1 := fun e => by rw [ltB_iff.2 e] at h; cases h
  rw [ltB_iff]; omega
theorem rises_pair : ∀ l : List (List UInt8), risesB l = true ↔ l.Pairwise (fun a b => ltB a b = true)
  | [] => by simp [risesB]
  | [a] => by simp [risesB]
  | a :: b :: r => by
    rw [risesB, Bool.and_eq_true, rises_pair (b :: r), List.pairwise_cons (a := a)]
    refine ⟨fun ⟨h1, h2⟩ => ⟨fun c hc => ?_, h2⟩, fun ⟨h1, h2⟩ => ⟨h1 b (by simp), h2⟩⟩
    rcases List.mem_cons.1 hc with rfl | hc
    · exact h1
    · exact ltB_trans h1 ((List.pairwise_cons.1 h2).1 c hc)
/-- Two orders in which the same keys rise are one. -/
theorem rises_one {f : Nat → List UInt8} : ∀ {p q : List Nat}, p.Perm q → (p.map f).Pairwise (fun a b => ltB a b = true) → (q.map f).Pairwise (fun a b => ltB a b = true) → p = q
  | [], q, h, _, _ => (List.nil_perm.1 h).symm
  | a :: p, [], h, _, _ => by have := h.length_eq; simp at this
  | a :: p, b :: q, h, h1, h2 => by
    rw [List.map_cons, List.pairwise_cons] at h1 h2
    have hab : a = b := by
      by_cases e : a = b
      · exact e
      · have ha : a ∈ q := by
          have := h.mem_iff.1 (List.mem_cons_self (a := a) (l := p))
          rcases List.mem_cons.1 this with c | c
          · exact absurd c e
          · exact c
        have hb : b ∈ p := by
          have := h.mem_iff.2 (List.mem_cons_self (a := b) (l := q))
          rcases List.mem_cons.1 this with c | c
          · exact absurd c.symm e
          · exact c
        have k1 := h1.1 (f b) (List.mem_map_of_mem hb)
        have k2 := h2.1 (f a) (List.mem_map_of_mem ha)
        rw [ltB_asymm k1] at k2; cases k2
    subst hab
    rw [rises_one (List.Perm.cons_inv h) h1.2 h2.2]
/-- What the document's Map has behind j keys: the order of those. -/
structure Ins (ks : List (List UInt8)) (j : Nat) (q : List Nat) : Prop where
  perm : q.Perm (List.range j)
  rise : (q.map fun i => ks.getD i []).Pairwise (fun a b => ltB a b = true)
theorem Ins.start (ks : List (List UInt8)) : Ins ks 0 [] := ⟨.refl _, by simp⟩
theorem Ins.len {ks : List (List UInt8)} {j : Nat} {q : List Nat} (h : Ins ks j q) : q.length = j := by have := h.perm.length_eq; simpa using this
/-- One more is set in at place m. -/
theorem Ins.step {ks : List (List UInt8)} {j : Nat} {q : List Nat} (h : Ins ks j q) {m : Nat} (hm : m ≤ j) (hlo : ∀ i a, i < m → q[i]? = some a → ltB (ks.getD a []) (ks.getD j []) = true)
    (hhi : ∀ a, q[m]? = some a → ltB (ks.getD a []) (ks.getD j []) = false ∧ ks.getD a [] ≠ ks.getD j []) : Ins ks (j + 1) (q.take m ++ j :: q.drop m) := by
  refine ⟨?_, ?_⟩
  · rw [List.range_succ]
    refine (List.perm_middle).trans ?_
    rw [List.take_append_drop]
    refine (List.Perm.cons j h.perm).trans ?_
    exact (List.perm_append_singleton j (List.range j)).symm
  · have hp := h.rise
    have hlen := h.len
    rw [← List.take_append_drop m q, List.map_append] at hp
    obtain ⟨p1, p2, p3⟩ := List.pairwise_append.1 hp
    rw [List.map_append, List.map_cons]
    have hlow : ∀ s ∈ (q.take m).map fun i => ks.getD i [], ltB s (ks.getD j []) = true := by
      intro s hs
      obtain ⟨a, ha, rfl⟩ := List.mem_map.1 hs
      obtain ⟨i, hi, e⟩ := List.getElem_of_mem ha
      have hi' : i < m := by rw [List.length_take] at hi; omega
      refine hlo i a hi' ?_
      rw [← e, List.getElem_take]
      exact List.getElem?_eq_getElem _
    have hhigh : ∀ s ∈ (q.drop m).map fun i => ks.getD i [], ltB (ks.getD j []) s = true := by
      intro s hs
      cases hd : q.drop m with
      | nil => rw [hd] at hs; simp at hs
      | cons b r =>
        have hb : q[m]? = some b := by
          have := congrArg (fun l => l[0]?) hd
          simpa using this
        have hb2 := hhi b hb
        have hb3 := ltB_total hb2.1 hb2.2
        rw [hd] at hs p2
        rw [List.map_cons] at hs p2
        rcases List.mem_cons.1 hs with rfl | hs
        · exact hb3
        · exact ltB_trans hb3 ((List.pairwise_cons.1 p2).1 s hs)
    refine List.pairwise_append.2 ⟨p1, List.pairwise_cons.2 ⟨hhigh, p2⟩, fun a ha b hb => ?_⟩
    rcases List.mem_cons.1 hb with rfl | hb
    · exact hlow a ha
    · exact p3 a ha b hb
/-- The same key is there. -/
theorem Ins.twice {ks : List (List UInt8)} {j : Nat} {q : List Nat} (h : Ins ks j q) (hj : j < ks.length) {m a : Nat} (ha : q[m]? = some a) (he : ks.getD a [] = ks.getD j []) : ¬ ks.Nodup := by
  intro hd
  have hq : a ∈ q := List.mem_of_getElem? ha
  have haj : a < j := List.mem_range.1 (h.perm.mem_iff.1 hq)
  have h1 : a < ks.length := by omega
  have g1 : ks.getD a [] = ks[a] := by simp [List.getD, h1]
  have g2 : ks.getD j [] = ks[j] := by simp [List.getD, hj]
  rw [g1, g2] at he
  exact List.pairwise_iff_getElem.1 hd a j h1 hj haj he
theorem Ins.nodup {ks : List (List UInt8)} {q : List Nat} (h : Ins ks ks.length q) : ks.Nodup := by
  have hm : (ks.map id).Perm (q.map fun i => ks.getD i []) := by
    have e : ks.map id = (List.range ks.length).map fun i => ks.getD i [] := by
      apply List.ext_getElem (by simp)
      intro i h1 h2
      have : i < ks.length := by simpa using h1
      simp [List.getD, this]
    rw [e]
    exact (h.perm.map _).symm
  rw [List.map_id] at hm
  refine hm.nodup_iff.2 (h.rise.imp fun {a b} hab e => ?_)
  subst e
  rw [ltB_irrefl] at hab; cases hab
end Go.Proofs.YtnkaegdnjfpliaaGreatDoor

/-! Less of two strings, and their sameness, as the program asks it. -/
namespace Go.Proofs.YtnkaegdnjfpliaaGreatDoor
open Go.RowKit
theorem bytesLess_ltB : ∀ a b : List UInt8, Op.bytesLess a b = ltB a b
  | [], [] => rfl
  | _ :: _, [] => rfl
  | [], _ :: _ => rfl
  | x :: a, y :: b => by
    rw [Op.bytesLess, bytesLess_ltB a b]
    unfold ltB cmpB
    rw [cmpL]
    rcases cmpI_cases (x.toNat : Int) (y.toNat : Int) with ⟨h, e⟩ | ⟨h, e⟩ | ⟨h, e⟩
    · have h1 : x < y := UInt8.lt_iff_toNat_lt.2 (by omega)
      rw [e]; simp [h1]
    · have h1 : x = y := UInt8.toNat_inj.1 (by omega)
      have h2 : ¬ x < y := fun g => by have := UInt8.lt_iff_toNat_lt.1 g; omega
      rw [e]; subst h1; simp
    · have h1 : ¬ x < y := fun g => by have := UInt8.lt_iff_toNat_lt.1 g; omega
      have h2 : ¬ x = y := fun g => by subst g; omega
      rw [e]; simp [h1, h2]
theorem bin_lss_str (a b : List UInt8) (W : World) : (binOp .lss 9 (.string (strB a)) (.string (strB b))).run Tryz.prog W = .ok (.bool (ltB a b)) W := by
  simp [go_sem, strB_toList, bytesLess_ltB]
theorem bin_eql_str (a b : List UInt8) (W : World) : (binOp .eql 9 (.string (strB a)) (.string (strB b))).run Tryz.prog W = .ok (.bool (decide (a = b))) W := by
  by_cases h : a = b <;> simp [go_sem, strB_toList, h]
end Go.Proofs.YtnkaegdnjfpliaaGreatDoor

/-! The document's Map: what lies about it, and one key and its value set in. -/
namespace Go.Proofs.YtnkaegdnjfpliaaGreatDoor
set_option linter.unusedSimpArgs false
set_option linter.unusedVariables false
open Go.RowKit

theorem store_newM {W : World} {x0 x1 x2 x3 x4 x5 : Value} (h : ∀ u ∈ [x0, x1, x2, x3, x4, x5], u.oneCell' = true) :
    (storeVar 26 ⟨W.heap.size, 0, none⟩ (.agg #[x0, x1, x2, x3, x4, x5])).run Tryz.prog (W.alloc (.cells #[.int .i64 0, .bool false, .int .i64 0, .string ⟨#[]⟩, .slice none 0 0, .slice none 0 0] 26)) = .ok () (W.alloc (.cells #[x0, x1, x2, x3, x4, x5] 26)) := by
  have hst := run_storeVar_row (P := Tryz.prog) (W.alloc (.cells #[.int .i64 0, .bool false, .int .i64 0, .string ⟨#[]⟩, .slice none 0 0, .slice none 0 0] 26)) W.heap.size 26 26 _ #[x0, x1, x2, x3, x4, x5] (heap_alloc_new W _) (by kernel_rfl) rfl (by simpa using h)
  rw [World.setRow_alloc_new] at hst
  exact hst
/-- A value whose rows are one's own, and whose values lay before. -/
def VPart (w0 W : World) (P : Nat → Prop) (v : V) (x : Array Value) : Prop := ∃ vk vl, x = #[.int .i64 v.kind, .bool v.b, .int .i64 v.n, .string (strB v.text), vk, vl] ∧ OwnsP W P 9 1 vk v.keys.length (v.keys.map strV) ∧
  ∃ xs, OwnsP W P 26 6 vl v.list.length (xs.flatMap Array.toList) ∧ VRs w0 v.list xs
theorem VPart.keep {w0 W W' : World} {P : Nat → Prop} {v : V} {x : Array Value} (h : VPart w0 W P v x) (hk : ∀ b, P b → b < W.heap.size → W'.heap[b]? = W.heap[b]?) : VPart w0 W' P v x := by
  obtain ⟨vk, vl, e, h1, xs, h2, h3⟩ := h
  exact ⟨vk, vl, e, h1.keep hk, xs, h2.keep hk, h3⟩
theorem VPart.imp {w0 W : World} {P P' : Nat → Prop} {v : V} {x : Array Value} (h : VPart w0 W P v x) (hp : ∀ b, b < W.heap.size → P b → P' b) : VPart w0 W P' v x := by
  obtain ⟨vk, vl, e, h1, xs, h2, h3⟩ := h
  exact ⟨vk, vl, e, h1.imp hp, xs, h2.imp hp, h3⟩
theorem VPart.size6 {w0 W : World} {P : Nat → Prop} {v : V} {x : Array Value} (h : VPart w0 W P v x) : x.size = 6 := by obtain ⟨vk, vl, rfl, _⟩ := h; rfl
theorem VPart.ones {w0 W : World} {P : Nat → Prop} {v : V} {x : Array Value} (h : VPart w0 W P v x) : ∀ u ∈ x.toList, u.oneCell' = true := by
  obtain ⟨vk, vl, rfl, h1, xs, h2, _⟩ := h
  obtain ⟨p, c, rfl⟩ := slices_of h1
  obtain ⟨p, c, rfl⟩ := slices_of h2
  simp [Value.oneCell']
theorem VPart.rd {w0 W : World} {P : Nat → Prop} {v : V} {x : Array Value} (h : VPart w0 W P v x) (hP : ∀ b, P b → w0.heap.size ≤ b) (hb : Below w0.heap.size w0 W) (hk : v.keys.length ≤ 1000000) (hl : v.list.length ≤ 1000000) (hs : ∀ s ∈ v.keys, s.length ≤ 140737488355328) (ht : v.text.length ≤ 140737488355328) : VRd W v x := by
  obtain ⟨vk, vl, rfl, h1, xs, h2, h3⟩ := h
  obtain ⟨p1, c1, rfl, q2⟩ := owned_rdS h1 (by omega) hs
  obtain ⟨p2, c2, rfl, q4⟩ := RowV.rd (w := w0) ⟨xs, h2.imp fun b _ hb => hP b hb, h3⟩ (Nat.le_refl _) hb hl
  exact VRd.mk' ht q2 q4
theorem vpart_zero (w0 W : World) (P : Nat → Prop) : VPart w0 W P V0 #[.int .i64 0, .bool false, .int .i64 0, .string ⟨#[]⟩, .slice none 0 0, .slice none 0 0] :=
  ⟨_, _, rfl, ⟨⟨rfl, .inl ⟨rfl, rfl⟩⟩, fun g hg => by simp [Value.ownBlock] at hg⟩, [], ⟨⟨rfl, .inl ⟨rfl, rfl⟩⟩, fun g hg => by simp [Value.ownBlock] at hg⟩, VRs.nil _⟩
structure MDb (w0 w W : World) (vk vl : Value) (K : List (List UInt8)) (L : List V) : Prop where
  res : W.heap[w.heap.size]? = some (.cells #[.int .i64 0, .bool false, .int .i64 0, .string ⟨#[]⟩, .slice none 0 0, .slice none 0 0] 26 (0, 0))
  box : W.heap[w.heap.size + 1]? = some (.cells #[.int .i64 5, .bool false, .int .i64 0, .string ⟨#[]⟩, vk, vl] 26 (0, 0))
  keys : OwnsP W (fun b => w.heap.size + 2 ≤ b) 9 1 vk K.length (K.map strV)
  vals : RowV w0 (w.heap.size + 2) W vl L
  below : Below w.heap.size w W
theorem MDb.keep {w0 w W W' : World} {vk vl : Value} {K : List (List UInt8)} {L : List V} (h : MDb w0 w W vk vl K L) (g : Below W.heap.size W W') : MDb w0 w W' vk vl K L :=
  ⟨(g.block _ (Array.getElem?_eq_some_iff.1 h.res).1).trans h.res, (g.block _ (Array.getElem?_eq_some_iff.1 h.box).1).trans h.box, h.keys.keep fun b _ hb => g.block b hb, h.vals.below g, below_trans h.below g⟩
theorem MDb.start (w0 w : World) : MDb w0 w ((w.alloc (.cells #[.int .i64 0, .bool false, .int .i64 0, .string ⟨#[]⟩, .slice none 0 0, .slice none 0 0] 26)).alloc (.cells #[.int .i64 5, .bool false, .int .i64 0, .string ⟨#[]⟩, .slice none 0 0, .slice none 0 0] 26)) (.slice none 0 0) (.slice none 0 0) [] [] := by
  have h1 := below_new (w := w) (.cells #[.int .i64 0, .bool false, .int .i64 0, .string ⟨#[]⟩, .slice none 0 0, .slice none 0 0] 26)
  have h2 := heap_alloc_new w (.cells #[.int .i64 0, .bool false, .int .i64 0, .string ⟨#[]⟩, .slice none 0 0, .slice none 0 0] 26)
  have e : (w.alloc (.cells #[.int .i64 0, .bool false, .int .i64 0, .string ⟨#[]⟩, .slice none 0 0, .slice none 0 0] 26)).heap.size = w.heap.size + 1 := by simp
  generalize w.alloc (.cells #[.int .i64 0, .bool false, .int .i64 0, .string ⟨#[]⟩, .slice none 0 0, .slice none 0 0] 26) = W1 at *
  have h3 := below_new (w := W1) (.cells #[.int .i64 5, .bool false, .int .i64 0, .string ⟨#[]⟩, .slice none 0 0, .slice none 0 0] 26)
  have h4 := heap_alloc_new W1 (.cells #[.int .i64 5, .bool false, .int .i64 0, .string ⟨#[]⟩, .slice none 0 0, .slice none 0 0] 26)
  rw [e] at h4
  exact ⟨(h3.block _ (by omega)).trans h2, h4, keys_nil _ _, RowV.start _ _ _, below_trans h1 h3⟩
theorem MDb.lt {w0 w W : World} {vk vl : Value} {K : List (List UInt8)} {L : List V} (h : MDb w0 w W vk vl K L) : w.heap.size + 1 < W.heap.size := (Array.getElem?_eq_some_iff.1 h.box).1
/-- What comes of setting in one key and its value at place m, step by step. -/
structure CutM (w0 w W0 : World) (vk vl : Value) (K : List (List UInt8)) (L : List V) (s : List UInt8) (v : V) (x : Array Value) (m : Nat) (ty : TypeId)
    (p1 p2 p3 p4 : Option Addr) (c1 c2 c3 c4 : Nat) (a1 a2 a3 b1 b2 b3 : Value) (W1 W2 W3 W4 W5 W6 : World) : Prop where
  s1 : ∀ W, (Instr.slice 23 vk none (some (.int .i64 (m : Int))) none).run Tryz.prog W = .ok (.slice p1 (K.take m).length c1) W
  r1 : (Builtin.append_ #[23, 23] 23 #[.slice none 0 0, .slice p1 (K.take m).length c1]).run Tryz.prog W0 = .ok a1 W1
  r2 : (Builtin.append_ #[23, 23] 23 #[a1, .slice (some ⟨W1.heap.size, 0, none⟩) 1 1]).run Tryz.prog (W1.alloc (.cells #[.string (strB s)] 9)) = .ok a2 W2
  s2 : ∀ W, (Instr.slice 23 vk (some (.int .i64 (m : Int))) none none).run Tryz.prog W = .ok (.slice p2 (K.drop m).length c2) W
  r3 : (Builtin.append_ #[23, 23] 23 #[a2, .slice p2 (K.drop m).length c2]).run Tryz.prog W2 = .ok a3 W3
  s3 : ∀ W, (Instr.slice 24 vl none (some (.int .i64 (m : Int))) none).run Tryz.prog W = .ok (.slice p3 (L.take m).length c3) W
  r4 : (Builtin.append_ #[24, 24] 24 #[.slice none 0 0, .slice p3 (L.take m).length c3]).run Tryz.prog W3 = .ok b1 W4
  r5 : (Builtin.append_ #[24, 24] 24 #[b1, .slice (some ⟨W4.heap.size, 0, none⟩) 1 1]).run Tryz.prog (W4.alloc (.cells x 26)) = .ok b2 W5
  s4 : ∀ W, (Instr.slice 24 vl (some (.int .i64 (m : Int))) none none).run Tryz.prog W = .ok (.slice p4 (L.drop m).length c4) W
  r6 : (Builtin.append_ #[24, 24] 24 #[b2, .slice p4 (L.drop m).length c4]).run Tryz.prog W5 = .ok b3 W6
  m1 : MDb w0 w W1 vk vl K L
  m2 : MDb w0 w W2 vk vl K L
  m3 : MDb w0 w W3 vk vl K L
  m4 : MDb w0 w W4 vk vl K L
  m5 : MDb w0 w W5 vk vl K L
  m6 : MDb w0 w W6 vk vl K L
  k6 : OwnsP W6 (fun b => w.heap.size + 2 ≤ b) 9 1 a3 (K.take m ++ [s] ++ K.drop m).length ((K.take m ++ [s] ++ K.drop m).map strV)
  v6 : RowV w0 (w.heap.size + 2) W6 b3 (L.take m ++ [v] ++ L.drop m)
theorem RdS.sole {W : World} {g : Nat} {s : List UInt8} (h : W.heap[g]? = some (.cells #[.string (strB s)] 9 (0, 0))) (hs : s.length ≤ 140737488355328) : RdS W (some ⟨g, 0, none⟩) 1 [s] := by
  refine ⟨Nat.le_refl _, by simp, (fun e => by cases e), fun t ht => ?_, fun ad had => ?_⟩
  · rw [show t = s by simpa using ht]; exact hs
  · cases had
    refine ⟨fun _ => rfl, fun i t hi => ?_⟩
    have : i = 0 := by have := (List.getElem?_eq_some_iff.1 hi).1; simpa using this
    subst this
    have : t = s := by simpa using hi.symm
    subst this
    exact cellOf (o := 0) h rfl
set_option maxHeartbeats 4000000 in
theorem cut_any {w0 w W0 : World} {vk vl : Value} {K : List (List UInt8)} {L : List V} (h : MDb w0 w W0 vk vl K L) {s : List UInt8} {v : V} {x : Array Value} (hx : VRd w0 v x) {m : Nat} (hk : m ≤ K.length) (hl : m ≤ L.length) (hn : K.length ≤ 900000) (hn2 : L.length ≤ 900000)
    (hs : s.length ≤ 140737488355328) (hK : ∀ s ∈ K, s.length ≤ 140737488355328) :
    ∃ p1 p2 p3 p4 c1 c2 c3 c4 a1 a2 a3 b1 b2 b3 W1 W2 W3 W4 W5 W6, CutM w0 w W0 vk vl K L s v x m 23 p1 p2 p3 p4 c1 c2 c3 c4 a1 a2 a3 b1 b2 b3 W1 W2 W3 W4 W5 W6 := by
  have hlt := h.lt
  have t1 : (K.take m).length = m := by simp; omega
  have t2 : (K.drop m).length = K.length - m := by simp
  have t3 : (L.take m).length = m := by simp; omega
  have t4 : (L.drop m).length = L.length - m := by simp
  obtain ⟨p1, c1, s1, d1⟩ := keys_low h.keys (by omega) hK hk
  obtain ⟨a1, W1, r1, o1, g1⟩ := keys_step (n0 := W0.heap.size) (W := W0) (keys_nil W0 _) d1 (by simp; omega) (Nat.le_refl _) 23
  have M1 := h.keep g1
  have n1 := below_new (w := W1) (.cells #[.string (strB s)] 9)
  have q1 := heap_alloc_new W1 (.cells #[.string (strB s)] 9)
  have z1 := g1.size
  obtain ⟨a2, W2, r2, o2, g2⟩ := keys_step (n0 := W0.heap.size) (o1.keep fun b _ hb => n1.block b hb) (RdS.sole q1 hs) (by simp; omega) (Nat.le_trans z1 n1.size) 23
  have G2 : Below W0.heap.size W0 W2 := (g1.trans (n1.mono z1)).trans g2
  have M2 := h.keep G2
  obtain ⟨p2, c2, s2, d2⟩ := keys_high M2.keys (by omega) hK hk
  obtain ⟨a3, W3, r3, o3, g3⟩ := keys_step (n0 := W0.heap.size) o2 d2 (by simp; omega) G2.size 23
  have G3 := G2.trans g3
  have M3 := h.keep G3
  obtain ⟨p3, c3, s3, d3, e3⟩ := M3.vals.low hl
  have s3' : ∀ W, (Instr.slice 24 vl none (some (.int .i64 (m : Int))) none).run Tryz.prog W = .ok (.slice p3 (L.take m).length c3) W := by rw [t3]; exact s3
  obtain ⟨b1, W4, r4, o4, g4⟩ := (RowV.start w0 W3.heap.size W3).step d3 (Nat.le_refl _) (by simp; omega) e3 24
  have M4 := M3.keep g4
  have n4 := below_new (w := W4) (.cells x 26)
  have q4 := heap_alloc_new W4 (.cells x 26)
  have z4 := g4.size
  obtain ⟨b2, W5, r5, o5, g5⟩ := (o4.below n4).step (PieceV.one hx q4) (Nat.le_trans z4 n4.size) (by simp; omega) (fun h => by cases h) 24
  have G5 : Below W3.heap.size W3 W5 := (g4.trans (n4.mono z4)).trans g5
  have M5 := M3.keep G5
  obtain ⟨p4, c4, s4, d4, e4⟩ := M5.vals.high hl
  have s4' : ∀ W, (Instr.slice 24 vl (some (.int .i64 (m : Int))) none none).run Tryz.prog W = .ok (.slice p4 (L.drop m).length c4) W := by rw [t4]; exact s4
  obtain ⟨b3, W6, r6, o6, g6⟩ := o5.step d4 G5.size (by simp; omega) e4 24
  have G6 := G5.trans g6
  have M6 := M3.keep G6
  have z3 := G3.size
  refine ⟨p1, p2, p3, p4, c1, c2, c3, c4, a1, a2, a3, b1, b2, b3, W1, W2, W3, W4, W5, W6, s1, r1, r2, s2, r3, s3', r4, r5, s4', r6, M1, M2, M3, M4, M5, M6, ?_, ?_⟩
  · exact ((o3.keep fun b _ hb => G6.block b hb).imp fun b _ hb => by omega)
  · exact o6.mono (by omega)
/-- The box takes the new rows. -/
theorem MDb.put {w0 w W : World} {vk vl a b : Value} {K K' : List (List UInt8)} {L L' : List V} (h : MDb w0 w W vk vl K L) (hk : OwnsP W (fun b => w.heap.size + 2 ≤ b) 9 1 a K'.length (K'.map strV)) (hv : RowV w0 (w.heap.size + 2) W b L') :
    W.cell? ⟨w.heap.size + 1, 4, none⟩ = some vk ∧ W.frozen? ⟨w.heap.size + 1, 4, none⟩ = false ∧ (W.setCell ⟨w.heap.size + 1, 4, none⟩ a).cell? ⟨w.heap.size + 1, 5, none⟩ = some vl ∧ (W.setCell ⟨w.heap.size + 1, 4, none⟩ a).frozen? ⟨w.heap.size + 1, 5, none⟩ = false ∧
      MDb w0 w ((W.setCell ⟨w.heap.size + 1, 4, none⟩ a).setCell ⟨w.heap.size + 1, 5, none⟩ b) a b K' L' := by
  have hlt := h.lt
  have b1 := box_set (k := 4) a h.box
  have b2 := box_set (k := 5) b b1
  have o1 := fun q (hq : q ≠ w.heap.size + 1) => Below.heap_setCell W ⟨w.heap.size + 1, 4, none⟩ a q hq
  have o2 := fun q (hq : q ≠ w.heap.size + 1) => Below.heap_setCell (W.setCell ⟨w.heap.size + 1, 4, none⟩ a) ⟨w.heap.size + 1, 5, none⟩ b q hq
  refine ⟨cellOf (o := 4) h.box rfl, freeOf h.box, cellOf (o := 5) b1 rfl, freeOf b1, ?_, b2, ?_, ?_, ?_⟩
  · exact (o2 _ (by omega)).trans ((o1 _ (by omega)).trans h.res)
  · exact hk.keep fun q hq _ => (o2 q (by omega)).trans (o1 q (by omega))
  · obtain ⟨xs, h1, h2⟩ := hv
    exact ⟨xs, h1.keep fun q hq _ => (o2 q (by omega)).trans (o1 q (by omega)), h2⟩
  · exact belowSet (belowSet h.below (by omega) _) (by omega) _
/-- What is written into the box of results. -/
theorem MDb.back {w0 w W : World} {vk vl : Value} {K : List (List UInt8)} {L : List V} (h : MDb w0 w W vk vl K L) (x : Array Value) (hx : x.size = 6) (h1 : ∀ u ∈ x.toList, u.oneCell' = true) :
    ∃ W', (storeVar 26 ⟨w.heap.size, 0, none⟩ (.agg x)).run Tryz.prog W = .ok () W' ∧ (loadVar 26 ⟨w.heap.size, 0, none⟩).run Tryz.prog W' = .ok (.agg x) W' ∧ Below w.heap.size w W' ∧
      OwnsP W' (fun b => w.heap.size + 2 ≤ b) 9 1 vk K.length (K.map strV) ∧ RowV w0 (w.heap.size + 2) W' vl L := by
  obtain ⟨x0, x1, x2, x3, x4, x5, rfl⟩ : ∃ x0 x1 x2 x3 x4 x5, x = #[x0, x1, x2, x3, x4, x5] := by
    rcases x with ⟨l⟩
    match l, hx with
    | [x0, x1, x2, x3, x4, x5], _ => exact ⟨x0, x1, x2, x3, x4, x5, rfl⟩
  have e1 := run_storeVar_row (P := Tryz.prog) W w.heap.size 26 26 _ #[x0, x1, x2, x3, x4, x5] h.res (by kernel_rfl) rfl (Array.all_eq_true_iff_forall_mem.2 fun u hu => h1 u (by simpa using hu))
  have e2 := setRow_heap W w.heap.size _ #[x0, x1, x2, x3, x4, x5] 26 _ h.res
  have hT : Touch (fun b => b = w.heap.size) W (W.setRow w.heap.size #[x0, x1, x2, x3, x4, x5]) := ⟨rfl, rfl, rfl, by simp, fun g _ hg => setRow_other W w.heap.size g _ hg⟩
  refine ⟨_, e1, get_val e2, hT.below h.below (fun b hb e => by omega) h.below.size, h.keys.keep fun b hb _ => setRow_other W w.heap.size b _ (by omega), ?_⟩
  obtain ⟨xs, g1, g2⟩ := h.vals
  exact ⟨xs, g1.keep fun b hb _ => setRow_other W w.heap.size b _ (by omega), g2⟩
/-- The map that was made is told. -/
theorem MDb.fin {w0 w W : World} {pk pl : Option Addr} {n m ck cl : Nat} {K : List (List UInt8)} {L : List V} (h : MDb w0 w W (.slice pk n ck) (.slice pl m cl) K L) (hK : K.length ≤ 1000000) (hL : L.length ≤ 1000000) (hs : ∀ s ∈ K, s.length ≤ 140737488355328) :
    ∃ W', (storeVar 26 ⟨w.heap.size, 0, none⟩ (.agg #[.int .i64 5, .bool false, .int .i64 0, .string ⟨#[]⟩, .slice pk n ck, .slice pl m cl])).run Tryz.prog W = .ok () W' ∧
      (loadVar 26 ⟨w.heap.size, 0, none⟩).run Tryz.prog W' = .ok (.agg #[.int .i64 5, .bool false, .int .i64 0, .string ⟨#[]⟩, .slice pk n ck, .slice pl m cl]) W' ∧ Below w.heap.size w W' ∧
      VPart w0 W' (fun b => w.heap.size ≤ b) (.mk 5 false 0 [] K L) #[.int .i64 5, .bool false, .int .i64 0, .string ⟨#[]⟩, .slice pk n ck, .slice pl m cl] := by
  obtain ⟨W', e1, e2, e3, e4, e5⟩ := h.back #[.int .i64 5, .bool false, .int .i64 0, .string ⟨#[]⟩, .slice pk n ck, .slice pl m cl] rfl (by simp [Value.oneCell'])
  obtain ⟨xs, h1, h2⟩ := e5
  exact ⟨W', e1, e2, e3, _, _, rfl, e4.imp fun b _ hb => by omega, xs, h1.imp fun b _ hb => by omega, h2⟩
end Go.Proofs.YtnkaegdnjfpliaaGreatDoor

/-! The document's Map. Printed by gen_mapd.py. -/
namespace Go.Proofs.YtnkaegdnjfpliaaGreatDoor
set_option linter.unusedSimpArgs false
set_option linter.unusedVariables false
open Go.RowKit

/-- What the document's Map answers. -/
def MapRd (w0 w : World) (ks : List (List UInt8)) (l : List V) (e : Ending) (w' : World) : Prop :=
  Below w.heap.size w w' ∧ ∃ x no v, e = .returned (.tuple #[.agg x, .int .i64 no]) ∧ VPart w0 w' (fun b => w.heap.size ≤ b) v x ∧
    ((no = 2 ∧ v = V0 ∧ (ks.length ≠ l.length ∨ ¬ ks.Nodup)) ∨
     (no = 0 ∧ ks.length = l.length ∧ ∃ q : List Nat, Ins ks ks.length q ∧ v = .mk 5 false 0 [] (q.map fun i => ks.getD i []) (q.map fun i => l.getD i V0)))
/-- Behind j keys. -/
def MDi (w0 w : World) (ks : List (List UInt8)) (l : List V) (j : Nat) (W : World) : Prop := ∃ q vk vl, Ins ks j q ∧ MDb w0 w W vk vl (q.map fun i => ks.getD i []) (q.map fun i => l.getD i V0)
/-- What the drawn regions see. -/
structure M8 (w : World) (vk vl : Value) (a b : Addr) (s1 s2 : List UInt8) (W : World) : Prop where
  box : W.heap[w.heap.size + 1]? = some (.cells #[.int .i64 5, .bool false, .int .i64 0, .string ⟨#[]⟩, vk, vl] 26 (0, 0))
  one : W.cell? a = some (.string (strB s1))
  two : W.cell? b = some (.string (strB s2))
set_option maxRecDepth 100000 in
set_option maxHeartbeats 8000000 in
theorem mapR_any {w0 w : World} {pk : Option Addr} {ck : Nat} {ks : List (List UInt8)} {pl : Option Addr} {cl : Nat} {l : List V} (hb0 : Below w0.heap.size w0 w) (hk : RdS w pk ck ks) (hl : LRd w0 pl cl l) (hn : ks.length ≤ 900000) (ht : totVs l ≤ 900000) :
    Calls Tryz.prog 37 #[.slice pk ks.length ck, .slice pl l.length cl] w (MapRd w0 w ks l) := by
  have hll : l.length ≤ 900000 := by have := totVs_length l; omega
  have z1 : (ks.length : Int) ≤ 900000 := by omega
  have z2 : (l.length : Int) ≤ 900000 := by omega
  have hks := hk.2.2.2.1
  by_cases he : ks.length = l.length
  · have HE := Lib.hid he
    have hA : ∀ (no : Int) (v : V) (W : World) (x : Array Value), Below w.heap.size w W → VPart w0 W (fun b => w.heap.size ≤ b) v x →
        ((no = 2 ∧ v = V0 ∧ ¬ ks.Nodup) ∨ (no = 0 ∧ ∃ q : List Nat, Ins ks ks.length q ∧ v = .mk 5 false 0 [] (q.map fun i => ks.getD i []) (q.map fun i => l.getD i V0))) →
        MapRd w0 w ks l (.returned (.tuple #[.agg x, .int .i64 no])) W := by
      intro no v W x h1 h2 h3
      refine ⟨h1, x, no, v, rfl, h2, ?_⟩
      rcases h3 with ⟨a, b, c⟩ | ⟨a, b⟩
      · exact .inl ⟨a, b, .inr c⟩
      · exact .inr ⟨a, he, b⟩
    generalize MapRd w0 w ks l = Q at *
    have HA := Lib.hid hA
    have HK := Lib.hid hk
    have HL := Lib.hid hl
    have HB0 := Lib.hid hb0
    have HKS := Lib.hid hks
    rw [← he]
    have hs3 := store_newM (W := w.alloc (.cells #[.int .i64 0, .bool false, .int .i64 0, .string ⟨#[]⟩, .slice none 0 0, .slice none 0 0] 26)) (x0 := .int .i64 5) (x1 := .bool false) (x2 := .int .i64 0) (x3 := .string ⟨#[]⟩) (x4 := .slice none 0 0) (x5 := .slice none 0 0) (by simp [Value.oneCell'])
    simp only [World.size_alloc] at hs3
    have HS3 := Lib.hid hs3
    have HM0 := Lib.hid (MDb.start w0 w)
    clear hA hb0 hk hl hks hs3 he hll z2 ht
    go_enter Tryz.func37, Tryz.ntmps37
    go_wp2_with (refine wpList_store rfl _ _ _ _ rfl rfl rfl HS3.out ?_)
    clear HS3
    generalize (w.alloc _).alloc _ = W0 at *
    have HI0 : Hid (MDi w0 w ks l 0 W0) := Lib.hid ⟨[], _, _, Ins.start ks, HM0.out⟩
    clear HM0
    go_loopw [7] (fun i W => ∃ j : Nat, j ≤ ks.length ∧ i = .int .i64 (j : Int) ∧ Hid (MDi w0 w ks l j W)) (fun i _ => ks.length - (intOf i).toNat)
    case atStart => exact ⟨0, Nat.zero_le _, rfl, HI0⟩
    case round =>
      clear HI0
      obtain ⟨j, hj, rfl, HI⟩ := hrel
      by_cases hlt : j < ks.length
      · have hlt1 : j + 1 ≤ ks.length := hlt
        obtain ⟨q, vk, vl, hI, hM⟩ := HI.out
        have hKl : (q.map fun i => ks.getD i []).length = j := by rw [List.length_map]; exact hI.len
        have hLl : (q.map fun i => l.getD i V0).length = j := by rw [List.length_map]; exact hI.len
        have hKs : ∀ s ∈ (q.map fun i => ks.getD i []), s.length ≤ 140737488355328 := by
          intro s hs
          obtain ⟨a, ha, rfl⟩ := List.mem_map.1 hs
          have haj : a < j := List.mem_range.1 (hI.perm.mem_iff.1 ha)
          have : a < ks.length := by omega
          simp only [List.getD, this, List.getElem?_eq_getElem, Option.getD_some]
          exact HKS.out _ (List.getElem_mem _)
        obtain ⟨pk0, ck0, rfl, hR⟩ := owned_rdS hM.keys (by omega) hKs
        obtain ⟨pl0, cl0, rfl⟩ := hM.vals.slice
        rw [hKl] at hM
        rw [hLl] at hM
        obtain ⟨bk, ok, rfl, k0, hsl⟩ := HK.out.get hlt
        obtain ⟨bl, ol, pk1, ck1, pl1, cl1, rfl, ⟨a0, a1, a2, a3, a4, a5⟩, hv1⟩ := HL.out.at (show j < l.length by rw [← HE.out]; exact hlt)
        replace a0 := belowCell HB0.out (ltOf a0) a0
        replace a1 := belowCell HB0.out (ltOf a1) a1
        replace a2 := belowCell HB0.out (ltOf a2) a2
        replace a3 := belowCell HB0.out (ltOf a3) a3
        replace a4 := belowCell HB0.out (ltOf a4) a4
        replace a5 := belowCell HB0.out (ltOf a5) a5
        obtain ⟨s2, hs2⟩ : ∃ s, s = ks.getD j [] := ⟨_, rfl⟩
        have e2 : ks[j] = s2 := by rw [hs2]; simp [List.getD, hlt]
        rw [e2] at k0 hsl
        have HS2 := Lib.hid hs2
        have HM := Lib.hid hM
        have HIq := Lib.hid hI
        have HR := Lib.hid hR
        have HG := Lib.hid (And.intro hKl (And.intro hLl (And.intro hKs (And.intro k0 (And.intro hsl hv1)))))
        have HA6 := Lib.hid (And.intro a0 (And.intro a1 (And.intro a2 (And.intro a3 (And.intro a4 a5)))))
        clear hs2 e2 hI hM hKl hLl hKs hR k0 hsl hv1 a0 a1 a2 a3 a4 a5 HI
        go_wp2
        generalize wr = Wj at *
        go_loopw [8] (fun i W => ∃ m : Nat, m ≤ j ∧ i = .int .i64 (m : Int) ∧ Hid (∀ i a, i < m → q[i]? = some a → ltB (ks.getD a []) (ks.getD j []) = true) ∧ Hid (Below Wj.heap.size Wj W)) (fun i _ => j - (intOf i).toNat)
        case atStart => exact ⟨0, Nat.zero_le _, rfl, Lib.hid (fun i a h => by omega), Lib.hid (Below.refl _ _)⟩
        case round =>
          obtain ⟨m, hm, rfl, HLO, HB⟩ := hrel
          by_cases hmj : m < j
          · have hmj1 : m + 1 ≤ j := hmj
            have hmq : m < q.length := by rw [HIq.out.len]; exact hmj
            obtain ⟨g0, o0, rfl, r0, r9⟩ := HR.out.get (i := m) (by rw [List.length_map]; exact hmq)
            clear r9
            rw [List.getElem_map] at r0
            have ha : q[m]? = some q[m] := List.getElem?_eq_getElem hmq
            generalize q[m] = a at *
            obtain ⟨s1, hs1⟩ : ∃ s, s = ks.getD a [] := ⟨_, rfl⟩
            rw [← hs1] at r0
            have hbd : Below Wj.heap.size Wj wr.drew := HB.out.drew
            have hMW := HM.out.keep hbd
            have hU0 : M8 w (.slice (some ⟨g0, o0, none⟩) j ck0) (.slice pl0 j cl0) ⟨g0, o0 + m, none⟩ ⟨bk, ok + j, none⟩ s1 s2 wr.drew := ⟨hMW.box, belowCell hbd (ltOf r0) r0, belowCell hMW.below (ltOf HG.out.2.2.2.1) HG.out.2.2.2.1⟩
            have HX := Lib.hid (And.intro ha hs1)
            have hc : ∀ W : World, (binOp .lss 3 (.int .i64 (m : Int)) (.int .i64 (j : Int))).run Tryz.prog W = .ok (.bool true) W := by
              intro W; simp [go_sem]; omega
            clear ha hs1 r0 hbd hMW hmq
            go_wp2
            by_cases hlw : ltB s1 s2 = true
            · have hq : ∀ W : World, (binOp .lss 9 (.string (strB s1)) (.string (strB s2))).run Tryz.prog W = .ok (.bool true) W := fun W => by rw [bin_lss_str, hlw]
              refine plain_region_draws (M8 w (.slice (some ⟨g0, o0, none⟩) j ck0) (.slice pl0 j cl0) ⟨g0, o0 + m, none⟩ ⟨bk, ok + j, none⟩ s1 s2) (by kernel_rfl) hU0 (fun hU0 => ?_)
              refine take 0 24 (v := .int .i64 (m : Int)) rfl rfl (by kernel_rfl) (by kernel_rfl) (by kernel_rfl) rfl (fun W hW => exec_move rfl rfl) (by assumption) ?_
              simp only [Act.put, List.setIfInBounds_toArray, List.set_cons_zero, List.set_cons_succ]
              refine take 1 25 (v := .pointer (some ⟨w.heap.size + 1, 4, none⟩)) rfl rfl (by kernel_rfl) (by kernel_rfl) (by kernel_rfl) rfl (fun W hW => exec_fieldAddr rfl rfl (fa_value _ _ (by decide) W)) (by assumption) ?_
              simp only [Act.put, List.setIfInBounds_toArray, List.set_cons_zero, List.set_cons_succ]
              refine take 2 26 (v := .slice (some ⟨g0, o0, none⟩) j ck0) rfl rfl (by kernel_rfl) (by kernel_rfl) (by kernel_rfl) rfl (fun W hW => exec_load rfl rfl (run_load1 (w := W) Tryz.underlying23 rfl (cellOf hW.box rfl))) (by assumption) ?_
              simp only [Act.put, List.setIfInBounds_toArray, List.set_cons_zero, List.set_cons_succ]
              refine take 3 27 (v := .int .i64 (j : Int)) rfl rfl (by kernel_rfl) (by kernel_rfl) (by kernel_rfl) rfl (fun W hW => exec_lenS rfl rfl) (by assumption) ?_
              simp only [Act.put, List.setIfInBounds_toArray, List.set_cons_zero, List.set_cons_succ]
              refine take 4 28 (v := .bool true) rfl rfl (by kernel_rfl) (by kernel_rfl) (by kernel_rfl) rfl (fun W hW => exec_bini rfl rfl rfl (hc W)) (by assumption) ?_
              simp only [Act.put, List.setIfInBounds_toArray, List.set_cons_zero, List.set_cons_succ]
              refine take 5 29 (v := .bool true) rfl rfl (by kernel_rfl) (by kernel_rfl) (by kernel_rfl) rfl (fun W hW => exec_move rfl rfl) (by assumption) ?_
              simp only [Act.put, List.setIfInBounds_toArray, List.set_cons_zero, List.set_cons_succ]
              refine take 6 30 (v := .pointer (some ⟨w.heap.size + 1, 4, none⟩)) rfl rfl (by kernel_rfl) (by kernel_rfl) (by kernel_rfl) rfl (fun W hW => exec_fieldAddr rfl rfl (fa_value _ _ (by decide) W)) (by assumption) ?_
              simp only [Act.put, List.setIfInBounds_toArray, List.set_cons_zero, List.set_cons_succ]
              refine take 7 31 (v := .slice (some ⟨g0, o0, none⟩) j ck0) rfl rfl (by kernel_rfl) (by kernel_rfl) (by kernel_rfl) rfl (fun W hW => exec_load rfl rfl (run_load1 (w := W) Tryz.underlying23 rfl (cellOf hW.box rfl))) (by assumption) ?_
              simp only [Act.put, List.setIfInBounds_toArray, List.set_cons_zero, List.set_cons_succ]
              refine take 8 32 (v := .int .i64 (m : Int)) rfl rfl (by kernel_rfl) (by kernel_rfl) (by kernel_rfl) rfl (fun W hW => exec_move rfl rfl) (by assumption) ?_
              simp only [Act.put, List.setIfInBounds_toArray, List.set_cons_zero, List.set_cons_succ]
              refine take 9 33 (v := .pointer (some ⟨g0, o0 + m, none⟩)) rfl rfl (by kernel_rfl) (by kernel_rfl) (by kernel_rfl) rfl (fun W hW => exec_indexAddr rfl rfl rfl (ia_keys _ _ _ _ _ hmj W)) (by assumption) ?_
              simp only [Act.put, List.setIfInBounds_toArray, List.set_cons_zero, List.set_cons_succ]
              refine take 10 34 (v := .string (strB s1)) rfl rfl (by kernel_rfl) (by kernel_rfl) (by kernel_rfl) rfl (fun W hW => exec_load rfl rfl (run_load1 (w := W) Tryz.underlying9 rfl hW.one)) (by assumption) ?_
              simp only [Act.put, List.setIfInBounds_toArray, List.set_cons_zero, List.set_cons_succ]
              refine take 11 35 (v := .slice (some ⟨bk, ok, none⟩) ks.length ck) rfl rfl (by kernel_rfl) (by kernel_rfl) (by kernel_rfl) rfl (fun W hW => exec_move rfl rfl) (by assumption) ?_
              simp only [Act.put, List.setIfInBounds_toArray, List.set_cons_zero, List.set_cons_succ]
              refine take 12 36 (v := .int .i64 (j : Int)) rfl rfl (by kernel_rfl) (by kernel_rfl) (by kernel_rfl) rfl (fun W hW => exec_move rfl rfl) (by assumption) ?_
              simp only [Act.put, List.setIfInBounds_toArray, List.set_cons_zero, List.set_cons_succ]
              refine take 13 37 (v := .pointer (some ⟨bk, ok + j, none⟩)) rfl rfl (by kernel_rfl) (by kernel_rfl) (by kernel_rfl) rfl (fun W hW => exec_indexAddr rfl rfl rfl (ia_keys _ _ _ _ _ hlt W)) (by assumption) ?_
              simp only [Act.put, List.setIfInBounds_toArray, List.set_cons_zero, List.set_cons_succ]
              refine take 14 38 (v := .string (strB s2)) rfl rfl (by kernel_rfl) (by kernel_rfl) (by kernel_rfl) rfl (fun W hW => exec_load rfl rfl (run_load1 (w := W) Tryz.underlying9 rfl hW.two)) (by assumption) ?_
              simp only [Act.put, List.setIfInBounds_toArray, List.set_cons_zero, List.set_cons_succ]
              refine take 15 39 (v := .bool true) rfl rfl (by kernel_rfl) (by kernel_rfl) (by kernel_rfl) rfl (fun W hW => exec_bins rfl rfl rfl (hq W)) (by assumption) ?_
              simp only [Act.put, List.setIfInBounds_toArray, List.set_cons_zero, List.set_cons_succ]
              refine take 16 40 (v := .bool true) rfl rfl (by kernel_rfl) (by kernel_rfl) (by kernel_rfl) rfl (fun W hW => rfl) (by assumption) ?_
              simp only [Act.put, List.setIfInBounds_toArray, List.set_cons_zero, List.set_cons_succ]
              refine done (by kernel_rfl) ?_ _
              have HN : Hid (∀ i a, i < m + 1 → q[i]? = some a → ltB (ks.getD a []) (ks.getD j []) = true) := Lib.hid (fun i b hi hb => by
                by_cases e : i < m
                · exact HLO.out i b e hb
                · obtain rfl : i = m := by omega
                  have := HX.out.1.symm.trans hb
                  cases this
                  rw [← HX.out.2, ← HS2.out]
                  exact hlw)
              have HB2 := Lib.hid (HB.out.drew)
              clear hU0 hq hc hlw HLO HB HX
              go_wp2
              go_roundw
              case rel => exact ⟨m + 1, hmj1, by go_num, HN, HB2⟩
              case measure => simp [intOf]; omega
            · have hlw : ltB s1 s2 = false := by simpa using hlw
              have hq : ∀ W : World, (binOp .lss 9 (.string (strB s1)) (.string (strB s2))).run Tryz.prog W = .ok (.bool false) W := fun W => by rw [bin_lss_str, hlw]
              refine plain_region_draws (M8 w (.slice (some ⟨g0, o0, none⟩) j ck0) (.slice pl0 j cl0) ⟨g0, o0 + m, none⟩ ⟨bk, ok + j, none⟩ s1 s2) (by kernel_rfl) hU0 (fun hU0 => ?_)
              refine take 0 24 (v := .int .i64 (m : Int)) rfl rfl (by kernel_rfl) (by kernel_rfl) (by kernel_rfl) rfl (fun W hW => exec_move rfl rfl) (by assumption) ?_
              simp only [Act.put, List.setIfInBounds_toArray, List.set_cons_zero, List.set_cons_succ]
              refine take 1 25 (v := .pointer (some ⟨w.heap.size + 1, 4, none⟩)) rfl rfl (by kernel_rfl) (by kernel_rfl) (by kernel_rfl) rfl (fun W hW => exec_fieldAddr rfl rfl (fa_value _ _ (by decide) W)) (by assumption) ?_
              simp only [Act.put, List.setIfInBounds_toArray, List.set_cons_zero, List.set_cons_succ]
              refine take 2 26 (v := .slice (some ⟨g0, o0, none⟩) j ck0) rfl rfl (by kernel_rfl) (by kernel_rfl) (by kernel_rfl) rfl (fun W hW => exec_load rfl rfl (run_load1 (w := W) Tryz.underlying23 rfl (cellOf hW.box rfl))) (by assumption) ?_
              simp only [Act.put, List.setIfInBounds_toArray, List.set_cons_zero, List.set_cons_succ]
              refine take 3 27 (v := .int .i64 (j : Int)) rfl rfl (by kernel_rfl) (by kernel_rfl) (by kernel_rfl) rfl (fun W hW => exec_lenS rfl rfl) (by assumption) ?_
              simp only [Act.put, List.setIfInBounds_toArray, List.set_cons_zero, List.set_cons_succ]
              refine take 4 28 (v := .bool true) rfl rfl (by kernel_rfl) (by kernel_rfl) (by kernel_rfl) rfl (fun W hW => exec_bini rfl rfl rfl (hc W)) (by assumption) ?_
              simp only [Act.put, List.setIfInBounds_toArray, List.set_cons_zero, List.set_cons_succ]
              refine take 5 29 (v := .bool true) rfl rfl (by kernel_rfl) (by kernel_rfl) (by kernel_rfl) rfl (fun W hW => exec_move rfl rfl) (by assumption) ?_
              simp only [Act.put, List.setIfInBounds_toArray, List.set_cons_zero, List.set_cons_succ]
              refine take 6 30 (v := .pointer (some ⟨w.heap.size + 1, 4, none⟩)) rfl rfl (by kernel_rfl) (by kernel_rfl) (by kernel_rfl) rfl (fun W hW => exec_fieldAddr rfl rfl (fa_value _ _ (by decide) W)) (by assumption) ?_
              simp only [Act.put, List.setIfInBounds_toArray, List.set_cons_zero, List.set_cons_succ]
              refine take 7 31 (v := .slice (some ⟨g0, o0, none⟩) j ck0) rfl rfl (by kernel_rfl) (by kernel_rfl) (by kernel_rfl) rfl (fun W hW => exec_load rfl rfl (run_load1 (w := W) Tryz.underlying23 rfl (cellOf hW.box rfl))) (by assumption) ?_
              simp only [Act.put, List.setIfInBounds_toArray, List.set_cons_zero, List.set_cons_succ]
              refine take 8 32 (v := .int .i64 (m : Int)) rfl rfl (by kernel_rfl) (by kernel_rfl) (by kernel_rfl) rfl (fun W hW => exec_move rfl rfl) (by assumption) ?_
              simp only [Act.put, List.setIfInBounds_toArray, List.set_cons_zero, List.set_cons_succ]
              refine take 9 33 (v := .pointer (some ⟨g0, o0 + m, none⟩)) rfl rfl (by kernel_rfl) (by kernel_rfl) (by kernel_rfl) rfl (fun W hW => exec_indexAddr rfl rfl rfl (ia_keys _ _ _ _ _ hmj W)) (by assumption) ?_
              simp only [Act.put, List.setIfInBounds_toArray, List.set_cons_zero, List.set_cons_succ]
              refine take 10 34 (v := .string (strB s1)) rfl rfl (by kernel_rfl) (by kernel_rfl) (by kernel_rfl) rfl (fun W hW => exec_load rfl rfl (run_load1 (w := W) Tryz.underlying9 rfl hW.one)) (by assumption) ?_
              simp only [Act.put, List.setIfInBounds_toArray, List.set_cons_zero, List.set_cons_succ]
              refine take 11 35 (v := .slice (some ⟨bk, ok, none⟩) ks.length ck) rfl rfl (by kernel_rfl) (by kernel_rfl) (by kernel_rfl) rfl (fun W hW => exec_move rfl rfl) (by assumption) ?_
              simp only [Act.put, List.setIfInBounds_toArray, List.set_cons_zero, List.set_cons_succ]
              refine take 12 36 (v := .int .i64 (j : Int)) rfl rfl (by kernel_rfl) (by kernel_rfl) (by kernel_rfl) rfl (fun W hW => exec_move rfl rfl) (by assumption) ?_
              simp only [Act.put, List.setIfInBounds_toArray, List.set_cons_zero, List.set_cons_succ]
              refine take 13 37 (v := .pointer (some ⟨bk, ok + j, none⟩)) rfl rfl (by kernel_rfl) (by kernel_rfl) (by kernel_rfl) rfl (fun W hW => exec_indexAddr rfl rfl rfl (ia_keys _ _ _ _ _ hlt W)) (by assumption) ?_
              simp only [Act.put, List.setIfInBounds_toArray, List.set_cons_zero, List.set_cons_succ]
              refine take 14 38 (v := .string (strB s2)) rfl rfl (by kernel_rfl) (by kernel_rfl) (by kernel_rfl) rfl (fun W hW => exec_load rfl rfl (run_load1 (w := W) Tryz.underlying9 rfl hW.two)) (by assumption) ?_
              simp only [Act.put, List.setIfInBounds_toArray, List.set_cons_zero, List.set_cons_succ]
              refine take 15 39 (v := .bool false) rfl rfl (by kernel_rfl) (by kernel_rfl) (by kernel_rfl) rfl (fun W hW => exec_bins rfl rfl rfl (hq W)) (by assumption) ?_
              simp only [Act.put, List.setIfInBounds_toArray, List.set_cons_zero, List.set_cons_succ]
              refine take 16 40 (v := .bool false) rfl rfl (by kernel_rfl) (by kernel_rfl) (by kernel_rfl) rfl (fun W hW => rfl) (by assumption) ?_
              simp only [Act.put, List.setIfInBounds_toArray, List.set_cons_zero, List.set_cons_succ]
              refine done (by kernel_rfl) ?_ _
              have HB2 := Lib.hid (HB.out.drew)
              have HLW := Lib.hid hlw
              clear hq HB hlw
              generalize wr.drew = W1 at *
              go_wp2
              have hbd := HB2.out.drew
              have hMW := HM.out.keep hbd
              have hU1 : M8 w (.slice (some ⟨g0, o0, none⟩) j ck0) (.slice pl0 j cl0) ⟨g0, o0 + m, none⟩ ⟨bk, ok + j, none⟩ s1 s2 W1.drew := ⟨hMW.box, hU0.one, hU0.two⟩
              by_cases hss : s1 = s2
              · have hq : ∀ W : World, (binOp .eql 9 (.string (strB s1)) (.string (strB s2))).run Tryz.prog W = .ok (.bool true) W := fun W => by rw [bin_eql_str]; simp [hss]
                have hnd : ¬ ks.Nodup := HIq.out.twice hlt HX.out.1 (by rw [← HX.out.2, ← HS2.out]; exact hss)
                have HB3 := Lib.hid hbd
                clear hU0 hbd hMW
                refine plain_region_draws (M8 w (.slice (some ⟨g0, o0, none⟩) j ck0) (.slice pl0 j cl0) ⟨g0, o0 + m, none⟩ ⟨bk, ok + j, none⟩ s1 s2) (by kernel_rfl) hU1 (fun hU1 => ?_)
                refine take 0 43 (v := .int .i64 (m : Int)) rfl rfl (by kernel_rfl) (by kernel_rfl) (by kernel_rfl) rfl (fun W hW => exec_move rfl rfl) (by assumption) ?_
                simp only [Act.put, List.setIfInBounds_toArray, List.set_cons_zero, List.set_cons_succ]
                refine take 1 44 (v := .pointer (some ⟨w.heap.size + 1, 4, none⟩)) rfl rfl (by kernel_rfl) (by kernel_rfl) (by kernel_rfl) rfl (fun W hW => exec_fieldAddr rfl rfl (fa_value _ _ (by decide) W)) (by assumption) ?_
                simp only [Act.put, List.setIfInBounds_toArray, List.set_cons_zero, List.set_cons_succ]
                refine take 2 45 (v := .slice (some ⟨g0, o0, none⟩) j ck0) rfl rfl (by kernel_rfl) (by kernel_rfl) (by kernel_rfl) rfl (fun W hW => exec_load rfl rfl (run_load1 (w := W) Tryz.underlying23 rfl (cellOf hW.box rfl))) (by assumption) ?_
                simp only [Act.put, List.setIfInBounds_toArray, List.set_cons_zero, List.set_cons_succ]
                refine take 3 46 (v := .int .i64 (j : Int)) rfl rfl (by kernel_rfl) (by kernel_rfl) (by kernel_rfl) rfl (fun W hW => exec_lenS rfl rfl) (by assumption) ?_
                simp only [Act.put, List.setIfInBounds_toArray, List.set_cons_zero, List.set_cons_succ]
                refine take 4 47 (v := .bool true) rfl rfl (by kernel_rfl) (by kernel_rfl) (by kernel_rfl) rfl (fun W hW => exec_bini rfl rfl rfl (hc W)) (by assumption) ?_
                simp only [Act.put, List.setIfInBounds_toArray, List.set_cons_zero, List.set_cons_succ]
                refine take 5 48 (v := .bool true) rfl rfl (by kernel_rfl) (by kernel_rfl) (by kernel_rfl) rfl (fun W hW => exec_move rfl rfl) (by assumption) ?_
                simp only [Act.put, List.setIfInBounds_toArray, List.set_cons_zero, List.set_cons_succ]
                refine take 6 49 (v := .pointer (some ⟨w.heap.size + 1, 4, none⟩)) rfl rfl (by kernel_rfl) (by kernel_rfl) (by kernel_rfl) rfl (fun W hW => exec_fieldAddr rfl rfl (fa_value _ _ (by decide) W)) (by assumption) ?_
                simp only [Act.put, List.setIfInBounds_toArray, List.set_cons_zero, List.set_cons_succ]
                refine take 7 50 (v := .slice (some ⟨g0, o0, none⟩) j ck0) rfl rfl (by kernel_rfl) (by kernel_rfl) (by kernel_rfl) rfl (fun W hW => exec_load rfl rfl (run_load1 (w := W) Tryz.underlying23 rfl (cellOf hW.box rfl))) (by assumption) ?_
                simp only [Act.put, List.setIfInBounds_toArray, List.set_cons_zero, List.set_cons_succ]
                refine take 8 51 (v := .int .i64 (m : Int)) rfl rfl (by kernel_rfl) (by kernel_rfl) (by kernel_rfl) rfl (fun W hW => exec_move rfl rfl) (by assumption) ?_
                simp only [Act.put, List.setIfInBounds_toArray, List.set_cons_zero, List.set_cons_succ]
                refine take 9 52 (v := .pointer (some ⟨g0, o0 + m, none⟩)) rfl rfl (by kernel_rfl) (by kernel_rfl) (by kernel_rfl) rfl (fun W hW => exec_indexAddr rfl rfl rfl (ia_keys _ _ _ _ _ hmj W)) (by assumption) ?_
                simp only [Act.put, List.setIfInBounds_toArray, List.set_cons_zero, List.set_cons_succ]
                refine take 10 53 (v := .string (strB s1)) rfl rfl (by kernel_rfl) (by kernel_rfl) (by kernel_rfl) rfl (fun W hW => exec_load rfl rfl (run_load1 (w := W) Tryz.underlying9 rfl hW.one)) (by assumption) ?_
                simp only [Act.put, List.setIfInBounds_toArray, List.set_cons_zero, List.set_cons_succ]
                refine take 11 54 (v := .slice (some ⟨bk, ok, none⟩) ks.length ck) rfl rfl (by kernel_rfl) (by kernel_rfl) (by kernel_rfl) rfl (fun W hW => exec_move rfl rfl) (by assumption) ?_
                simp only [Act.put, List.setIfInBounds_toArray, List.set_cons_zero, List.set_cons_succ]
                refine take 12 55 (v := .int .i64 (j : Int)) rfl rfl (by kernel_rfl) (by kernel_rfl) (by kernel_rfl) rfl (fun W hW => exec_move rfl rfl) (by assumption) ?_
                simp only [Act.put, List.setIfInBounds_toArray, List.set_cons_zero, List.set_cons_succ]
                refine take 13 56 (v := .pointer (some ⟨bk, ok + j, none⟩)) rfl rfl (by kernel_rfl) (by kernel_rfl) (by kernel_rfl) rfl (fun W hW => exec_indexAddr rfl rfl rfl (ia_keys _ _ _ _ _ hlt W)) (by assumption) ?_
                simp only [Act.put, List.setIfInBounds_toArray, List.set_cons_zero, List.set_cons_succ]
                refine take 14 57 (v := .string (strB s2)) rfl rfl (by kernel_rfl) (by kernel_rfl) (by kernel_rfl) rfl (fun W hW => exec_load rfl rfl (run_load1 (w := W) Tryz.underlying9 rfl hW.two)) (by assumption) ?_
                simp only [Act.put, List.setIfInBounds_toArray, List.set_cons_zero, List.set_cons_succ]
                refine take 15 58 (v := .bool true) rfl rfl (by kernel_rfl) (by kernel_rfl) (by kernel_rfl) rfl (fun W hW => exec_bins rfl rfl rfl (hq W)) (by assumption) ?_
                simp only [Act.put, List.setIfInBounds_toArray, List.set_cons_zero, List.set_cons_succ]
                refine take 16 59 (v := .bool true) rfl rfl (by kernel_rfl) (by kernel_rfl) (by kernel_rfl) rfl (fun W hW => rfl) (by assumption) ?_
                simp only [Act.put, List.setIfInBounds_toArray, List.set_cons_zero, List.set_cons_succ]
                refine done (by kernel_rfl) ?_ _
                obtain ⟨W', e1, e2, e3, _, _⟩ := (HM.out.keep HB3.out).back #[.int .i64 0, .bool false, .int .i64 0, .string ⟨#[]⟩, .slice none 0 0, .slice none 0 0] rfl (by simp [Value.oneCell'])
                have HS := Lib.hid e1
                have HL2 := Lib.hid e2
                have HF := Lib.hid (And.intro e3 hnd)
                clear e1 e2 e3 hnd hss hq hU1
                go_wp2_with (first
                  | (refine wpList_store rfl _ _ _ _ rfl rfl rfl HS.out ?_))
                exact bodyPost_ret (results_cell_tmp rfl _ _ ⟨w.heap.size, 0, none⟩ _ (.int .i64 2) rfl rfl HL2.out) rfl (HA.out 2 V0 W' _ HF.out.1 (vpart_zero _ _ _) (.inl ⟨rfl, rfl, HF.out.2⟩))
              · have hq : ∀ W : World, (binOp .eql 9 (.string (strB s1)) (.string (strB s2))).run Tryz.prog W = .ok (.bool false) W := fun W => by rw [bin_eql_str]; simp [hss]
                have HHI : Hid (∀ a, q[m]? = some a → ltB (ks.getD a []) (ks.getD j []) = false ∧ ks.getD a [] ≠ ks.getD j []) := Lib.hid (fun b hb => by
                  have := HX.out.1.symm.trans hb
                  cases this
                  rw [← HX.out.2, ← HS2.out]
                  exact ⟨HLW.out, hss⟩)
                have HB3 := Lib.hid hbd
                clear hU0 hbd hMW
                refine plain_region_draws (M8 w (.slice (some ⟨g0, o0, none⟩) j ck0) (.slice pl0 j cl0) ⟨g0, o0 + m, none⟩ ⟨bk, ok + j, none⟩ s1 s2) (by kernel_rfl) hU1 (fun hU1 => ?_)
                refine take 0 43 (v := .int .i64 (m : Int)) rfl rfl (by kernel_rfl) (by kernel_rfl) (by kernel_rfl) rfl (fun W hW => exec_move rfl rfl) (by assumption) ?_
                simp only [Act.put, List.setIfInBounds_toArray, List.set_cons_zero, List.set_cons_succ]
                refine take 1 44 (v := .pointer (some ⟨w.heap.size + 1, 4, none⟩)) rfl rfl (by kernel_rfl) (by kernel_rfl) (by kernel_rfl) rfl (fun W hW => exec_fieldAddr rfl rfl (fa_value _ _ (by decide) W)) (by assumption) ?_
                simp only [Act.put, List.setIfInBounds_toArray, List.set_cons_zero, List.set_cons_succ]
                refine take 2 45 (v := .slice (some ⟨g0, o0, none⟩) j ck0) rfl rfl (by kernel_rfl) (by kernel_rfl) (by kernel_rfl) rfl (fun W hW => exec_load rfl rfl (run_load1 (w := W) Tryz.underlying23 rfl (cellOf hW.box rfl))) (by assumption) ?_
                simp only [Act.put, List.setIfInBounds_toArray, List.set_cons_zero, List.set_cons_succ]
                refine take 3 46 (v := .int .i64 (j : Int)) rfl rfl (by kernel_rfl) (by kernel_rfl) (by kernel_rfl) rfl (fun W hW => exec_lenS rfl rfl) (by assumption) ?_
                simp only [Act.put, List.setIfInBounds_toArray, List.set_cons_zero, List.set_cons_succ]
                refine take 4 47 (v := .bool true) rfl rfl (by kernel_rfl) (by kernel_rfl) (by kernel_rfl) rfl (fun W hW => exec_bini rfl rfl rfl (hc W)) (by assumption) ?_
                simp only [Act.put, List.setIfInBounds_toArray, List.set_cons_zero, List.set_cons_succ]
                refine take 5 48 (v := .bool true) rfl rfl (by kernel_rfl) (by kernel_rfl) (by kernel_rfl) rfl (fun W hW => exec_move rfl rfl) (by assumption) ?_
                simp only [Act.put, List.setIfInBounds_toArray, List.set_cons_zero, List.set_cons_succ]
                refine take 6 49 (v := .pointer (some ⟨w.heap.size + 1, 4, none⟩)) rfl rfl (by kernel_rfl) (by kernel_rfl) (by kernel_rfl) rfl (fun W hW => exec_fieldAddr rfl rfl (fa_value _ _ (by decide) W)) (by assumption) ?_
                simp only [Act.put, List.setIfInBounds_toArray, List.set_cons_zero, List.set_cons_succ]
                refine take 7 50 (v := .slice (some ⟨g0, o0, none⟩) j ck0) rfl rfl (by kernel_rfl) (by kernel_rfl) (by kernel_rfl) rfl (fun W hW => exec_load rfl rfl (run_load1 (w := W) Tryz.underlying23 rfl (cellOf hW.box rfl))) (by assumption) ?_
                simp only [Act.put, List.setIfInBounds_toArray, List.set_cons_zero, List.set_cons_succ]
                refine take 8 51 (v := .int .i64 (m : Int)) rfl rfl (by kernel_rfl) (by kernel_rfl) (by kernel_rfl) rfl (fun W hW => exec_move rfl rfl) (by assumption) ?_
                simp only [Act.put, List.setIfInBounds_toArray, List.set_cons_zero, List.set_cons_succ]
                refine take 9 52 (v := .pointer (some ⟨g0, o0 + m, none⟩)) rfl rfl (by kernel_rfl) (by kernel_rfl) (by kernel_rfl) rfl (fun W hW => exec_indexAddr rfl rfl rfl (ia_keys _ _ _ _ _ hmj W)) (by assumption) ?_
                simp only [Act.put, List.setIfInBounds_toArray, List.set_cons_zero, List.set_cons_succ]
                refine take 10 53 (v := .string (strB s1)) rfl rfl (by kernel_rfl) (by kernel_rfl) (by kernel_rfl) rfl (fun W hW => exec_load rfl rfl (run_load1 (w := W) Tryz.underlying9 rfl hW.one)) (by assumption) ?_
                simp only [Act.put, List.setIfInBounds_toArray, List.set_cons_zero, List.set_cons_succ]
                refine take 11 54 (v := .slice (some ⟨bk, ok, none⟩) ks.length ck) rfl rfl (by kernel_rfl) (by kernel_rfl) (by kernel_rfl) rfl (fun W hW => exec_move rfl rfl) (by assumption) ?_
                simp only [Act.put, List.setIfInBounds_toArray, List.set_cons_zero, List.set_cons_succ]
                refine take 12 55 (v := .int .i64 (j : Int)) rfl rfl (by kernel_rfl) (by kernel_rfl) (by kernel_rfl) rfl (fun W hW => exec_move rfl rfl) (by assumption) ?_
                simp only [Act.put, List.setIfInBounds_toArray, List.set_cons_zero, List.set_cons_succ]
                refine take 13 56 (v := .pointer (some ⟨bk, ok + j, none⟩)) rfl rfl (by kernel_rfl) (by kernel_rfl) (by kernel_rfl) rfl (fun W hW => exec_indexAddr rfl rfl rfl (ia_keys _ _ _ _ _ hlt W)) (by assumption) ?_
                simp only [Act.put, List.setIfInBounds_toArray, List.set_cons_zero, List.set_cons_succ]
                refine take 14 57 (v := .string (strB s2)) rfl rfl (by kernel_rfl) (by kernel_rfl) (by kernel_rfl) rfl (fun W hW => exec_load rfl rfl (run_load1 (w := W) Tryz.underlying9 rfl hW.two)) (by assumption) ?_
                simp only [Act.put, List.setIfInBounds_toArray, List.set_cons_zero, List.set_cons_succ]
                refine take 15 58 (v := .bool false) rfl rfl (by kernel_rfl) (by kernel_rfl) (by kernel_rfl) rfl (fun W hW => exec_bins rfl rfl rfl (hq W)) (by assumption) ?_
                simp only [Act.put, List.setIfInBounds_toArray, List.set_cons_zero, List.set_cons_succ]
                refine take 16 59 (v := .bool false) rfl rfl (by kernel_rfl) (by kernel_rfl) (by kernel_rfl) rfl (fun W hW => rfl) (by assumption) ?_
                simp only [Act.put, List.setIfInBounds_toArray, List.set_cons_zero, List.set_cons_succ]
                refine done (by kernel_rfl) ?_ _
                clear hU1 hq hss HLW HX HB2 hc
                generalize W1.drew = W2 at *
                obtain ⟨kl, ll, hKs, k0, hsl, hv1⟩ := HG.out
                obtain ⟨a0, a1, a2, a3, a4, a5⟩ := HA6.out
                have hM2 := HM.out.keep HB3.out
                obtain ⟨p1, p2, p3, p4, c1, c2, c3, c4, r1, r2, r3, t1, t2, t3, V1, V2, V3, V4, V5, V6, hC⟩ := cut_any hM2 hv1 (s := s2) (m := m) (by rw [kl]; exact hm) (by rw [ll]; exact hm) (by rw [kl]; omega) (by rw [ll]; omega) hsl hKs
                have HS1 := Lib.hid (fun W => (run_sliceAt_gen Tryz.underlying23 _ _ _ _ W).trans (hC.s1 W))
                have HS2' := Lib.hid (fun W => (run_sliceAt_gen Tryz.underlying23 _ _ _ _ W).trans (hC.s2 W))
                have HS3 := Lib.hid (fun W => (run_sliceAt_gen Tryz.underlying24 _ _ _ _ W).trans (hC.s3 W))
                have HS4 := Lib.hid (fun W => (run_sliceAt_gen Tryz.underlying24 _ _ _ _ W).trans (hC.s4 W))
                obtain ⟨y1, n6, y2, rfl⟩ : ∃ p n c, r3 = Value.slice p n c := by obtain ⟨p, c, e⟩ := slices_of hC.k6; exact ⟨p, _, c, e⟩
                obtain ⟨y3, m6, y4, rfl⟩ : ∃ p n c, t3 = Value.slice p n c := by obtain ⟨p, c, e⟩ := hC.v6.slice; exact ⟨p, _, c, e⟩
                obtain ⟨f1, f2, f3, f4, hN⟩ := hC.m6.put hC.k6 hC.v6
                have HR1 := Lib.hid hC.r1
                have HR2 := Lib.hid hC.r2
                have HR3 := Lib.hid hC.r3
                have HR4 := Lib.hid hC.r4
                have HR5 := Lib.hid hC.r5
                have HR6 := Lib.hid hC.r6
                have HM6 := Lib.hid hN
                clear hN
                have d0 := cellOf (o := 4) hM2.box rfl
                have d2 := cellOf (o := 4) hC.m2.box rfl
                have d3 := cellOf (o := 5) hC.m3.box rfl
                have d5 := cellOf (o := 5) hC.m5.box rfl
                have d1 := belowCell hC.m1.below (ltOf k0) k0
                have e0 := belowCell hC.m4.below (ltOf a0) a0
                have e1 := belowCell hC.m4.below (ltOf a1) a1
                have e2 := belowCell hC.m4.below (ltOf a2) a2
                have e3 := belowCell hC.m4.below (ltOf a3) a3
                have e4 := belowCell hC.m4.below (ltOf a4) a4
                have e5 := belowCell hC.m4.below (ltOf a5) a5
                clear kl ll hKs k0 hsl hv1 a0 a1 a2 a3 a4 a5 hM2 hC
                go_wp2_with (first
                  | (refine wpList_run rfl (exec_slice rfl rfl rfl rfl rfl (HS1.out _)) ?_; clear HS1)
                  | (refine wpList_run rfl (exec_append rfl rfl rfl HR1.out) ?_; clear HR1)
                  | (refine wpList_run rfl (exec_append rfl rfl rfl HR2.out) ?_; clear HR2)
                  | (refine wpList_run rfl (exec_slice rfl rfl rfl rfl rfl (HS2'.out _)) ?_; clear HS2')
                  | (refine wpList_run rfl (exec_append rfl rfl rfl HR3.out) ?_; clear HR3)
                  | (refine wpList_run rfl (exec_slice rfl rfl rfl rfl rfl (HS3.out _)) ?_; clear HS3)
                  | (refine wpList_run rfl (exec_append rfl rfl rfl HR4.out) ?_; clear HR4)
                  | (refine wpList_run rfl (exec_append rfl rfl rfl HR5.out) ?_; clear HR5)
                  | (refine wpList_run rfl (exec_slice rfl rfl rfl rfl rfl (HS4.out _)) ?_; clear HS4)
                  | (refine wpList_run rfl (exec_append rfl rfl rfl HR6.out) ?_; clear HR6))
                go_roundw
                case rel =>
                  refine ⟨j + 1, hlt1, by go_num, Lib.hid ⟨q.take m ++ j :: q.drop m, .slice y1 n6 y2, .slice y3 m6 y4, HIq.out.step hm HLO.out HHI.out, ?_⟩⟩
                  have h6 := HM6.out
                  have hg : l.getD j V0 = l[j]'(by rw [← HE.out]; exact hlt) := by simp [List.getD, show j < l.length by rw [← HE.out]; exact hlt]
                  rw [HS2.out] at h6
                  rw [← hg] at h6
                  have e1 : (q.take m ++ j :: q.drop m).map (fun i => ks.getD i []) = List.take m (q.map fun i => ks.getD i []) ++ [ks.getD j []] ++ List.drop m (q.map fun i => ks.getD i []) := by
                    rw [List.map_append, List.map_cons, List.map_take, List.map_drop, List.append_assoc]; rfl
                  have e2 : (q.take m ++ j :: q.drop m).map (fun i => l.getD i V0) = List.take m (q.map fun i => l.getD i V0) ++ [l.getD j V0] ++ List.drop m (q.map fun i => l.getD i V0) := by
                    rw [List.map_append, List.map_cons, List.map_take, List.map_drop, List.append_assoc]; rfl
                  rw [e1, e2]
                  exact h6
                case measure => simp [intOf]; omega
          · obtain rfl : m = j := by omega
            have hbd : Below Wj.heap.size Wj wr.drew := HB.out.drew
            have hMW := HM.out.keep hbd
            have hU0 : M8 w (.slice pk0 m ck0) (.slice pl0 m cl0) ⟨bk, ok + m, none⟩ ⟨bk, ok + m, none⟩ s2 s2 wr.drew := ⟨hMW.box, belowCell hMW.below (ltOf HG.out.2.2.2.1) HG.out.2.2.2.1, belowCell hMW.below (ltOf HG.out.2.2.2.1) HG.out.2.2.2.1⟩
            have hc : ∀ W : World, (binOp .lss 3 (.int .i64 (m : Int)) (.int .i64 (m : Int))).run Tryz.prog W = .ok (.bool false) W := by
              intro W; simp [go_sem]
            clear hbd hMW
            go_wp2
            refine plain_region_draws (M8 w (.slice pk0 m ck0) (.slice pl0 m cl0) ⟨bk, ok + m, none⟩ ⟨bk, ok + m, none⟩ s2 s2) (by kernel_rfl) hU0 (fun hU0 => ?_)
            refine take 0 24 (v := .int .i64 (m : Int)) rfl rfl (by kernel_rfl) (by kernel_rfl) (by kernel_rfl) rfl (fun W hW => exec_move rfl rfl) (by assumption) ?_
            simp only [Act.put, List.setIfInBounds_toArray, List.set_cons_zero, List.set_cons_succ]
            refine take 1 25 (v := .pointer (some ⟨w.heap.size + 1, 4, none⟩)) rfl rfl (by kernel_rfl) (by kernel_rfl) (by kernel_rfl) rfl (fun W hW => exec_fieldAddr rfl rfl (fa_value _ _ (by decide) W)) (by assumption) ?_
            simp only [Act.put, List.setIfInBounds_toArray, List.set_cons_zero, List.set_cons_succ]
            refine take 2 26 (v := .slice pk0 m ck0) rfl rfl (by kernel_rfl) (by kernel_rfl) (by kernel_rfl) rfl (fun W hW => exec_load rfl rfl (run_load1 (w := W) Tryz.underlying23 rfl (cellOf hW.box rfl))) (by assumption) ?_
            simp only [Act.put, List.setIfInBounds_toArray, List.set_cons_zero, List.set_cons_succ]
            refine take 3 27 (v := .int .i64 (m : Int)) rfl rfl (by kernel_rfl) (by kernel_rfl) (by kernel_rfl) rfl (fun W hW => exec_lenS rfl rfl) (by assumption) ?_
            simp only [Act.put, List.setIfInBounds_toArray, List.set_cons_zero, List.set_cons_succ]
            refine take 4 28 (v := .bool false) rfl rfl (by kernel_rfl) (by kernel_rfl) (by kernel_rfl) rfl (fun W hW => exec_bini rfl rfl rfl (hc W)) (by assumption) ?_
            simp only [Act.put, List.setIfInBounds_toArray, List.set_cons_zero, List.set_cons_succ]
            refine take 5 29 (v := .bool false) rfl rfl (by kernel_rfl) (by kernel_rfl) (by kernel_rfl) rfl (fun W hW => exec_move rfl rfl) (by assumption) ?_
            simp only [Act.put, List.setIfInBounds_toArray, List.set_cons_zero, List.set_cons_succ]
            refine takeNot 6 30 rfl rfl (by kernel_rfl) (by kernel_rfl) (by kernel_rfl) rfl (by assumption) ?_
            simp only [Act.put, List.setIfInBounds_toArray, List.set_cons_zero, List.set_cons_succ]
            refine takeNot 7 31 rfl rfl (by kernel_rfl) (by kernel_rfl) (by kernel_rfl) rfl (by assumption) ?_
            simp only [Act.put, List.setIfInBounds_toArray, List.set_cons_zero, List.set_cons_succ]
            refine takeNot 8 32 rfl rfl (by kernel_rfl) (by kernel_rfl) (by kernel_rfl) rfl (by assumption) ?_
            simp only [Act.put, List.setIfInBounds_toArray, List.set_cons_zero, List.set_cons_succ]
            refine takeNot 9 33 rfl rfl (by kernel_rfl) (by kernel_rfl) (by kernel_rfl) rfl (by assumption) ?_
            simp only [Act.put, List.setIfInBounds_toArray, List.set_cons_zero, List.set_cons_succ]
            refine takeNot 10 34 rfl rfl (by kernel_rfl) (by kernel_rfl) (by kernel_rfl) rfl (by assumption) ?_
            simp only [Act.put, List.setIfInBounds_toArray, List.set_cons_zero, List.set_cons_succ]
            refine takeNot 11 35 rfl rfl (by kernel_rfl) (by kernel_rfl) (by kernel_rfl) rfl (by assumption) ?_
            simp only [Act.put, List.setIfInBounds_toArray, List.set_cons_zero, List.set_cons_succ]
            refine takeNot 12 36 rfl rfl (by kernel_rfl) (by kernel_rfl) (by kernel_rfl) rfl (by assumption) ?_
            simp only [Act.put, List.setIfInBounds_toArray, List.set_cons_zero, List.set_cons_succ]
            refine takeNot 13 37 rfl rfl (by kernel_rfl) (by kernel_rfl) (by kernel_rfl) rfl (by assumption) ?_
            simp only [Act.put, List.setIfInBounds_toArray, List.set_cons_zero, List.set_cons_succ]
            refine takeNot 14 38 rfl rfl (by kernel_rfl) (by kernel_rfl) (by kernel_rfl) rfl (by assumption) ?_
            simp only [Act.put, List.setIfInBounds_toArray, List.set_cons_zero, List.set_cons_succ]
            refine takeNot 15 39 rfl rfl (by kernel_rfl) (by kernel_rfl) (by kernel_rfl) rfl (by assumption) ?_
            simp only [Act.put, List.setIfInBounds_toArray, List.set_cons_zero, List.set_cons_succ]
            refine take 16 40 (v := .bool false) rfl rfl (by kernel_rfl) (by kernel_rfl) (by kernel_rfl) rfl (fun W hW => rfl) (by assumption) ?_
            simp only [Act.put, List.setIfInBounds_toArray, List.set_cons_zero, List.set_cons_succ]
            refine done (by kernel_rfl) ?_ _
            have HB2 := Lib.hid (HB.out.drew)
            clear hU0 HB
            generalize wr.drew = W1 at *
            go_wp2
            have hbd := HB2.out.drew
            have hMW := HM.out.keep hbd
            have hU1 : M8 w (.slice pk0 m ck0) (.slice pl0 m cl0) ⟨bk, ok + m, none⟩ ⟨bk, ok + m, none⟩ s2 s2 W1.drew := ⟨hMW.box, belowCell hMW.below (ltOf HG.out.2.2.2.1) HG.out.2.2.2.1, belowCell hMW.below (ltOf HG.out.2.2.2.1) HG.out.2.2.2.1⟩
            have HHI : Hid (∀ a, q[m]? = some a → ltB (ks.getD a []) (ks.getD m []) = false ∧ ks.getD a [] ≠ ks.getD m []) := Lib.hid (fun b hb => by
              have h1 := (List.getElem?_eq_some_iff.1 hb).1
              have h2 := HIq.out.len
              omega)
            have HB3 := Lib.hid hbd
            clear hbd hMW
            refine plain_region_draws (M8 w (.slice pk0 m ck0) (.slice pl0 m cl0) ⟨bk, ok + m, none⟩ ⟨bk, ok + m, none⟩ s2 s2) (by kernel_rfl) hU1 (fun hU1 => ?_)
            refine take 0 43 (v := .int .i64 (m : Int)) rfl rfl (by kernel_rfl) (by kernel_rfl) (by kernel_rfl) rfl (fun W hW => exec_move rfl rfl) (by assumption) ?_
            simp only [Act.put, List.setIfInBounds_toArray, List.set_cons_zero, List.set_cons_succ]
            refine take 1 44 (v := .pointer (some ⟨w.heap.size + 1, 4, none⟩)) rfl rfl (by kernel_rfl) (by kernel_rfl) (by kernel_rfl) rfl (fun W hW => exec_fieldAddr rfl rfl (fa_value _ _ (by decide) W)) (by assumption) ?_
            simp only [Act.put, List.setIfInBounds_toArray, List.set_cons_zero, List.set_cons_succ]
            refine take 2 45 (v := .slice pk0 m ck0) rfl rfl (by kernel_rfl) (by kernel_rfl) (by kernel_rfl) rfl (fun W hW => exec_load rfl rfl (run_load1 (w := W) Tryz.underlying23 rfl (cellOf hW.box rfl))) (by assumption) ?_
            simp only [Act.put, List.setIfInBounds_toArray, List.set_cons_zero, List.set_cons_succ]
            refine take 3 46 (v := .int .i64 (m : Int)) rfl rfl (by kernel_rfl) (by kernel_rfl) (by kernel_rfl) rfl (fun W hW => exec_lenS rfl rfl) (by assumption) ?_
            simp only [Act.put, List.setIfInBounds_toArray, List.set_cons_zero, List.set_cons_succ]
            refine take 4 47 (v := .bool false) rfl rfl (by kernel_rfl) (by kernel_rfl) (by kernel_rfl) rfl (fun W hW => exec_bini rfl rfl rfl (hc W)) (by assumption) ?_
            simp only [Act.put, List.setIfInBounds_toArray, List.set_cons_zero, List.set_cons_succ]
            refine take 5 48 (v := .bool false) rfl rfl (by kernel_rfl) (by kernel_rfl) (by kernel_rfl) rfl (fun W hW => exec_move rfl rfl) (by assumption) ?_
            simp only [Act.put, List.setIfInBounds_toArray, List.set_cons_zero, List.set_cons_succ]
            refine takeNot 6 49 rfl rfl (by kernel_rfl) (by kernel_rfl) (by kernel_rfl) rfl (by assumption) ?_
            simp only [Act.put, List.setIfInBounds_toArray, List.set_cons_zero, List.set_cons_succ]
            refine takeNot 7 50 rfl rfl (by kernel_rfl) (by kernel_rfl) (by kernel_rfl) rfl (by assumption) ?_
            simp only [Act.put, List.setIfInBounds_toArray, List.set_cons_zero, List.set_cons_succ]
            refine takeNot 8 51 rfl rfl (by kernel_rfl) (by kernel_rfl) (by kernel_rfl) rfl (by assumption) ?_
            simp only [Act.put, List.setIfInBounds_toArray, List.set_cons_zero, List.set_cons_succ]
            refine takeNot 9 52 rfl rfl (by kernel_rfl) (by kernel_rfl) (by kernel_rfl) rfl (by assumption) ?_
            simp only [Act.put, List.setIfInBounds_toArray, List.set_cons_zero, List.set_cons_succ]
            refine takeNot 10 53 rfl rfl (by kernel_rfl) (by kernel_rfl) (by kernel_rfl) rfl (by assumption) ?_
            simp only [Act.put, List.setIfInBounds_toArray, List.set_cons_zero, List.set_cons_succ]
            refine takeNot 11 54 rfl rfl (by kernel_rfl) (by kernel_rfl) (by kernel_rfl) rfl (by assumption) ?_
            simp only [Act.put, List.setIfInBounds_toArray, List.set_cons_zero, List.set_cons_succ]
            refine takeNot 12 55 rfl rfl (by kernel_rfl) (by kernel_rfl) (by kernel_rfl) rfl (by assumption) ?_
            simp only [Act.put, List.setIfInBounds_toArray, List.set_cons_zero, List.set_cons_succ]
            refine takeNot 13 56 rfl rfl (by kernel_rfl) (by kernel_rfl) (by kernel_rfl) rfl (by assumption) ?_
            simp only [Act.put, List.setIfInBounds_toArray, List.set_cons_zero, List.set_cons_succ]
            refine takeNot 14 57 rfl rfl (by kernel_rfl) (by kernel_rfl) (by kernel_rfl) rfl (by assumption) ?_
            simp only [Act.put, List.setIfInBounds_toArray, List.set_cons_zero, List.set_cons_succ]
            refine takeNot 15 58 rfl rfl (by kernel_rfl) (by kernel_rfl) (by kernel_rfl) rfl (by assumption) ?_
            simp only [Act.put, List.setIfInBounds_toArray, List.set_cons_zero, List.set_cons_succ]
            refine take 16 59 (v := .bool false) rfl rfl (by kernel_rfl) (by kernel_rfl) (by kernel_rfl) rfl (fun W hW => rfl) (by assumption) ?_
            simp only [Act.put, List.setIfInBounds_toArray, List.set_cons_zero, List.set_cons_succ]
            refine done (by kernel_rfl) ?_ _
            clear hU1 HB2 hc
            generalize W1.drew = W2 at *
            obtain ⟨kl, ll, hKs, k0, hsl, hv1⟩ := HG.out
            obtain ⟨a0, a1, a2, a3, a4, a5⟩ := HA6.out
            have hM2 := HM.out.keep HB3.out
            obtain ⟨p1, p2, p3, p4, c1, c2, c3, c4, r1, r2, r3, t1, t2, t3, V1, V2, V3, V4, V5, V6, hC⟩ := cut_any hM2 hv1 (s := s2) (m := m) (by rw [kl]; exact hm) (by rw [ll]; exact hm) (by rw [kl]; omega) (by rw [ll]; omega) hsl hKs
            have HS1 := Lib.hid (fun W => (run_sliceAt_gen Tryz.underlying23 _ _ _ _ W).trans (hC.s1 W))
            have HS2' := Lib.hid (fun W => (run_sliceAt_gen Tryz.underlying23 _ _ _ _ W).trans (hC.s2 W))
            have HS3 := Lib.hid (fun W => (run_sliceAt_gen Tryz.underlying24 _ _ _ _ W).trans (hC.s3 W))
            have HS4 := Lib.hid (fun W => (run_sliceAt_gen Tryz.underlying24 _ _ _ _ W).trans (hC.s4 W))
            obtain ⟨y1, n6, y2, rfl⟩ : ∃ p n c, r3 = Value.slice p n c := by obtain ⟨p, c, e⟩ := slices_of hC.k6; exact ⟨p, _, c, e⟩
            obtain ⟨y3, m6, y4, rfl⟩ : ∃ p n c, t3 = Value.slice p n c := by obtain ⟨p, c, e⟩ := hC.v6.slice; exact ⟨p, _, c, e⟩
            obtain ⟨f1, f2, f3, f4, hN⟩ := hC.m6.put hC.k6 hC.v6
            have HR1 := Lib.hid hC.r1
            have HR2 := Lib.hid hC.r2
            have HR3 := Lib.hid hC.r3
            have HR4 := Lib.hid hC.r4
            have HR5 := Lib.hid hC.r5
            have HR6 := Lib.hid hC.r6
            have HM6 := Lib.hid hN
            clear hN
            have d0 := cellOf (o := 4) hM2.box rfl
            have d2 := cellOf (o := 4) hC.m2.box rfl
            have d3 := cellOf (o := 5) hC.m3.box rfl
            have d5 := cellOf (o := 5) hC.m5.box rfl
            have d1 := belowCell hC.m1.below (ltOf k0) k0
            have e0 := belowCell hC.m4.below (ltOf a0) a0
            have e1 := belowCell hC.m4.below (ltOf a1) a1
            have e2 := belowCell hC.m4.below (ltOf a2) a2
            have e3 := belowCell hC.m4.below (ltOf a3) a3
            have e4 := belowCell hC.m4.below (ltOf a4) a4
            have e5 := belowCell hC.m4.below (ltOf a5) a5
            clear kl ll hKs k0 hsl hv1 a0 a1 a2 a3 a4 a5 hM2 hC
            go_wp2_with (first
              | (refine wpList_run rfl (exec_slice rfl rfl rfl rfl rfl (HS1.out _)) ?_; clear HS1)
              | (refine wpList_run rfl (exec_append rfl rfl rfl HR1.out) ?_; clear HR1)
              | (refine wpList_run rfl (exec_append rfl rfl rfl HR2.out) ?_; clear HR2)
              | (refine wpList_run rfl (exec_slice rfl rfl rfl rfl rfl (HS2'.out _)) ?_; clear HS2')
              | (refine wpList_run rfl (exec_append rfl rfl rfl HR3.out) ?_; clear HR3)
              | (refine wpList_run rfl (exec_slice rfl rfl rfl rfl rfl (HS3.out _)) ?_; clear HS3)
              | (refine wpList_run rfl (exec_append rfl rfl rfl HR4.out) ?_; clear HR4)
              | (refine wpList_run rfl (exec_append rfl rfl rfl HR5.out) ?_; clear HR5)
              | (refine wpList_run rfl (exec_slice rfl rfl rfl rfl rfl (HS4.out _)) ?_; clear HS4)
              | (refine wpList_run rfl (exec_append rfl rfl rfl HR6.out) ?_; clear HR6))
            go_roundw
            case rel =>
              refine ⟨m + 1, hlt1, by go_num, Lib.hid ⟨q.take m ++ m :: q.drop m, .slice y1 n6 y2, .slice y3 m6 y4, HIq.out.step hm HLO.out HHI.out, ?_⟩⟩
              have h6 := HM6.out
              have hg : l.getD m V0 = l[m]'(by rw [← HE.out]; exact hlt) := by simp [List.getD, show m < l.length by rw [← HE.out]; exact hlt]
              rw [HS2.out] at h6
              rw [← hg] at h6
              have e1 : (q.take m ++ m :: q.drop m).map (fun i => ks.getD i []) = List.take m (q.map fun i => ks.getD i []) ++ [ks.getD m []] ++ List.drop m (q.map fun i => ks.getD i []) := by
                rw [List.map_append, List.map_cons, List.map_take, List.map_drop, List.append_assoc]; rfl
              have e2 : (q.take m ++ m :: q.drop m).map (fun i => l.getD i V0) = List.take m (q.map fun i => l.getD i V0) ++ [l.getD m V0] ++ List.drop m (q.map fun i => l.getD i V0) := by
                rw [List.map_append, List.map_cons, List.map_take, List.map_drop, List.append_assoc]; rfl
              rw [e1, e2]
              exact h6
            case measure => simp [intOf]; omega
      · obtain rfl : j = ks.length := by omega
        obtain ⟨q, vk, vl, hI, hM⟩ := HI.out
        have hKs : ∀ s ∈ (q.map fun i => ks.getD i []), s.length ≤ 140737488355328 := by
          intro s hs
          obtain ⟨a, ha, rfl⟩ := List.mem_map.1 hs
          have haj : a < ks.length := List.mem_range.1 (hI.perm.mem_iff.1 ha)
          simp only [List.getD, haj, List.getElem?_eq_getElem, Option.getD_some]
          exact HKS.out _ (List.getElem_mem _)
        obtain ⟨pk0, ck0, rfl, hR⟩ := owned_rdS hM.keys (by rw [List.length_map, hI.len]; omega) hKs
        obtain ⟨pl0, cl0, rfl⟩ := hM.vals.slice
        obtain ⟨W', s1, s2, s3, s4⟩ := hM.fin (by rw [List.length_map, hI.len]; omega) (by rw [List.length_map, hI.len]; omega) hKs
        have HLD := Lib.hid (get_val hM.box)
        have HS := Lib.hid s1
        have HL2 := Lib.hid s2
        have HF := Lib.hid (And.intro s3 (And.intro s4 hI))
        clear hM hR s1 s2 s3 s4 HI hI hKs
        go_wp2_with (first
          | (refine wpList_load rfl _ _ _ rfl rfl HLD.out ?_)
          | (refine wpList_store rfl _ _ _ _ rfl rfl rfl HS.out ?_))
        exact bodyPost_ret (results_cell_tmp rfl _ _ ⟨w.heap.size, 0, none⟩ _ (.int .i64 0) rfl rfl HL2.out) rfl (HA.out 0 _ W' _ HF.out.1 HF.out.2.1 (.inr ⟨rfl, q, HF.out.2.2, rfl⟩))
  · have hA : ∀ (W : World) (x : Array Value), Below w.heap.size w W → VPart w0 W (fun b => w.heap.size ≤ b) V0 x → MapRd w0 w ks l (.returned (.tuple #[.agg x, .int .i64 2])) W :=
      fun W x h1 h2 => ⟨h1, x, 2, V0, rfl, h2, .inl ⟨rfl, rfl, .inl he⟩⟩
    generalize MapRd w0 w ks l = Q at *
    have HA := Lib.hid hA
    have HS := Lib.hid (store_newM (W := w) (x0 := .int .i64 0) (x1 := .bool false) (x2 := .int .i64 0) (x3 := .string ⟨#[]⟩) (x4 := .slice none 0 0) (x5 := .slice none 0 0) (by simp [Value.oneCell']))
    have HL2 := Lib.hid (get_val (heap_alloc_new w (.cells #[.int .i64 0, .bool false, .int .i64 0, .string ⟨#[]⟩, .slice none 0 0, .slice none 0 0] 26)))
    have HF := Lib.hid (below_new (w := w) (.cells #[.int .i64 0, .bool false, .int .i64 0, .string ⟨#[]⟩, .slice none 0 0, .slice none 0 0] 26))
    clear hA hb0 hk hl hks hll ht hn
    go_enter Tryz.func37, Tryz.ntmps37
    go_wp2_with (first
      | (refine wpList_store rfl _ _ _ _ rfl rfl rfl HS.out ?_))
    exact bodyPost_ret (results_cell_tmp rfl _ _ ⟨w.heap.size, 0, none⟩ _ (.int .i64 2) rfl rfl HL2.out) rfl (HA.out _ _ HF.out (vpart_zero _ _ _))
end Go.Proofs.YtnkaegdnjfpliaaGreatDoor

/-! Rows of values with the one to spare behind them. -/
namespace Go.Proofs.YtnkaegdnjfpliaaGreatDoor
set_option linter.unusedSimpArgs false
set_option linter.unusedVariables false
open Go.RowKit

/-- A row of values with the one to spare behind it. -/
def LSp (w : World) (P : Nat → Prop) (g c : Nat) (l : List V) : Prop := ∃ xs, OwnsP w P 26 6 (.slice (some ⟨g, 0, none⟩) (l.length + 1) c) (l.length + 1) (xs.flatMap Array.toList ++ sentX.toList) ∧ VSps w P l xs
theorem LSp.keep {w w' : World} {P : Nat → Prop} {g c : Nat} {l : List V} (h : LSp w P g c l) (hk : ∀ b, P b → b < w.heap.size → w'.heap[b]? = w.heap[b]?) : LSp w' P g c l := by
  obtain ⟨xs, h1, h2⟩ := h
  exact ⟨xs, h1.keep hk, h2.keep hk⟩
theorem LSp.below {w w' : World} {P : Nat → Prop} {g c : Nat} {l : List V} (h : LSp w P g c l) (b : Below w.heap.size w w') : LSp w' P g c l := h.keep fun k _ hk => b.block k hk
theorem LSp.imp {w : World} {P P' : Nat → Prop} {g c : Nat} {l : List V} (h : LSp w P g c l) (hp : ∀ b, b < w.heap.size → P b → P' b) : LSp w P' g c l := by
  obtain ⟨xs, h1, h2⟩ := h
  exact ⟨xs, h1.imp hp, h2.imp hp⟩
theorem LSp.facts {w : World} {P : Nat → Prop} {g c : Nat} {l : List V} (h : LSp w P g c l) :
    (l.length + 1 ≤ c ∧ c ≤ 9223372036854775807 ∧ w.cell? ⟨g, l.length * 6, none⟩ = some (.int .i64 77)) ∧ ∀ (j : Nat) (v : V), l[j]? = some v → ∃ x, Six w g (j * 6) x ∧ VSp w P v x := by
  obtain ⟨xs, h2, h3⟩ := h
  have h6 := h3.six
  have hc := h2.1.cells (g := g) rfl
  have hget := VSps_get h3
  have hfl := flatA_len h6
  rw [h3.len] at hfl
  refine ⟨⟨?_, ?_, ?_⟩, fun j v hv => ?_⟩
  · rcases h2.1.2 with ⟨e, _⟩ | ⟨g', cap', cur, e, _, hg, hnc, hcm, _⟩
    · cases e
    · cases e; exact hnc
  · rcases h2.1.2 with ⟨e, _⟩ | ⟨g', cap', cur, e, _, hg, hnc, hcm, _⟩
    · cases e
    · cases e; unfold maxLen at hcm; omega
  · have := hc (l.length * 6) (.int .i64 77) (by rw [List.getElem?_append_right (by rw [hfl]; omega), hfl]; simp [sentX])
    rw [addr_add] at this
    simpa using this
  · have hj := (List.getElem?_eq_some_iff.1 hv).1
    obtain ⟨x, hx, hown⟩ := hget j v hv
    refine ⟨x, ?_, hown⟩
    have hs := hown.size6
    have cell : ∀ i u, i < 6 → x[i]? = some u → w.cell? ⟨g, j * 6 + i, none⟩ = some u := by
      intro i u hi hu
      have := hc (j * 6 + i) u (by rw [List.getElem?_append_left (by rw [hfl]; omega), flat_six h6 j _ hx i hi]; exact hu)
      rw [addr_add, Nat.zero_add] at this
      exact this
    match hx2 : x, hs with
    | ⟨[u0, u1, u2, u3, u4, u5]⟩, _ => exact ⟨_, _, _, _, _, _, rfl, cell 0 _ (by omega) rfl, cell 1 _ (by omega) rfl, cell 2 _ (by omega) rfl, cell 3 _ (by omega) rfl, cell 4 _ (by omega) rfl, cell 5 _ (by omega) rfl⟩
theorem LSp.rd {w : World} {P : Nat → Prop} {g c : Nat} {l : List V} (h : LSp w P g c l) (ht : totVs l ≤ 1000000) : LRd w (some ⟨g, 0, none⟩) c l := by
  obtain ⟨⟨h1, h2, _⟩, h4⟩ := h.facts
  have hlen := totVs_length l
  refine ⟨⟨by omega, ⟨by omega, h2⟩, fun e => by cases e⟩, fun ad had => ?_⟩
  cases had
  refine ⟨fun _ => rfl, fun j v hv => ?_⟩
  obtain ⟨x, h6, hs⟩ := h4 j v hv
  exact ⟨x, by rw [Nat.zero_add]; exact h6, hs.open (by have := totVs_mem (List.mem_of_getElem? hv); omega)⟩
end Go.Proofs.YtnkaegdnjfpliaaGreatDoor

/-! The law's spoil: a value that was answered is written over. Its rows keep their shape, whatever lies where. -/
namespace Go.Proofs.YtnkaegdnjfpliaaGreatDoor
set_option linter.unusedSimpArgs false
set_option linter.unusedVariables false
open Go.RowKit

/-- What spoil may make of a cell: a number of a number, a text of a text. -/
def LikeV (a b : Option Value) : Prop := a = b ∨ (∃ s s', a = some (.string s) ∧ b = some (.string s')) ∨ (∃ n n', a = some (.int .i64 n) ∧ b = some (.int .i64 n'))
theorem LikeV.trans {a b c : Option Value} (h : LikeV a b) (g : LikeV b c) : LikeV a c := by
  rcases h with rfl | ⟨s, s', rfl, rfl⟩ | ⟨n, n', rfl, rfl⟩
  · exact g
  · rcases g with rfl | ⟨t, t', e, rfl⟩ | ⟨m, m', e, rfl⟩
    · exact .inr (.inl ⟨_, _, rfl, rfl⟩)
    · exact .inr (.inl ⟨_, _, rfl, rfl⟩)
    · cases e
  · rcases g with rfl | ⟨t, t', e, rfl⟩ | ⟨m, m', e, rfl⟩
    · exact .inr (.inr ⟨_, _, rfl, rfl⟩)
    · cases e
    · exact .inr (.inr ⟨_, _, rfl, rfl⟩)
theorem LikeV.str {a : Option Value} {s : ByteArray} (h : LikeV (some (.string s)) a) : ∃ s', a = some (.string s') := by
  rcases h with rfl | ⟨t, t', _, rfl⟩ | ⟨m, m', e, rfl⟩
  · exact ⟨_, rfl⟩
  · exact ⟨_, rfl⟩
  · cases e
theorem LikeV.num {a : Option Value} {n : Int} (h : LikeV (some (.int .i64 n)) a) : ∃ n', a = some (.int .i64 n') := by
  rcases h with rfl | ⟨t, t', e, rfl⟩ | ⟨m, m', _, rfl⟩
  · exact ⟨_, rfl⟩
  · cases e
  · exact ⟨_, rfl⟩
theorem LikeV.bool {a : Option Value} {b : Bool} (h : LikeV (some (.bool b)) a) : a = some (.bool b) := by
  rcases h with h | ⟨t, t', e, _⟩ | ⟨m, m', e, _⟩
  · exact h.symm
  · cases e
  · cases e
theorem LikeV.slice {a : Option Value} {p : Option Addr} {n c : Nat} (h : LikeV (some (.slice p n c)) a) : a = some (.slice p n c) := by
  rcases h with h | ⟨t, t', e, _⟩ | ⟨m, m', e, _⟩
  · exact h.symm
  · cases e
  · cases e
/-- Blocks of P may be spoilt, others stay. -/
structure Spoilt (P : Nat → Prop) (W W' : World) : Prop where
  touch : Touch P W W'
  like : ∀ b cs e, P b → W.heap[b]? = some (.cells cs e (0, 0)) → ∃ cs', W'.heap[b]? = some (.cells cs' e (0, 0)) ∧ ∀ i : Nat, LikeV cs[i]? cs'[i]?
theorem Spoilt.refl (P : Nat → Prop) (W : World) : Spoilt P W W := ⟨Touch.refl _ _, fun b cs e _ h => ⟨cs, h, fun _ => .inl rfl⟩⟩
theorem Spoilt.trans {P : Nat → Prop} {W W' W'' : World} (h : Spoilt P W W') (g : Spoilt P W' W'') : Spoilt P W W'' :=
  ⟨h.touch.trans g.touch, fun b cs e hp hb => by
    obtain ⟨cs', h1, h2⟩ := h.like b cs e hp hb
    obtain ⟨cs'', g1, g2⟩ := g.like b cs' e hp h1
    exact ⟨cs'', g1, fun i => (h2 i).trans (g2 i)⟩⟩
theorem Spoilt.of_below {P : Nat → Prop} {W W' : World} (h : Below W.heap.size W W') : Spoilt P W W' :=
  ⟨Touch.of_below h (fun b h1 h2 => absurd h1 (by omega)), fun b cs e _ hb => ⟨cs, belowBlk h (Array.getElem?_eq_some_iff.1 hb).1 hb, fun _ => .inl rfl⟩⟩
theorem Spoilt.set {P : Nat → Prop} {W : World} {g o : Nat} {cs : Array Value} {e : TypeId} {v : Value} (hP : P g) (hg : W.heap[g]? = some (.cells cs e (0, 0))) (hl : LikeV cs[o]? (some v)) : Spoilt P W (W.setCell ⟨g, o, none⟩ v) := by
  refine ⟨(Touch.refl _ _).setCell (.inl hP) _, fun b cs0 e0 hp hb => ?_⟩
  by_cases hbg : b = g
  · subst hbg
    rw [hg] at hb
    cases hb
    refine ⟨_, heap_setCell_same W b o cs e v hg, fun i => ?_⟩
    rw [Array.getElem?_setIfInBounds]
    by_cases hi : o = i
    · subst hi
      rw [if_pos rfl]
      by_cases hlt : o < cs.size
      · rw [if_pos hlt]; exact hl
      · rw [if_neg hlt]
        rw [Array.getElem?_eq_none (by omega)]; exact .inl rfl
    · rw [if_neg hi]; exact .inl rfl
  · exact ⟨cs0, (Below.heap_setCell W ⟨g, o, none⟩ v b hbg).trans hb, fun _ => .inl rfl⟩

/-- Keys' shape. -/
def KSh (w : World) (P : Nat → Prop) (vk : Value) (n : Nat) : Prop := (vk = .slice none 0 0 ∧ n = 0) ∨ ∃ g cap cs, vk = .slice (some ⟨g, 0, none⟩) n cap ∧ P g ∧ w.heap[g]? = some (.cells cs 9 (0, 0)) ∧ ∀ i, i < n → ∃ s, cs[i]? = some (.string s)
mutual
/-- A value's shape: its rows lie in blocks of P. -/
def VSh (w : World) (P : Nat → Prop) : V → Value → Value → Prop
  | .mk _ _ _ _ ks l, vk, vl => KSh w P vk ks.length ∧ ((vl = .slice none 0 0 ∧ l.length = 0) ∨ ∃ g cap cs, vl = .slice (some ⟨g, 0, none⟩) l.length cap ∧ P g ∧ w.heap[g]? = some (.cells cs 26 (0, 0)) ∧ VShs w P cs 0 l)
def VShs (w : World) (P : Nat → Prop) (cs : Array Value) : Nat → List V → Prop
  | _, [] => True
  | i, v :: r => (∃ k b n s vk vl, cs[i * 6]? = some (.int .i64 k) ∧ cs[i * 6 + 1]? = some (.bool b) ∧ cs[i * 6 + 2]? = some (.int .i64 n) ∧ cs[i * 6 + 3]? = some (.string s) ∧ cs[i * 6 + 4]? = some vk ∧ cs[i * 6 + 5]? = some vl ∧ VSh w P v vk vl) ∧ VShs w P cs (i + 1) r
end
theorem VSh_iff {w : World} {P : Nat → Prop} {k : Int} {b : Bool} {n : Int} {t : List UInt8} {ks : List (List UInt8)} {l : List V} {vk vl : Value} : VSh w P (.mk k b n t ks l) vk vl ↔
    KSh w P vk ks.length ∧ ((vl = .slice none 0 0 ∧ l.length = 0) ∨ ∃ g cap cs, vl = .slice (some ⟨g, 0, none⟩) l.length cap ∧ P g ∧ w.heap[g]? = some (.cells cs 26 (0, 0)) ∧ VShs w P cs 0 l) := by rw [VSh]
theorem VShs_iff {w : World} {P : Nat → Prop} {cs : Array Value} : ∀ {l : List V} {i : Nat}, VShs w P cs i l ↔ ∀ (j : Nat) (v : V), l[j]? = some v → ∃ k b n s vk vl, cs[(i + j) * 6]? = some (.int .i64 k) ∧ cs[(i + j) * 6 + 1]? = some (.bool b) ∧ cs[(i + j) * 6 + 2]? = some (.int .i64 n) ∧ cs[(i + j) * 6 + 3]? = some (.string s) ∧ cs[(i + j) * 6 + 4]? = some vk ∧ cs[(i + j) * 6 + 5]? = some vl ∧ VSh w P v vk vl := by
  intro l
  induction l with
  | nil => intro i; simp [VShs]
  | cons a r ih =>
    intro i
    rw [VShs, ih]
    constructor
    · rintro ⟨h1, h2⟩ j v hv
      cases j with
      | zero => simp only [List.getElem?_cons_zero, Option.some.injEq] at hv; subst hv; exact h1
      | succ j => have := h2 j v (by simpa using hv); rwa [show i + 1 + j = i + (j + 1) by omega] at this
    · intro h
      exact ⟨h 0 a rfl, fun j v hv => by have := h (j + 1) v (by simpa using hv); rwa [show i + (j + 1) = i + 1 + j by omega] at this⟩
theorem KSh.spoilt {w w' : World} {P : Nat → Prop} (g : Spoilt P w w') {vk : Value} {n : Nat} (h : KSh w P vk n) : KSh w' P vk n := by
  rcases h with h | ⟨b, cap, cs, h1, h2, h3, h4⟩
  · exact .inl h
  · obtain ⟨cs', g1, g2⟩ := g.like b cs _ h2 h3
    refine .inr ⟨b, cap, cs', h1, h2, g1, fun i hi => ?_⟩
    obtain ⟨s, hs⟩ := h4 i hi
    have := g2 i
    rw [hs] at this
    exact this.str
theorem KSh.slice {w : World} {P : Nat → Prop} {vk : Value} {n : Nat} (h : KSh w P vk n) : ∃ p c, vk = .slice p n c := by
  rcases h with ⟨rfl, rfl⟩ | ⟨b, cap, cs, rfl, _⟩
  · exact ⟨_, _, rfl⟩
  · exact ⟨_, _, rfl⟩
theorem VSh.slices {w : World} {P : Nat → Prop} {v : V} {vk vl : Value} (h : VSh w P v vk vl) : (∃ p c, vk = .slice p v.keys.length c) ∧ ∃ p c, vl = .slice p v.list.length c := by
  cases v with
  | mk k b n t ks l =>
    obtain ⟨h1, h2⟩ := VSh_iff.1 h
    refine ⟨h1.slice, ?_⟩
    rcases h2 with ⟨rfl, e⟩ | ⟨g, cap, cs, rfl, _⟩
    · exact ⟨none, 0, by show _ = Value.slice none l.length 0; rw [e]⟩
    · exact ⟨_, _, rfl⟩
theorem VSh.spoilt {w w' : World} {P : Nat → Prop} (g : Spoilt P w w') : ∀ {v : V} {vk vl : Value}, VSh w P v vk vl → VSh w' P v vk vl := by
  intro v
  refine V.ind (P := fun v => ∀ {vk vl : Value}, VSh w P v vk vl → VSh w' P v vk vl) (fun k b n t ks l ih vk vl h => ?_) v
  obtain ⟨h1, h2⟩ := VSh_iff.1 h
  refine VSh_iff.2 ⟨h1.spoilt g, ?_⟩
  rcases h2 with h2 | ⟨b, cap, cs, e, hp, hb, hs⟩
  · exact .inl h2
  · obtain ⟨cs', g1, g2⟩ := g.like b cs _ hp hb
    refine .inr ⟨b, cap, cs', e, hp, g1, VShs_iff.2 fun j v hv => ?_⟩
    obtain ⟨k, bb, n, s, vk1, vl1, q0, q1, q2, q3, q4, q5, hv1⟩ := VShs_iff.1 hs j v hv
    obtain ⟨⟨p4, c4, e4⟩, ⟨p5, c5, e5⟩⟩ := hv1.slices
    subst e4 e5
    have l0 := g2 ((0 + j) * 6); rw [q0] at l0
    have l1 := g2 ((0 + j) * 6 + 1); rw [q1] at l1
    have l2 := g2 ((0 + j) * 6 + 2); rw [q2] at l2
    have l3 := g2 ((0 + j) * 6 + 3); rw [q3] at l3
    have l4 := g2 ((0 + j) * 6 + 4); rw [q4] at l4
    have l5 := g2 ((0 + j) * 6 + 5); rw [q5] at l5
    obtain ⟨k', e0⟩ := l0.num
    obtain ⟨n', e2⟩ := l2.num
    obtain ⟨s', e3⟩ := l3.str
    exact ⟨k', bb, n', s', _, _, e0, l1.bool, e2, e3, l4.slice, l5.slice, ih v (List.mem_of_getElem? hv) hv1⟩
theorem VOwns_sixes {w : World} {P : Nat → Prop} : ∀ {l : List V} {xs : List (Array Value)}, VOwns w P l xs → ∀ x ∈ xs, x.size = 6 := by
  intro l
  induction l with
  | nil => intro xs h; rw [VOwns] at h; subst h; simp
  | cons a r ih =>
    intro xs h x hx
    obtain ⟨y, q, rfl, g1, g2⟩ := h
    rcases List.mem_cons.1 hx with rfl | hx
    · exact g1.size6
    · exact ih g2 x hx
/-- What was copied has a shape. -/
theorem VOwn.shape {w : World} {P : Nat → Prop} : ∀ {v : V} {x : Array Value}, VOwn w P v x → ∃ k b n s vk vl, x = #[.int .i64 k, .bool b, .int .i64 n, .string s, vk, vl] ∧ VSh w P v vk vl := by
  intro v
  refine V.ind (P := fun v => ∀ {x : Array Value}, VOwn w P v x → ∃ k b n s vk vl, x = #[.int .i64 k, .bool b, .int .i64 n, .string s, vk, vl] ∧ VSh w P v vk vl) (fun k b n t ks l ih x h => ?_) v
  obtain ⟨vk, vl, rfl, h1, xs, h2, h3⟩ := VOwn_iff.1 h
  refine ⟨k, b, n, strB t, vk, vl, rfl, VSh_iff.2 ⟨?_, ?_⟩⟩
  · have hc := fun (g : Nat) (e : vk.ownBlock = some g) => h1.1.cells (g := g) e
    rcases h1.1.2 with ⟨e1, e2⟩ | ⟨g, cap, cur, rfl, _, hg, _⟩
    · exact .inl ⟨e1, e2⟩
    · refine .inr ⟨g, cap, cur, rfl, h1.2 g rfl, hg, fun i hi => ?_⟩
      have := hc g rfl i (strV ks[i]) (by rw [List.getElem?_map, List.getElem?_eq_getElem hi]; rfl)
      rw [addr_add, Nat.zero_add, cell_of_row w g i cur _ _ hg] at this
      exact ⟨_, this⟩
  · have hc := fun (g : Nat) (e : vl.ownBlock = some g) => h2.1.cells (g := g) e
    have h6 := VOwns_sixes h3
    rcases h2.1.2 with ⟨e1, e2⟩ | ⟨g, cap, cur, rfl, _, hg, _⟩
    · exact .inl ⟨e1, e2⟩
    · refine .inr ⟨g, cap, cur, rfl, h2.2 g rfl, hg, VShs_iff.2 fun j v hv => ?_⟩
      obtain ⟨y, hy, hown⟩ := VOwns_get h3 j v hv
      obtain ⟨k', b', n', s', vk', vl', rfl, hsh⟩ := ih v (List.mem_of_getElem? hv) hown
      have cell : ∀ i u, i < 6 → (#[Value.int .i64 k', .bool b', .int .i64 n', .string s', vk', vl'] : Array Value)[i]? = some u → cur[(0 + j) * 6 + i]? = some u := by
        intro i u hi hu
        have := hc g rfl (j * 6 + i) u (by rw [flat_six h6 j _ hy i hi]; exact hu)
        rw [addr_add, Nat.zero_add, cell_of_row w g _ cur _ _ hg] at this
        rw [Nat.zero_add]; exact this
      exact ⟨k', b', n', s', vk', vl', cell 0 _ (by omega) rfl, cell 1 _ (by omega) rfl, cell 2 _ (by omega) rfl, cell 3 _ (by omega) rfl, cell 4 _ (by omega) rfl, cell 5 _ (by omega) rfl, hsh⟩
/-- What spoil keeps of its own. -/
structure SpI (P : Nat → Prop) (W0 : World) (X : Array Value) (W : World) : Prop where
  sp : Spoilt P W0 W
  box : W.heap[W0.heap.size]? = some (.cells X 26 (0, 0))
theorem SpI.next {P : Nat → Prop} {W0 W W' : World} {X : Array Value} (h : SpI P W0 X W) (hP : ∀ b, P b → b < W0.heap.size) (g : Spoilt P W W') : SpI P W0 X W' :=
  ⟨h.sp.trans g, g.touch.heap h.box (fun hp => by have := hP _ hp; omega)⟩
set_option maxRecDepth 100000 in
set_option maxHeartbeats 4000000 in
theorem spoil_len : ∀ (v : V), v.keys.length + totVs v.list ≤ 1000000 → ∀ (P : Nat → Prop) (W : World) (k : Int) (b : Bool) (n : Int) (s : ByteArray) (vk vl : Value), VSh W P v vk vl → (∀ q, P q → q < W.heap.size) →
    Calls Tryz.prog 40 #[.agg #[.int .i64 k, .bool b, .int .i64 n, .string s, vk, vl]] W fun e w' => e = .returned (.tuple #[]) ∧ Spoilt P W w' := by
  refine V.ind fun kv bv nv tv ks l ih => ?_
  intro htot P W k b n s vk vl hsh hP
  simp only [V.keys, V.list] at htot
  have hlen := totVs_length l
  obtain ⟨hk, hl⟩ := VSh_iff.1 hsh
  obtain ⟨⟨pk, ck, rfl⟩, ⟨pl, cl, rfl⟩⟩ := hsh.slices
  have z1 : (ks.length : Int) ≤ 1000000 := by omega
  have z2 : (l.length : Int) ≤ 1000000 := by omega
  have hI : SpI P W #[.int .i64 k, .bool b, .int .i64 n, .string s, .slice pk ks.length ck, .slice pl l.length cl] (W.alloc (.cells #[.int .i64 k, .bool b, .int .i64 n, .string s, .slice pk ks.length ck, .slice pl l.length cl] 26)) := ⟨Spoilt.of_below (below_new _), heap_alloc_new _ _⟩
  have HK := Lib.hid hk
  have HL := Lib.hid hl
  have HP := Lib.hid hP
  have HC := Lib.hid (fun (v : V) (hv : v ∈ l) => ih v hv (by have := totVs_mem hv; have := totV_eq v; omega))
  have HI := Lib.hid hI
  clear ih hsh hk hl hP hI htot hlen
  simp only [V.keys, V.list] at *
  go_enter Tryz.func40, Tryz.ntmps40
  go_wp2
  go_loopw [2] (fun i wr => ∃ j : Nat, j ≤ ks.length ∧ i = .int .i64 (j : Int) ∧ Hid (SpI P W #[.int .i64 k, .bool b, .int .i64 n, .string s, .slice pk ks.length ck, .slice pl l.length cl] wr)) (fun i _ => ks.length - (intOf i).toNat)
  case atStart => exact ⟨0, Nat.zero_le _, rfl, HI⟩
  case round =>
    clear HI
    obtain ⟨j, hj, rfl, HI⟩ := hrel
    have p4 := cellOf (o := 4) HI.out.box rfl; have p5 := cellOf (o := 5) HI.out.box rfl
    by_cases hlt : j < ks.length
    · have hlt1 : j + 1 ≤ ks.length := hlt
      rcases HK.out.spoilt HI.out.sp with ⟨_, e0⟩ | ⟨g, cap, cs, e, hPg, hg, hcell⟩
      · omega
      · cases e
        obtain ⟨s1, hs1⟩ := hcell j hlt
        have q0 := cellOf (o := j) hg hs1
        have f0 := freeOf (o := j) hg
        have HN := Lib.hid (HI.out.next HP.out (Spoilt.set (o := j) (v := .string ⟨#[63]⟩) hPg hg (by rw [hs1]; exact .inr (.inl ⟨_, _, rfl, rfl⟩))))
        clear hg hPg hs1 hcell HI
        go_wp2
        go_roundw
        case rel => exact ⟨j + 1, hlt1, by go_num, HN⟩
        case measure => simp [intOf]; omega
    · obtain rfl : j = ks.length := by omega
      have HI0 := HI
      go_wp2
      go_loopw [3] (fun i wr => ∃ j : Nat, j ≤ l.length ∧ i = .int .i64 (j : Int) ∧ Hid (SpI P W #[.int .i64 k, .bool b, .int .i64 n, .string s, .slice pk ks.length ck, .slice pl l.length cl] wr)) (fun i _ => l.length - (intOf i).toNat)
      case atStart => exact ⟨0, Nat.zero_le _, rfl, HI0⟩
      case round =>
        clear HI0 HI p4 p5
        obtain ⟨j, hj, rfl, HI⟩ := hrel
        have p4 := cellOf (o := 4) HI.out.box rfl; have p5 := cellOf (o := 5) HI.out.box rfl
        by_cases hlt : j < l.length
        · have hlt1 : j + 1 ≤ l.length := hlt
          rcases HL.out with ⟨_, e0⟩ | ⟨g, cap, cs0, e, hPg, hg0, hsh0⟩
          · omega
          · cases e
            obtain ⟨cs, hg, hlk⟩ := HI.out.sp.like g cs0 _ hPg hg0
            have hat : ∀ (W' : World), Spoilt P W W' → ∀ cs, W'.heap[g]? = some (.cells cs 26 (0, 0)) → ∃ k b n s vk vl, cs[j * 6]? = some (.int .i64 k) ∧ cs[j * 6 + 1]? = some (.bool b) ∧ cs[j * 6 + 2]? = some (.int .i64 n) ∧ cs[j * 6 + 3]? = some (.string s) ∧ cs[j * 6 + 4]? = some vk ∧ cs[j * 6 + 5]? = some vl ∧ VSh W' P l[j] vk vl := by
              intro W' hW cs hc
              obtain ⟨cs', h1, h2⟩ := hW.like g cs0 _ hPg hg0
              rw [hc] at h1; cases h1
              obtain ⟨k1, b1, n1, s1, vk1, vl1, q0, q1, q2, q3, q4, q5, hv1⟩ := VShs_iff.1 hsh0 j _ (List.getElem?_eq_getElem hlt)
              rw [Nat.zero_add] at q0 q1 q2 q3 q4 q5
              obtain ⟨⟨p4, c4, e4⟩, ⟨p5, c5, e5⟩⟩ := hv1.slices
              subst e4 e5
              have l0 := h2 (j * 6); rw [q0] at l0
              have l1 := h2 (j * 6 + 1); rw [q1] at l1
              have l2 := h2 (j * 6 + 2); rw [q2] at l2
              have l3 := h2 (j * 6 + 3); rw [q3] at l3
              have l4 := h2 (j * 6 + 4); rw [q4] at l4
              have l5 := h2 (j * 6 + 5); rw [q5] at l5
              obtain ⟨k', e0⟩ := l0.num
              obtain ⟨n', e2⟩ := l2.num
              obtain ⟨s', e3⟩ := l3.str
              exact ⟨k', _, n', s', _, _, e0, l1.bool, e2, e3, l4.slice, l5.slice, hv1.spoilt hW⟩
            obtain ⟨k1, b1, n1, s1, vk1, vl1, q0, q1, q2, q3, q4, q5, hv1⟩ := hat wr HI.out.sp cs hg
            have a0 := cellOf (o := j * 6) hg q0
            have a1 := cellOf (o := j * 6 + 1) hg q1
            have a2 := cellOf (o := j * 6 + 2) hg q2
            have a3 := cellOf (o := j * 6 + 3) hg q3
            have a4 := cellOf (o := j * 6 + 4) hg q4
            have a5 := cellOf (o := j * 6 + 5) hg q5
            have hcall := HC.out l[j] (List.getElem_mem hlt) P wr k1 b1 n1 s1 vk1 vl1 hv1 (fun q hq => Nat.lt_of_lt_of_le (HP.out q hq) HI.out.sp.touch.size)
            have HD := Lib.hid (And.intro hcall (And.intro hat (And.intro hPg hg0)))
            clear hcall hat hPg hg0 hsh0 hg hlk q0 q1 q2 q3 q4 q5 hv1
            go_wp2_with (first
              | (go_at_call 40
                 (
                  refine HD.out.1.mono ?_
                  rintro e w5 ⟨rfl, hsp⟩
                  have hI5 := HI.out.next HP.out hsp
                  obtain ⟨cs5, hg5, _⟩ := hI5.sp.like g cs0 _ HD.out.2.2.1 HD.out.2.2.2
                  obtain ⟨k5, b5, n5, s5, vk5, vl5, q0, _⟩ := HD.out.2.1 w5 hI5.sp cs5 hg5
                  have d5 := cellOf (o := 5) hI5.box rfl
                  have r0 := cellOf (o := j * 6) hg5 q0
                  have f0 := freeOf (o := j * 6) hg5
                  have HN := Lib.hid (hI5.next HP.out (Spoilt.set (o := j * 6) (v := .int .i64 77) HD.out.2.2.1 hg5 (by rw [q0]; exact .inr (.inr ⟨_, _, rfl, rfl⟩))))
                  clear hsp hI5 hg5 q0 HD HI)))
            go_roundw
            case rel => exact ⟨j + 1, hlt1, by go_num, HN⟩
            case measure => simp [intOf]; omega
        · obtain rfl : j = l.length := by omega
          go_wp2
          exact bodyPost_end (results_none rfl _ _ _) rfl ⟨rfl, HI.out.sp⟩
theorem spoil_any (v : V) (h : totV v ≤ 1000000) (P : Nat → Prop) (W : World) (k : Int) (b : Bool) (n : Int) (s : ByteArray) (vk vl : Value) (hs : VSh W P v vk vl) (hP : ∀ q, P q → q < W.heap.size) :
    Calls Tryz.prog 40 #[.agg #[.int .i64 k, .bool b, .int .i64 n, .string s, vk, vl]] W fun e w' => e = .returned (.tuple #[]) ∧ Spoilt P W w' :=
  spoil_len v (by have := totV_eq v; omega) P W k b n s vk vl hs hP
end Go.Proofs.YtnkaegdnjfpliaaGreatDoor

/-! Maps whose keys are strings, as functions: what a lookup, a store do. Nothing of the program is named here. -/
namespace Go.Proofs.YtnkaegdnjfpliaaGreatDoor
set_option linter.unusedSimpArgs false
set_option linter.unusedVariables false
open Go.RowKit

/-- An entry's key, if it is a string. -/
def keyS (e : MapEntry) : Option (List UInt8) := match e.key with | .string s => some s.data.toList | _ => none
theorem keyS_of {e : MapEntry} {k : List UInt8} (h : e.key = .string (strB k)) : keyS e = some k := by simp [keyS, h, strB]

theorem strB_eqb (a b : List UInt8) : (strB a == strB b) = decide (a = b) := by
  rw [beq_toListBytes, strB_toList, strB_toList]
  rw [Bool.eq_iff_iff, beq_iff_eq, decide_eq_true_iff]
/-- The value under a key, in a map's entries. -/
def getE (es : List MapEntry) (k : List UInt8) : Option Value :=
  match es with
  | [] => none
  | e :: r => if keyS e = some k then some e.val else getE r k

def keysOf (es : List MapEntry) : List (List UInt8) := es.filterMap keyS

/-- The entries of a map with string keys: each key once, each birth once. -/
structure GoodE (es : List MapEntry) (clk : Nat) : Prop where
  int : ∀ e ∈ es, ∃ k, e.key = .string (strB k)
  keys : (keysOf es).Nodup
  born : (es.map (·.born)).Nodup
  clock : ∀ e ∈ es, e.born < clk

/-- Block b of w is a map with string keys, which holds m. -/
def StrMap (w : World) (b : Nat) (m : List UInt8 → Option Value) : Prop :=
  ∃ es clk, w.heap[b]? = some (.map es clk) ∧ GoodE es.toList clk ∧ ∀ k, getE es.toList k = m k

theorem StrMap.lt {w : World} {b : Nat} {m : List UInt8 → Option Value} (h : StrMap w b m) : b < w.heap.size := by
  obtain ⟨es, clk, h1, _⟩ := h; exact (Array.getElem?_eq_some_iff.1 h1).1
theorem StrMap.of_heap {w w' : World} {b : Nat} {m : List UInt8 → Option Value} (h : StrMap w b m) (hb : w'.heap[b]? = w.heap[b]?) : StrMap w' b m := by
  obtain ⟨es, clk, h1, h2⟩ := h; exact ⟨es, clk, hb.trans h1, h2⟩
theorem StrMap.touch {S : Nat → Prop} {w w' : World} {b : Nat} {m : List UInt8 → Option Value} (h : StrMap w b m) (g : Touch S w w') (hs : ¬ S b) : StrMap w' b m :=
  h.of_heap (g.block b h.lt hs)
theorem StrMap.grow {w w' : World} {b : Nat} {m : List UInt8 → Option Value} (h : StrMap w b m) (g : Below w.heap.size w w') : StrMap w' b m := h.of_heap (g.block b h.lt)
theorem StrMap.fresh {w : World} {b : Nat} (h : w.heap[b]? = some (.map #[] 0)) : StrMap w b (fun _ => none) :=
  ⟨#[], 0, h, ⟨by simp, by simp [keysOf], by simp, by simp⟩, fun _ => rfl⟩
theorem StrMap.made (w : World) : StrMap (w.alloc (.map #[] 0)) w.heap.size (fun _ => none) :=
  ⟨#[], 0, heap_alloc_new w _, ⟨by simp, by simp [keysOf], by simp, by simp⟩, fun _ => rfl⟩

theorem findNow_str {es : List MapEntry} (hi : ∀ e ∈ es, ∃ k, e.key = .string (strB k)) (k : List UInt8) (i : Nat) :
    ∃ r, Instr.findNow .string (.string (strB k)) es i = some r ∧ r.map (·.2) = getE es k ∧ ∀ p, r = some p → i ≤ p.1 ∧ p.1 - i < es.length ∧ ∃ e, es[p.1 - i]? = some e ∧ e.key = .string (strB k) := by
  induction es generalizing i with
  | nil => exact ⟨none, rfl, rfl, fun p h => by cases h⟩
  | cons e r ih =>
    obtain ⟨j, hj⟩ := hi e (by simp)
    by_cases hjk : k = j
    · subst hjk
      refine ⟨some (i, e.val), by simp [Instr.findNow, hj, Instr.sameNow, strB_eqb], by simp [getE, keyS_of hj], fun p h => ?_⟩
      cases h
      exact ⟨Nat.le_refl _, by simp, e, by simp, hj⟩
    · obtain ⟨q, h1, h2, h3⟩ := ih (fun e he => hi e (by simp [he])) (i + 1)
      refine ⟨q, ?_, ?_, fun p h => ?_⟩
      · have : (strB k == strB j) = false := by rw [strB_eqb, decide_eq_false_iff_not]; exact hjk
        simp only [Instr.findNow, hj, Instr.sameNow, if_true, this]; exact h1
      · rw [h2]; simp [getE, keyS_of hj, Ne.symm hjk]
      · obtain ⟨a, b, e', c, d⟩ := h3 p h
        refine ⟨by omega, by simp; omega, e', ?_, d⟩
        have : p.1 - i = (p.1 - (i + 1)) + 1 := by omega
        rw [this]; simpa using c

section
variable {P : Program} {T K E : TypeId} {w : World} {b : Nat} {m : List UInt8 → Option Value}

theorem run_checkKey_str (hK : P.underlying K = some .string) (empty : Bool) (k : List UInt8) (w : World) : (Instr.checkKey empty 10000 K (.string (strB k))).run P w = .ok () w := by
  have : (10000 : Nat) = 9999 + 1 := rfl
  rw [this, Instr.checkKey]
  simp [Sem.run_bind, run_underlying hK, Result.andThen]

theorem run_findKey_str (hK : P.underlying K = some .string) {es : List MapEntry} (hi : ∀ e ∈ es, ∃ k, e.key = .string (strB k)) (k : List UInt8) (w : World) :
    ∃ r, (Instr.findKey K (.string (strB k)) es).run P w = .ok r w ∧ r.map (·.2) = getE es k ∧ ∀ p, r = some p → p.1 < es.length ∧ ∃ e, es[p.1]? = some e ∧ e.key = .string (strB k) := by
  obtain ⟨r, h1, h2, h3⟩ := findNow_str hi k 0
  refine ⟨r, ?_, h2, fun p h => ?_⟩
  · simp [Instr.findKey, Sem.run_bind, run_underlying hK, Result.andThen, h1]
  · have := h3 p h; simpa using this

/-- A lookup. -/
theorem run_lookup_str (h : StrMap w b m) (hT : P.underlying T = some (.map K E)) (hK : P.underlying K = some .string) {z : Value} (hz : ∀ w, (zeroValue E).run P w = .ok z w) (k : List UInt8) :
    (Instr.lookup T (.map (some b)) (.string (strB k)) false).run P w = .ok ((m k).getD z) w := by
  obtain ⟨es, clk, hb, hg, hm⟩ := h
  obtain ⟨r, h1, h2, _⟩ := run_findKey_str (P := P) hK hg.int k w
  rw [hm] at h2
  unfold Instr.lookup
  simp only [Sem.run_bind, run_underlying hT, Result.andThen_ok, getObj, Sem.run, hb, Sem.run_pure, run_checkKey_str hK, h1]
  cases r with
  | none => simp [← h2, hz]
  | some p => simp [← h2]

theorem run_lookup_nilS (hT : P.underlying T = some (.map K E)) (hK : P.underlying K = some .string) {z : Value} (hz : ∀ w, (zeroValue E).run P w = .ok z w) (k : List UInt8) :
    (Instr.lookup T (.map none) (.string (strB k)) false).run P w = .ok z w := by
  unfold Instr.lookup
  simp only [Sem.run_bind, run_underlying hT, Result.andThen_ok, Sem.run_pure, run_checkKey_str hK]
  simp [Instr.findKey, run_underlying hK, Result.andThen, Instr.findNow, hz]

def updS (m : List UInt8 → Option Value) (k : List UInt8) (v : Value) : List UInt8 → Option Value := fun j => if j = k then some v else m j

theorem getE_none {es : List MapEntry} {k : List UInt8} (h : getE es k = none) : k ∉ keysOf es := by
  induction es with
  | nil => simp [keysOf]
  | cons e r ih =>
    unfold getE at h
    split at h
    · cases h
    · rename_i hne
      unfold keysOf
      rw [List.filterMap_cons]
      cases hk : keyS e with
      | none => exact ih h
      | some j =>
        simp only [List.mem_cons, not_or]
        exact ⟨fun e' => hne (by rw [hk, e']), ih h⟩

theorem getE_append (es : List MapEntry) (k j : List UInt8) (v : Value) (c : Nat) : getE (es ++ [{ key := .string (strB k), val := v, born := c }]) j = match getE es j with | some u => some u | none => if k = j then some v else none := by
  induction es with
  | nil => simp [getE, keyS, strB]
  | cons e r ih =>
    simp only [List.cons_append, getE]
    split
    · rfl
    · exact ih

theorem keysOf_set {es : List MapEntry} {i : Nat} {e e' : MapEntry} (h : es[i]? = some e) (hk : keyS e' = keyS e) : keysOf (es.set i e') = keysOf es := by
  induction es generalizing i with
  | nil => simp at h
  | cons x r ih =>
    cases i with
    | zero => simp at h; subst h; simp [keysOf, List.filterMap_cons, hk]
    | succ i => simp at h; simp only [List.set_cons_succ, keysOf, List.filterMap_cons]; have := ih h; unfold keysOf at this; rw [this]

theorem getE_set {es : List MapEntry} (hn : (keysOf es).Nodup) {i : Nat} {e e' : MapEntry} {k : List UInt8} {v : Value} (h : es[i]? = some e) (hk : keyS e = some k) (hk' : keyS e' = some k) (hv : e'.val = v) (j : List UInt8) :
    getE (es.set i e') j = if j = k then some v else getE es j := by
  induction es generalizing i with
  | nil => simp at h
  | cons x r ih =>
    have hn' : (keysOf r).Nodup := by
      simp only [keysOf, List.filterMap_cons] at hn
      split at hn
      · exact hn
      · exact (List.nodup_cons.1 hn).2
    cases i with
    | zero =>
      simp at h; subst h
      simp only [List.set_cons_zero, getE, hk', hk, hv]
      by_cases hjk : j = k
      · simp [hjk]
      · simp [hjk, Ne.symm hjk]
    | succ i =>
      simp at h
      have hmem : k ∈ keysOf r := by
        simp only [keysOf, List.mem_filterMap]; exact ⟨e, List.mem_of_getElem? h, hk⟩
      simp only [List.set_cons_succ, getE, ih hn' h]
      split
      · rename_i hq
        have : j ≠ k := fun ejk => by
          simp only [keysOf, List.filterMap_cons, hq] at hn
          exact (List.nodup_cons.1 hn).1 (by rw [ejk]; exact hmem)
        simp [this]
      · rfl

theorem modify_toList (es : Array MapEntry) (i : Nat) (e : MapEntry) (f : MapEntry → MapEntry) (h : es[i]? = some e) : (es.modify i f).toList = es.toList.set i (f e) := by
  apply List.ext_getElem?
  intro n
  rw [List.getElem?_set, Array.getElem?_toList, Array.getElem?_modify]
  split
  · rename_i hn; subst hn; obtain ⟨hlt, he⟩ := Array.getElem?_eq_some_iff.1 h; simp [hlt, he]
  · simp

/-- A store. -/
theorem run_mapUpdate_str (h : StrMap w b m) (hT : P.underlying T = some (.map K E)) (hK : P.underlying K = some .string) (k : List UInt8) (v : Value) :
    ∃ w', (Instr.mapUpdate T (.map (some b)) (.string (strB k)) v).run P w = .ok () w' ∧ Touch (fun x => x = b) w w' ∧ StrMap w' b (updS m k v) ∧ w'.heap.size = w.heap.size := by
  obtain ⟨es, clk, hb, hg, hm⟩ := h
  obtain ⟨r, h1, h2, h3⟩ := run_findKey_str (P := P) hK hg.int k w
  rw [hm] at h2
  unfold Instr.mapUpdate
  simp only [Sem.run_bind, run_underlying hT, Result.andThen_ok, getObj, Sem.run, hb, Sem.run_pure, run_checkKey_str hK, h1]
  cases r with
  | none =>
    have hmk : m k = none := by simpa using h2.symm
    refine ⟨w.putObj b (.map (es.push { key := .string (strB k), val := v, born := clk }) (clk + 1)), ?_, (Touch.refl _ _).putObj (.inl (by exact rfl)) _, ⟨_, _, putObj_self hb, ?_, ?_⟩, by simp⟩
    · simp [setObj, Sem.run, hb, World.putObj]
    · refine ⟨?_, ?_, ?_, ?_⟩
      · intro e he
        rw [Array.toList_push] at he
        rcases List.mem_append.1 he with he | he
        · exact hg.int e he
        · cases List.mem_singleton.1 he; exact ⟨k, rfl⟩
      · have := getE_none ((hm k).trans hmk)
        simp only [Array.toList_push, keysOf, List.filterMap_append, List.filterMap_cons, List.filterMap_nil, keyS]
        rw [List.nodup_append]
        refine ⟨hg.keys, by simp, fun a ha c hc => ?_⟩
        simp only [List.mem_singleton] at hc
        subst hc; exact fun e => this (by rw [← e]; exact ha)
      · simp only [Array.toList_push, List.map_append, List.map_cons, List.map_nil]
        rw [List.nodup_append]
        refine ⟨hg.born, by simp, fun a ha c hc => ?_⟩
        simp only [List.mem_singleton] at hc
        obtain ⟨e, he, rfl⟩ := List.mem_map.1 ha
        have := hg.clock e he
        omega
      · intro e he
        simp only [Array.toList_push, List.mem_append, List.mem_singleton] at he
        rcases he with he | rfl
        · have := hg.clock e he; omega
        · simp
    · intro j
      rw [Array.toList_push, getE_append, hm]
      unfold updS
      by_cases hjk : j = k
      · subst hjk; simp [hmk]
      · simp only [hjk, Ne.symm hjk, if_false]
        cases m j <;> rfl
  | some p =>
    obtain ⟨i, u⟩ := p
    obtain ⟨hlt, e, he, hke⟩ := h3 _ rfl
    have hlt' : i < es.size := by simpa using hlt
    have he' : es[i]? = some e := by simpa using he
    have hkt : (Instr.keyThatStays (((es[i]?).map (·.key)).getD (.string (strB k))) (.string (strB k))).run P w = .ok (.string (strB k)) w := by
      simp only [he', Option.map_some, Option.getD_some, hke, Instr.keyThatStays]
      simp [Instr.sameBits, strB_eqb]
    refine ⟨w.putObj b (.map (es.modify i fun e => { e with key := .string (strB k), val := v }) clk), ?_, (Touch.refl _ _).putObj (.inl (by exact rfl)) _, ⟨_, _, putObj_self hb, ?_, ?_⟩, by simp⟩
    · simp only [Sem.run_bind, hkt, Result.andThen_ok]
      simp [setObj, Sem.run, hb, World.putObj]
    · rw [modify_toList es i e _ he']
      refine ⟨?_, ?_, ?_, ?_⟩
      · intro e' h'
        rcases List.mem_or_eq_of_mem_set h' with h' | rfl
        · exact hg.int e' h'
        · exact ⟨k, rfl⟩
      · rw [keysOf_set he (by simp [keyS, hke])]; exact hg.keys
      · rw [List.map_set]
        have : (es.toList.map (·.born)).set i e.born = es.toList.map (·.born) := by
          apply List.ext_getElem?
          intro n
          rw [List.getElem?_set]
          split
          · rename_i h; subst h; simp [he']; omega
          · rfl
        simp only [this]; exact hg.born
      · intro e' h'
        rcases List.mem_or_eq_of_mem_set h' with h' | rfl
        · exact hg.clock e' h'
        · exact hg.clock e (List.mem_of_getElem? he)
    · intro j
      rw [modify_toList es i e _ he', getE_set hg.keys he (keyS_of hke) rfl rfl, hm]
      rfl
end
theorem wpList_mapUpdate {P : Program} {w w' : World} {a : Act} {o : Oper} {ops : Array Oper} {rest : List Oper} {Q : Exit → Act → World → Prop} {t : TypeId} {x y z : Operand} {m k u : Value} (hg : o.guard = none) (ho : o.op = .mapUpdate t x y z) (hx : a.eval x = m) (hy : a.eval y = k) (hz : a.eval z = u)
    (hr : (Instr.mapUpdate t m k u).run P w = .ok () w') (h : wpList P ops Q rest (a.put o.dst undef) w') : wpList P ops Q (o :: rest) a w :=
  wpList_plain hg fun K hK => by unfold Oper.wp; rw [exec_mapUpdate ho hx hy hz hr]; exact hK _ _ h
end Go.Proofs.YtnkaegdnjfpliaaGreatDoor

/-! value.Once. -/
namespace Go.Proofs.YtnkaegdnjfpliaaGreatDoor
set_option linter.unusedSimpArgs false
set_option linter.unusedVariables false
open Go.RowKit

/-! ### Each once, by its text -/
def stepO (out : List V) (v : V) : List V := if textV v ∈ out.map textV then out else out ++ [v]
def onceL (l : List V) : List V := l.foldl stepO []
theorem onceL_snoc (l : List V) (v : V) : onceL (l ++ [v]) = stepO (onceL l) v := by unfold onceL; rw [List.foldl_append]; rfl
theorem fold_mem (t : List UInt8) : ∀ (l out : List V), t ∈ (l.foldl stepO out).map textV ↔ t ∈ out.map textV ∨ t ∈ l.map textV := by
  intro l
  induction l with
  | nil => intro out; simp
  | cons a r ih =>
    intro out
    rw [List.foldl_cons, ih]
    unfold stepO
    by_cases h : textV a ∈ out.map textV
    · rw [if_pos h, List.map_cons, List.mem_cons]
      constructor
      · rintro (h1 | h1)
        · exact .inl h1
        · exact .inr (.inr h1)
      · rintro (h1 | h1 | h1)
        · exact .inl h1
        · exact .inl (h1 ▸ h)
        · exact .inr h1
    · rw [if_neg h, List.map_append, List.mem_append, List.map_cons, List.map_nil, List.mem_singleton, List.map_cons, List.mem_cons]
      constructor
      · rintro ((h1 | h1) | h1)
        · exact .inl h1
        · exact .inr (.inl h1)
        · exact .inr (.inr h1)
      · rintro (h1 | h1 | h1)
        · exact .inl (.inl h1)
        · exact .inl (.inr h1)
        · exact .inr h1
theorem once_mem (l : List V) (t : List UInt8) : t ∈ (onceL l).map textV ↔ t ∈ l.map textV := by
  unfold onceL; rw [fold_mem]; simp
theorem once_length (l : List V) : (onceL l).length ≤ l.length := by
  have : ∀ (l out : List V), (l.foldl stepO out).length ≤ out.length + l.length := by
    intro l
    induction l with
    | nil => intro out; simp
    | cons a r ih =>
      intro out
      rw [List.foldl_cons]
      have h1 := ih (stepO out a)
      have h2 : (stepO out a).length ≤ out.length + 1 := by unfold stepO; split <;> simp
      simp only [List.length_cons]
      omega
  have := this l []
  simpa [onceL] using this
/-- How often a text was met. -/
def metN (l : List V) (t : List UInt8) : Nat := (l.map textV).count t
def metM (l : List V) : List UInt8 → Option Value := fun t => if metN l t = 0 then none else some (.int .i64 (metN l t : Int))
theorem metN_le (l : List V) (t : List UInt8) : metN l t ≤ l.length := by unfold metN; have := List.count_le_length (a := t) (l := l.map textV); simpa using this
theorem metN_zero (l : List V) (t : List UInt8) : metN l t = 0 ↔ t ∉ (onceL l).map textV := by
  rw [once_mem]; unfold metN; exact List.count_eq_zero
theorem metN_snoc (l : List V) (v : V) (t : List UInt8) : metN (l ++ [v]) t = metN l t + if t = textV v then 1 else 0 := by
  unfold metN
  rw [List.map_append, List.count_append, List.map_cons, List.map_nil, List.count_cons, List.count_nil]
  by_cases h : t = textV v
  · subst h; simp
  · have : (textV v == t) = false := by rw [beq_eq_false_iff_ne]; exact fun e => h e.symm
    simp [h, this]
theorem metM_snoc (l : List V) (v : V) : updS (metM l) (textV v) (.int .i64 ((metN l (textV v) : Int) + 1)) = metM (l ++ [v]) := by
  funext t
  unfold updS metM
  rw [metN_snoc]
  by_cases h : t = textV v
  · subst h; simp
  · simp [h]
theorem metM_get (l : List V) (t : List UInt8) : (metM l t).getD (.int .i64 0) = .int .i64 (metN l t : Int) := by
  unfold metM
  by_cases h : metN l t = 0
  · rw [if_pos h, h]; rfl
  · rw [if_neg h]; rfl
/-! ### What lies so far -/
/-- The first blocks of a world. -/
def Cut (W : World) (n : Nat) : World := { W with heap := W.heap.extract 0 n }
theorem Cut.size {W : World} {n : Nat} (h : n ≤ W.heap.size) : (Cut W n).heap.size = n := by simp [Cut]; omega
theorem Cut.below {W : World} {n : Nat} (h : n ≤ W.heap.size) : Below (Cut W n).heap.size (Cut W n) W := by
  refine ⟨rfl, rfl, rfl, by rw [Cut.size h]; exact h, fun b hb => ?_⟩
  rw [Cut.size h] at hb
  show W.heap[b]? = (W.heap.extract 0 n)[b]?
  rw [Array.getElem?_extract, if_pos (by omega), Nat.zero_add]
theorem CInv.recut {W W' : World} {n : Nat} {ov : Value} {m : List V} (hn : n ≤ W.heap.size) (h : CInv (Cut W n) W ov m) (hs : W.heap.size ≤ W'.heap.size) (hk : ∀ b, n ≤ b → b < W.heap.size → W'.heap[b]? = W.heap[b]?) : CInv (Cut W' n) W' ov m := by
  obtain ⟨xs, h1, h2, _⟩ := h
  rw [Cut.size hn] at h1 h2
  have e : (Cut W' n).heap.size = n := Cut.size (by omega)
  refine ⟨xs, ?_, ?_, Cut.below (by omega)⟩
  · rw [e]; exact h1.keep fun b hb hl => hk b hb hl
  · rw [e]; exact h2.keep fun b hb hl => hk b hb.1 hl
structure OInv (w : World) (mb : Nat) (W : World) (o : Value) (m : List V) : Prop where
  le : w.heap.size ≤ mb
  lt : mb < W.heap.size
  out : CInv (Cut W (mb + 1)) W o (onceL m)
  met : StrMap W mb (metM m)
  below : Below w.heap.size w W
theorem OInv.keep {w W W' : World} {mb : Nat} {o : Value} {m : List V} (h : OInv w mb W o m) (g : Below W.heap.size W W') : OInv w mb W' o m :=
  ⟨h.le, by have := h.lt; have := g.size; omega, h.out.recut h.lt g.size fun b _ hb => g.block b hb, h.met.grow g, below_trans h.below g⟩
theorem OInv.start {w w1 : World} (hb : Below w.heap.size w w1) : OInv w w1.heap.size (w1.alloc (.map #[] 0)) (.slice none 0 0) [] :=
  ⟨hb.size, by simp, CInv.start (Cut.below (by simp)), by
    have := StrMap.made w1
    exact this, below_trans hb (below_new _)⟩
theorem OInv.next {w w3 W2 : World} {mb : Nat} {o : Value} {m m' : List V} (hle : w.heap.size ≤ mb) (hlt : mb < w3.heap.size) (hc : CInv (Cut w3 (mb + 1)) W2 o m') (hm : StrMap w3 mb (metM m)) (hb : Below w.heap.size w w3) (e : onceL m = m') : OInv w mb W2 o m := by
  subst e
  obtain ⟨xs, h1, h2, h3⟩ := hc
  have hs : (Cut w3 (mb + 1)).heap.size = mb + 1 := Cut.size hlt
  rw [hs] at h1 h2 h3
  have hsz : mb + 1 ≤ W2.heap.size := by have := h3.size; rw [hs] at this; exact this
  have hcut : ∀ b, b < mb + 1 → W2.heap[b]? = w3.heap[b]? := fun b hb => by
    rw [h3.block b hb]
    show (w3.heap.extract 0 (mb + 1))[b]? = _
    rw [Array.getElem?_extract, if_pos (by omega), Nat.zero_add]
  refine ⟨hle, hsz, ⟨xs, ?_, ?_, Cut.below hsz⟩, hm.of_heap (hcut mb (by omega)), ⟨h3.os.trans hb.os, h3.tape.trans hb.tape, h3.output.trans hb.output, by omega, fun b hlt => (hcut b (by omega)).trans (hb.block b hlt)⟩⟩
  · rw [Cut.size hsz]; exact h1
  · rw [Cut.size hsz]; exact h2
set_option maxRecDepth 100000 in
set_option maxHeartbeats 4000000 in
theorem once_any {w : World} {p : Option Addr} {c : Nat} {l : List V} (hE : Env w) (hl : LRd w p c l) (hr : ∀ v ∈ l, rngV v) (ht : totVs l ≤ 1000000) :
    Calls Tryz.prog 49 #[.slice p l.length c] w fun e w' => ∃ vl, e = .returned vl ∧ LOwn w' (fun b => w.heap.size ≤ b) vl (if fineL l then onceL l else []) ∧ Below w.heap.size w w' := by
  have HF := Lib.hid (fine_any hE hl (by omega))
  have hlen := totVs_length l
  have z1 : (l.length : Int) ≤ 1000000 := by omega
  cases hf : fineL l with
  | false =>
    rw [hf] at HF
    clear hE hl hr ht hlen
    go_enter Tryz.func49, Tryz.ntmps49
    go_wp2_with (go_at_call 62; refine HF.out.mono ?_; rintro e w1 ⟨rfl, hb⟩; have HB := Lib.hid hb; clear hb)
    go_ret
    exact ⟨_, rfl, ⟨[], ⟨⟨rfl, .inl ⟨rfl, rfl⟩⟩, fun g hg => by simp [Value.ownBlock] at hg⟩, rfl⟩, HB.out⟩
  | true =>
    rw [hf] at HF
    have hmay := fineL_may hf
    have HV := Lib.hid (And.intro hl (And.intro hE (fun (v : V) (hv : v ∈ l) (W : World) (x : Array Value) => And.intro (tell_any v (hmay v hv) (hr v hv) (by have := totVs_mem hv; omega) W x) (And.intro (copy_any v (by have := totVs_mem hv; omega) W x) (text_len v (hr v hv))))))
    have HN := Lib.hid (show l.length ≤ 1000000 by omega)
    clear hE hl hr ht hlen hmay
    have hmm := @run_makeMap Tryz.prog
    go_enter Tryz.func49, Tryz.ntmps49
    go_wp2_with (go_at_call 62; refine HF.out.mono ?_; rintro e w1 ⟨rfl, hb⟩; have HS := Lib.hid (OInv.start hb); clear hb)
    go_loopw [4, 14] (fun o i W => ∃ j : Nat, j ≤ l.length ∧ i = .int .i64 (j : Int) ∧ Hid (OInv w w1.heap.size W o (l.take j))) (fun _ i _ => l.length - (intOf i).toNat)
    case atStart => exact ⟨0, Nat.zero_le _, rfl, HS⟩
    case round =>
      clear HS
      obtain ⟨j, hj, rfl, HJ⟩ := hrel
      by_cases hlt : j < l.length
      · have hlt1 : j + 1 ≤ l.length := hlt
        obtain ⟨g1, o1, pk1, ck1, pl1, cl1, rfl, ⟨b0, b1, b2, b3, b4, b5⟩, hv1⟩ := HV.out.1.at hlt
        have a0 := belowCell HJ.out.below (ltOf b0) b0
        have a1 := belowCell HJ.out.below (ltOf b1) b1
        have a2 := belowCell HJ.out.below (ltOf b2) b2
        have a3 := belowCell HJ.out.below (ltOf b3) b3
        have a4 := belowCell HJ.out.below (ltOf b4) b4
        have a5 := belowCell HJ.out.below (ltOf b5) b5
        clear b0 b1 b2 b3 b4 b5
        have hcall := HV.out.2.2 l[j] (List.getElem_mem hlt)
        have htk : l.take (j + 1) = l.take j ++ [l[j]] := List.take_succ_eq_append_getElem hlt
        have hml := metN_le (l.take j) (textV l[j])
        have hml2 : (l.take j).length ≤ 1000000 := by rw [List.length_take]; have := HN.out; omega
        have hz := metN_zero (l.take j) (textV l[j])
        have hol : (onceL (l.take j)).length ≤ 1000000 := by have := once_length (l.take j); omega
        generalize l[j] = s1 at *
        have HD := Lib.hid (And.intro htk (And.intro hcall (And.intro hv1 (And.intro HV.out.2.1 hol))))
        have zs : (strB (textV s1)).size = (textV s1).length := rfl
        clear hcall hv1 htk zs
        by_cases hc : metN (l.take j) (textV s1) = 0
        · have hst : onceL (l.take j ++ [s1]) = onceL (l.take j) ++ [s1] := by rw [onceL_snoc]; unfold stepO; rw [if_neg (hz.1 hc)]
          have HC := Lib.hid (And.intro hc hst)
          clear hc hst hz hml hml2 hol
          go_wp2_with (first
            | (go_at_call 67
               (
                 refine ((HD.out.2.1 _ _).1 (HD.out.2.2.2.1.b (below_trans HJ.out.below (below_new _))) (HD.out.2.2.1.below (below_trans HJ.out.below (below_new _)))).mono ?_
                 rintro e w2 ⟨rfl, hb⟩
                 have hb2 := below_trans (below_new _) hb
                 have hI := HJ.out.keep hb2
                 have hbox := belowBlk hb (by simp) (heap_alloc_new wr (.cells #[.int .i64 s1.kind, .bool s1.b, .int .i64 s1.n, .string (strB s1.text), .slice pk1 s1.keys.length ck1, .slice pl1 s1.list.length cl1] 26))
                 have hlk := run_lookup_str (P := Tryz.prog) (T := 98) hI.met Tryz.underlying98 Tryz.underlying9 (fun w => Tryz.zeroValue3 w) (textV s1)
                 rw [metM_get, HC.out.1] at hlk
                 obtain ⟨w3, hup, hT3, hM3, hz3⟩ := run_mapUpdate_str (P := Tryz.prog) (T := 98) hI.met Tryz.underlying98 Tryz.underlying9 (textV s1) (.int .i64 1)
                 have hM4 : StrMap w3 w1.heap.size (metM (l.take j ++ [s1])) := by
                   have := metM_snoc (l.take j) s1
                   rw [HC.out.1] at this
                   rw [← this]; exact hM3
                 have hlk2 := run_lookup_str (P := Tryz.prog) (T := 98) hM4 Tryz.underlying98 Tryz.underlying9 (fun w => Tryz.zeroValue3 w) (textV s1)
                 rw [metM_get, metN_snoc, HC.out.1] at hlk2
                 rw [if_pos rfl] at hlk2
                 have hne : wr.heap.size ≠ w1.heap.size := fun e => by have := HJ.out.lt; omega
                 have hbox3 := hT3.heap hbox hne
                 have hout := hI.out.recut hI.lt (by omega : w2.heap.size ≤ w3.heap.size) fun b h1 h2 => hT3.block b h2 (by omega)
                 have hb3 : Below w.heap.size w w3 := hT3.below hI.below (fun b h1 h2 => by have := hI.le; omega) hI.below.size
                 have H1 := Lib.hid hlk
                 have H2 := Lib.hid hup
                 have H3 := Lib.hid hlk2
                 have H4 := Lib.hid (get_val hbox3)
                 have HI := Lib.hid (And.intro hout (And.intro hM4 (And.intro hb3 (And.intro hI.le (show w1.heap.size < w3.heap.size by have := hI.lt; omega)))))
                 clear hb hb2 hI hbox hlk hup hT3 hM3 hz3 hM4 hlk2 hne hbox3 hout hb3))
            | (refine wpList_run rfl (exec_lookup rfl rfl rfl H1.out) ?_; simp only [Act.put, List.setIfInBounds_toArray, List.set_cons_zero, List.set_cons_succ])
            | (refine wpList_mapUpdate rfl rfl rfl rfl rfl H2.out ?_)
            | (refine wpList_run rfl (exec_lookup rfl rfl rfl H3.out) ?_; simp only [Act.put, List.setIfInBounds_toArray, List.set_cons_zero, List.set_cons_succ])
            | (refine wpList_load rfl _ _ _ rfl rfl H4.out ?_)
            | (go_at_call 51
               (
                 refine ((HD.out.2.1 _ _).2.1 (HD.out.2.2.1.below HI.out.2.2.1)).mono ?_
                 rintro e w4 ⟨x, rfl, hx, hb⟩
                 obtain ⟨v', W2, ha, hO⟩ := HI.out.1.step (Nat.le_refl _) hb hx HD.out.2.2.2.2 24
                 obtain ⟨vk, vl, rfl, _⟩ := hx.open
                 have Ha := Lib.hid ha
                 have HO := Lib.hid hO
                 clear ha hO hx hb))
            | (refine wpList_append rfl rfl rfl rfl Ha.out ?_))
          go_roundw
          case rel => exact ⟨j + 1, hlt1, by go_num, Lib.hid (OInv.next HI.out.2.2.2.1 HI.out.2.2.2.2 HO.out (by rw [HD.out.1]; exact HI.out.2.1) HI.out.2.2.1 (by rw [HD.out.1]; exact HC.out.2))⟩
          case measure => simp [intOf]; omega
        · have hst : onceL (l.take j ++ [s1]) = onceL (l.take j) := by
            rw [onceL_snoc]; unfold stepO
            by_cases hin : textV s1 ∈ (onceL (l.take j)).map textV
            · rw [if_pos hin]
            · exact absurd (hz.2 hin) hc
          have HC := Lib.hid hst
          generalize hcn : metN (l.take j) (textV s1) = cn at *
          have hN : (cn : Int) + 1 ≤ 1000001 := by omega
          have hq : ((cn : Int) + 1 == 1) = false := by rw [beq_eq_false_iff_ne]; omega
          have hq2 : ¬ (cn : Int) = 0 := by omega
          have HCN := Lib.hid hcn
          clear hcn hst hz hml hml2 hol
          go_wp2_with (first
            | (go_at_call 67
               (
                 refine ((HD.out.2.1 _ _).1 (HD.out.2.2.2.1.b (below_trans HJ.out.below (below_new _))) (HD.out.2.2.1.below (below_trans HJ.out.below (below_new _)))).mono ?_
                 rintro e w2 ⟨rfl, hb⟩
                 have hb2 := below_trans (below_new _) hb
                 have hI := HJ.out.keep hb2
                 have hlk := run_lookup_str (P := Tryz.prog) (T := 98) hI.met Tryz.underlying98 Tryz.underlying9 (fun w => Tryz.zeroValue3 w) (textV s1)
                 rw [metM_get, HCN.out] at hlk
                 obtain ⟨w3, hup, hT3, hM3, hz3⟩ := run_mapUpdate_str (P := Tryz.prog) (T := 98) hI.met Tryz.underlying98 Tryz.underlying9 (textV s1) (.int .i64 ((cn : Int) + 1))
                 have hM4 : StrMap w3 w1.heap.size (metM (l.take j ++ [s1])) := by
                   have := metM_snoc (l.take j) s1
                   rw [HCN.out] at this
                   rw [← this]; exact hM3
                 have hlk2 := run_lookup_str (P := Tryz.prog) (T := 98) hM4 Tryz.underlying98 Tryz.underlying9 (fun w => Tryz.zeroValue3 w) (textV s1)
                 rw [metM_get, metN_snoc, HCN.out, if_pos rfl] at hlk2
                 have hout := hI.out.recut hI.lt (by omega : w2.heap.size ≤ w3.heap.size) fun b h1 h2 => hT3.block b h2 (by omega)
                 have hb3 : Below w.heap.size w w3 := hT3.below hI.below (fun b h1 h2 => by have := hI.le; omega) hI.below.size
                 have hlk3 : (Instr.lookup 98 (.map (some w1.heap.size)) (.string (strB (textV s1))) false).run Tryz.prog w3 = .ok (.int .i64 ((cn : Int) + 1)) w3 := by
                   rw [hlk2]; simp
                 have H1 := Lib.hid hlk
                 have H2 := Lib.hid hup
                 have H3 := Lib.hid hlk3
                 have HI := Lib.hid (And.intro hout (And.intro hM4 (And.intro hb3 (And.intro hI.le (show w1.heap.size < w3.heap.size by have := hI.lt; omega)))))
                 clear hb hb2 hI hlk hup hT3 hM3 hz3 hM4 hlk2 hlk3 hout hb3))
            | (refine wpList_run rfl (exec_lookup rfl rfl rfl H1.out) ?_; simp only [Act.put, List.setIfInBounds_toArray, List.set_cons_zero, List.set_cons_succ])
            | (refine wpList_mapUpdate rfl rfl rfl rfl rfl H2.out ?_)
            | (refine wpList_run rfl (exec_lookup rfl rfl rfl H3.out) ?_; simp only [Act.put, List.setIfInBounds_toArray, List.set_cons_zero, List.set_cons_succ]))
          go_roundw
          case rel => exact ⟨j + 1, hlt1, by go_num, Lib.hid (by rw [HD.out.1]; exact ⟨HI.out.2.2.2.1, HI.out.2.2.2.2, by rw [HC.out]; exact HI.out.1, HI.out.2.1, HI.out.2.2.1⟩)⟩
          case measure => simp [intOf]; omega
      · obtain rfl : j = l.length := by omega
        go_wp2
        go_ret
        have h := HJ.out
        rw [List.take_length] at h
        refine ⟨_, rfl, ?_, h.below⟩
        have := h.out.own
        rw [Cut.size h.lt] at this
        exact this.imp fun b _ hb => by have := h.le; omega
end Go.Proofs.YtnkaegdnjfpliaaGreatDoor

/-! Values in order, plain: one order, counts, each once. -/
namespace Go.Proofs.YtnkaegdnjfpliaaGreatDoor
set_option linter.unusedSimpArgs false
set_option linter.unusedVariables false
open Go.RowKit

/-- Two rising orders of the same values are one. -/
theorem sorted_one {u : List UInt8 → Bool} : ∀ {p q : List V}, p.Perm q → p.Pairwise (fun a b => cmpV a b ≤ 0) → q.Pairwise (fun a b => cmpV a b ≤ 0) → (∀ v ∈ p, mayV u v = true) → p = q
  | [], q, h, _, _, _ => (List.nil_perm.1 h).symm
  | a :: p, [], h, _, _, _ => by have := h.length_eq; simp at this
  | a :: p, b :: q, h, h1, h2, hm => by
    rw [List.pairwise_cons] at h1 h2
    have hab : a = b := by
      by_cases e : a = b
      · exact e
      · have ha : a ∈ q := by
          rcases List.mem_cons.1 (h.mem_iff.1 (List.mem_cons_self (a := a) (l := p))) with c | c
          · exact absurd c e
          · exact c
        have hb : b ∈ p := by
          rcases List.mem_cons.1 (h.mem_iff.2 (List.mem_cons_self (a := b) (l := q))) with c | c
          · exact absurd c.symm e
          · exact c
        have k1 := h1.1 b hb
        have k2 := h2.1 a ha
        have k3 := (ord_cmpV a).anti b
        exact cmpV_zero a (hm a (by simp)) b (hm b (by simp [hb])) (by omega)
    subst hab
    rw [sorted_one (List.Perm.cons_inv h) h1.2 h2.2 fun v hv => hm v (by simp [hv])]
/-- How many stand at one place with a value. -/
def cntV (x : V) (m : List V) : Nat := m.countP fun v => decide (cmpV v x = 0)
theorem cntV_le (x : V) (m : List V) : cntV x m ≤ m.length := List.countP_le_length
theorem cntV_take (x : V) (m : List V) {q : Nat} (hq : q < m.length) : cntV x (m.take (q + 1)) = cntV x (m.take q) + if decide (cmpV m[q] x = 0) = true then 1 else 0 := by
  unfold cntV
  rw [List.take_succ_eq_append_getElem hq, List.countP_append]
  simp [List.countP_cons]
theorem cntV_perm (x : V) {m n : List V} (h : m.Perm n) : cntV x m = cntV x n := h.countP_eq _
theorem cntV_pos {x : V} {m : List V} (h : x ∈ m) : 0 < cntV x m := by
  unfold cntV
  exact List.countP_pos_iff.2 ⟨x, h, by simp [(ord_cmpV x).self]⟩
theorem once_nodup (l : List V) : ((onceL l).map textV).Nodup := by
  have : ∀ (l out : List V), (out.map textV).Nodup → ((l.foldl stepO out).map textV).Nodup := by
    intro l
    induction l with
    | nil => intro out h; exact h
    | cons a r ih =>
      intro out h
      rw [List.foldl_cons]
      refine ih _ ?_
      unfold stepO
      by_cases e : textV a ∈ out.map textV
      · rw [if_pos e]; exact h
      · rw [if_neg e, List.map_append, List.nodup_append]
        refine ⟨h, by simp, fun x hx y hy e2 => ?_⟩
        have : y = textV a := by simpa using hy
        exact e (by rw [← this, ← e2]; exact hx)
  exact this l [] (by simp)
theorem nodup_le {α : Type} [DecidableEq α] : ∀ {a b : List α}, a.Nodup → (∀ x ∈ a, x ∈ b) → a.length ≤ b.length
  | [], b, _, _ => Nat.zero_le _
  | x :: r, b, hn, hs => by
    rw [List.nodup_cons] at hn
    have hx := hs x (by simp)
    have h := nodup_le (a := r) (b := b.erase x) hn.2 fun y hy => (List.mem_erase_of_ne (fun e => hn.1 (by rw [← e]; exact hy))).2 (hs y (by simp [hy]))
    rw [List.length_erase_of_mem hx] at h
    have := List.length_pos_of_mem hx
    simp only [List.length_cons]; omega
theorem once_perm {l m : List V} (h : l.Perm m) : (onceL l).length = (onceL m).length := by
  have h1 : ∀ t, t ∈ (onceL l).map textV ↔ t ∈ (onceL m).map textV := fun t => by
    rw [once_mem, once_mem]; exact (h.map textV).mem_iff
  have a := nodup_le (once_nodup l) fun t ht => (h1 t).1 ht
  have b := nodup_le (once_nodup m) fun t ht => (h1 t).2 ht
  simp only [List.length_map] at a b
  omega
theorem totVs_perm {l m : List V} (h : l.Perm m) : totVs l = totVs m := by
  induction h with
  | nil => rfl
  | cons x _ ih => rw [totVs_cons, totVs_cons, ih]
  | swap x y l => rw [totVs_cons, totVs_cons, totVs_cons, totVs_cons]; omega
  | trans _ _ a b => exact a.trans b
theorem fineL_perm {l m : List V} (h : l.Perm m) : fineL l = fineL m := by
  have e : ∀ {l m : List V}, l.Perm m → fineL l = true → fineL m = true := fun h g => by
    unfold fineL at *
    exact List.all_eq_true.2 fun x hx => List.all_eq_true.1 g x (h.mem_iff.2 hx)
  cases a : fineL l with
  | true => exact (e h a).symm
  | false =>
    cases b : fineL m with
    | true => rw [e h.symm b] at a; cases a
    | false => rfl
/-- Six cells are loaded as a value. -/
theorem load_six {W : World} {g o : Nat} {x : Array Value} (h : Six W g o x) : (loadVar 26 ⟨g, o, none⟩).run Tryz.prog W = .ok (.agg x) W := by
  obtain ⟨c0, c1, c2, c3, c4, c5, rfl, h0, h1, h2, h3, h4, h5⟩ := h
  exact get_six h0 h1 h2 h3 h4 h5
/-- Two elements of rows, while other memory is laid. -/
structure TwoE (W0 : World) (g1 o1 : Nat) (x1 : Array Value) (g2 o2 : Nat) (x2 : Array Value) (W : World) : Prop where
  one : Six W g1 o1 x1
  two : Six W g2 o2 x2
  b : Below W0.heap.size W0 W
theorem TwoE.keep {W0 W W' : World} {g1 o1 g2 o2 : Nat} {x1 x2 : Array Value} (h : TwoE W0 g1 o1 x1 g2 o2 x2 W) (g : Below W.heap.size W W') : TwoE W0 g1 o1 x1 g2 o2 x2 W' := ⟨h.one.below g, h.two.below g, below_trans h.b g⟩
theorem TwoE.start {W : World} {g1 o1 g2 o2 : Nat} {x1 x2 : Array Value} (h1 : Six W g1 o1 x1) (h2 : Six W g2 o2 x2) : TwoE W g1 o1 x1 g2 o2 x2 W.drew := ⟨h1.below (Below.refl _ _).drew, h2.below (Below.refl _ _).drew, (Below.refl _ _).drew⟩
end Go.Proofs.YtnkaegdnjfpliaaGreatDoor

/-! What the law of makes leans on. -/
namespace Go.Proofs.YtnkaegdnjfpliaaGreatDoor
set_option linter.unusedSimpArgs false
set_option linter.unusedVariables false
open Go.RowKit

/-- Owned values are read, however long their keys are. -/
theorem VOwn.rdk {w : World} {P : Nat → Prop} {v : V} {x : Array Value} (h : VOwn w P v x) (ht : totVs v.list ≤ 900000) (hk : v.keys.length ≤ 1000000) (hs : ∀ s ∈ v.keys, s.length ≤ 140737488355328) (hx : v.text.length ≤ 140737488355328) : VRd w v x := by
  cases v with
  | mk k b n t ks l =>
    simp only [V.list, V.keys, V.text] at ht hk hs hx
    obtain ⟨vk, vl, rfl, h1, h2⟩ := VOwn_iff.1 h
    obtain ⟨pk, ck, rfl, r1⟩ := owned_rdS h1 (by omega) hs
    obtain ⟨pl, cl, rfl, r2⟩ := LOwn.rd h2 ht
    exact VRd_iff.2 ⟨_, _, _, _, rfl, hx, r1, r2⟩
/-- What is said of the map that is made. -/
def MapSays (ks : List (List UInt8)) (l : List V) (no : Int) (v : V) : Prop :=
  (no = 2 ∧ v = V0 ∧ (ks.length ≠ l.length ∨ ¬ ks.Nodup)) ∨ (no = 0 ∧ ks.length = l.length ∧ ∃ q : List Nat, Ins ks ks.length q ∧ v = .mk 5 false 0 [] (q.map fun i => ks.getD i []) (q.map fun i => l.getD i V0))
theorem MapSays.one {ks : List (List UInt8)} {l : List V} {n m : Int} {v u : V} (h : MapSays ks l n v) (g : MapSays ks l m u) : n = m ∧ v = u := by
  rcases h with ⟨rfl, rfl, h⟩ | ⟨rfl, h, q, hq, rfl⟩ <;> rcases g with ⟨rfl, rfl, g⟩ | ⟨rfl, g, r, hr, rfl⟩
  · exact ⟨rfl, rfl⟩
  · rcases h with h | h
    · exact absurd g h
    · exact absurd hr.nodup h
  · rcases g with g | g
    · exact absurd h g
    · exact absurd hq.nodup g
  · have e : q = r := rises_one (hq.perm.trans hr.perm.symm) hq.rise hr.rise
    subst e; exact ⟨rfl, rfl⟩
theorem map_perm {l : List V} {q : List Nat} (h : q.Perm (List.range l.length)) : (q.map fun i => l.getD i V0).Perm l := by
  have e : l = (List.range l.length).map fun i => l.getD i V0 := by
    apply List.ext_getElem (by simp)
    intro i h1 h2
    simp [List.getD, h1]
  exact (h.map _).trans (by rw [← e])
/-- How great the map is that is made. -/
theorem MapSays.size {ks : List (List UInt8)} {l : List V} {n : Int} {v : V} (h : MapSays ks l n v) (hs : ∀ s ∈ ks, s.length ≤ 140737488355328) : totVs v.list ≤ totVs l ∧ v.keys.length ≤ ks.length ∧ (∀ s ∈ v.keys, s.length ≤ 140737488355328) ∧ v.text.length ≤ 140737488355328 ∧ (n = 2 ∨ n = 0) := by
  rcases h with ⟨rfl, rfl, _⟩ | ⟨rfl, he, q, hq, rfl⟩
  · exact ⟨by simp [V0, V.list, totVs], by simp [V0, V.keys], by simp [V0, V.keys], by simp [V0, V.text], .inl rfl⟩
  · refine ⟨?_, ?_, fun s hs' => ?_, by simp [V.text], .inr rfl⟩
    · rw [show (V.mk 5 false 0 [] (q.map fun i => ks.getD i []) (q.map fun i => l.getD i V0)).list = q.map fun i => l.getD i V0 from rfl, totVs_perm (map_perm (by rw [← he]; exact hq.perm))]
      exact Nat.le_refl _
    · rw [show (V.mk 5 false 0 [] (q.map fun i => ks.getD i []) (q.map fun i => l.getD i V0)).keys = q.map fun i => ks.getD i [] from rfl, List.length_map, hq.len]
      exact Nat.le_refl _
    · obtain ⟨i, hi, rfl⟩ := List.mem_map.1 (show s ∈ q.map fun i => ks.getD i [] from hs')
      have h1 : i < ks.length := List.mem_range.1 (hq.perm.mem_iff.1 hi)
      simp only [List.getD, h1, List.getElem?_eq_getElem, Option.getD_some]
      exact hs _ (List.getElem_mem _)
theorem mapOk_says {w w' : World} {ks : List (List UInt8)} {l : List V} {e : Ending} (h : MapOk w ks l e w') : Below w.heap.size w w' ∧ ∃ x no v, e = .returned (.tuple #[.agg x, .int .i64 no]) ∧ VOwn w' (In w.heap.size w'.heap.size) v x ∧ MapSays ks l no v := by
  obtain ⟨hb, x, no, v, he, ho, h⟩ := h
  refine ⟨hb, x, no, v, he, ho.imp fun b hb hp => ⟨hp, hb⟩, ?_⟩
  rcases h with h | ⟨h1, h2, q, h3, h4, h5⟩
  · exact .inl h
  · exact .inr ⟨h1, h2, q, ⟨h3, (rises_pair _).1 h5⟩, h4⟩
theorem mapRd_says {w0 w w' : World} {ks : List (List UInt8)} {l : List V} {e : Ending} (h : MapRd w0 w ks l e w') : Below w.heap.size w w' ∧ ∃ x no v, e = .returned (.tuple #[.agg x, .int .i64 no]) ∧ VPart w0 w' (In w.heap.size w'.heap.size) v x ∧ MapSays ks l no v := by
  obtain ⟨hb, x, no, v, he, ho, h⟩ := h
  exact ⟨hb, x, no, v, he, ho.imp fun b hb hp => ⟨hp, hb⟩, h⟩
/-- A box takes a value. -/
theorem box_put {W : World} {p : Nat} {x : Array Value} (h : W.heap[p]? = some (.cells zeroX 26 (0, 0))) (h6 : x.size = 6) (h1 : ∀ u ∈ x.toList, u.oneCell' = true) :
    ∃ W', (storeVar 26 ⟨p, 0, none⟩ (.agg x)).run Tryz.prog W = .ok () W' ∧ W'.heap[p]? = some (.cells x 26 (0, 0)) ∧ Touch (fun b => b = p) W W' := by
  obtain ⟨x0, x1, x2, x3, x4, x5, rfl⟩ : ∃ x0 x1 x2 x3 x4 x5, x = #[x0, x1, x2, x3, x4, x5] := by
    rcases x with ⟨l⟩
    match l, h6 with
    | [x0, x1, x2, x3, x4, x5], _ => exact ⟨x0, x1, x2, x3, x4, x5, rfl⟩
  have e1 := run_storeVar_row (P := Tryz.prog) W p 26 26 _ #[x0, x1, x2, x3, x4, x5] h (by kernel_rfl) rfl (Array.all_eq_true_iff_forall_mem.2 fun u hu => h1 u (by simpa using hu))
  exact ⟨_, e1, setRow_heap W p _ _ _ _ h, ⟨rfl, rfl, rfl, by simp, fun g _ hg => setRow_other W p g _ hg⟩⟩
theorem load_box {W : World} {p : Nat} {x : Array Value} (h : W.heap[p]? = some (.cells x 26 (0, 0))) (h6 : x.size = 6) : (loadVar 26 ⟨p, 0, none⟩).run Tryz.prog W = .ok (.agg x) W := by
  obtain ⟨x0, x1, x2, x3, x4, x5, rfl⟩ : ∃ x0 x1 x2 x3 x4 x5, x = #[x0, x1, x2, x3, x4, x5] := by
    rcases x with ⟨l⟩
    match l, h6 with
    | [x0, x1, x2, x3, x4, x5], _ => exact ⟨x0, x1, x2, x3, x4, x5, rfl⟩
  exact get_val h
theorem setRow_self {W : World} {g : Nat} {cur : Array Value} {t : TypeId} {fr : Nat × Nat} (h : W.heap[g]? = some (.cells cur t fr)) (b : Nat) : (W.setRow g cur).heap[b]? = W.heap[b]? := by
  by_cases e : b = g
  · subst e; rw [setRow_heap W b _ _ _ _ h, h]
  · exact setRow_other W g b cur e
/-- Keys behind a row of none: nothing that lay is turned. -/
theorem keys_grow {W : World} {g0 n0 : Nat} (hg : W.heap[g0]? = some (.cells #[] 9 (0, 0))) (h0 : n0 ≤ g0) {p : Option Addr} {c : Nat} {m : List (List UInt8)} (hm : RdS W p c m) (hn : m.length ≤ 1000000) (ty : TypeId) :
    ∃ v' W', (Builtin.append_ #[23, 23] ty #[.slice (some ⟨g0, 0, none⟩) 0 0, .slice p m.length c]).run Tryz.prog W = .ok v' W' ∧ OwnsP W' (fun b => n0 ≤ b) 9 1 v' m.length (m.map strV) ∧ Below W.heap.size W W' := by
  obtain ⟨i, i1, i2, i3, i4⟩ := info_str
  have hlt := (Array.getElem?_eq_some_iff.1 hg).1
  have hown : W.ownsRow 0 9 1 (.slice (some ⟨g0, 0, none⟩) 0 0) 0 [] := ownsRow_of_heap hg (Nat.le_refl _) (by unfold maxLen; omega) rfl rfl rfl
  by_cases hm0 : m = []
  · subst hm0
    cases p with
    | none =>
      have hc := hm.2.2.1 rfl
      subst hc
      exact ⟨_, W, append_law_nil (P := Tryz.prog) (w := W) 23 ty 9 i 1 Tryz.underlying23 i1 i3 _ 0 _ hown, ⟨hown, fun g e => by cases e; exact h0⟩, Below.refl _ _⟩
    | some ad =>
      have hr := run_append_room (P := Tryz.prog) W 23 ty 9 i Tryz.underlying23 i1 g0 0 0 #[] hg ad 0 c [] (by simp) (fun j u hu => by simp at hu) (by simp) (by omega) (by simp)
      have e : (List.take (0 * i.size) (#[] : Array Value).toList ++ [] ++ List.drop (0 * i.size + ([] : List Value).length) (#[] : Array Value).toList).toArray = #[] := by simp
      rw [e] at hr
      have hs := setRow_self hg
      exact ⟨_, _, hr, ⟨ownsRow_of_heap ((hs g0).trans hg) (Nat.le_refl _) (by unfold maxLen; omega) rfl rfl rfl, fun g e => by cases e; exact h0⟩, ⟨rfl, rfl, rfl, by simp, fun b _ => hs b⟩⟩
  · have hpos : 0 < m.length := by
      cases m with
      | nil => exact absurd rfl hm0
      | cons => simp
    obtain ⟨v', W2, a1, a2, a3, a4, a5⟩ := append_keys (w := W) (n0 := n0) (l := []) ⟨hown, fun g e => by cases e; exact h0⟩ hm (by simpa using hn) (by omega) ty
    rw [List.nil_append] at a2
    obtain ⟨b1, o1, rfl, _⟩ := hm.get (i := 0) hpos
    have hr := run_append_grow (P := Tryz.prog) W 23 ty 9 i _ Tryz.underlying23 i1 i2 ⟨g0, 0, none⟩ 0 0 [] (by simp) (fun j v hv => by simp at hv) ⟨b1, o1, none⟩ m.length c (m.map strV) (by simp [i3]) (fun j u hu => by
        rw [List.getElem?_map] at hu
        obtain ⟨s, hs, rfl⟩ := Option.map_eq_some_iff.1 hu
        rw [addr_add]
        exact (hm.2.2.2.2 _ rfl).2 j s hs) (by omega) (by omega) (growslice_fits (by omega) (by rw [i4]; omega))
    rw [Nat.zero_add] at hr
    have e := a1.symm.trans hr
    cases e
    exact ⟨_, _, a1, a2, ((Below.refl _ _).drew).alloc (by simp) _⟩

/-! ### What the law makes ready -/
theorem fa_parts (y k : Nat) (hk : k < 5) (W : World) : (Instr.fieldAt 44 (.pointer (some ⟨y, 0, none⟩)) k).run Tryz.prog W = .ok (.pointer (some ⟨y, k, none⟩)) W := by
  have : k = 0 ∨ k = 1 ∨ k = 2 ∨ k = 3 ∨ k = 4 := by omega
  rcases this with rfl | rfl | rfl | rfl | rfl <;> simp [go_sem]
/-- The box of the parts. -/
def BoxP (w W : World) (X : Array Value) : Prop := W.heap[w.heap.size]? = some (.cells X 44 (0, 0)) ∧ Below w.heap.size w W
theorem BoxP.start (w : World) (X : Array Value) : BoxP w (w.alloc (.cells X 44)) X := ⟨heap_alloc_new _ _, below_new _⟩
theorem BoxP.below {w W W' : World} {X : Array Value} (h : BoxP w W X) (g : Below W.heap.size W W') : BoxP w W' X := ⟨belowBlk g (Array.getElem?_eq_some_iff.1 h.1).1 h.1, below_trans h.2 g⟩
theorem BoxP.low {w W W' : World} {X : Array Value} (h : BoxP w W X) (g : Below (w.heap.size + 1) W W') : BoxP w W' X := ⟨(g.block _ (by omega)).trans h.1, h.2.trans (g.mono (by omega))⟩
/-- Keys and the spare one are appended, in whatever order. -/
def KeyF (n0 : Nat) (ks : List (List UInt8)) : OpF := fun i W v lo hi => match i with
  | 0 => v = .slice (some ⟨lo, 0, none⟩) 0 0 ∧ lo < hi ∧ W.heap[lo]? = some (.cells #[] 9 (0, 0))
  | 3 => OwnsP W (fun b => n0 ≤ b) 9 1 v ks.length (ks.map strV)
  | _ => v = .slice (some ⟨lo, 0, none⟩) 1 1 ∧ lo < hi ∧ W.heap[lo]? = some (.cells #[.string (strB spareB)] 9 (0, 0))
theorem keyF_keep {n0 : Nat} {ks : List (List UInt8)} (i : Nat) (w w' : World) (v : Value) (lo hi : Nat) (hh : hi ≤ w.heap.size) (hb : Below w.heap.size w w') (h : KeyF n0 ks i w v lo hi) : KeyF n0 ks i w' v lo hi := by
  unfold KeyF at h ⊢
  split at h
  · obtain ⟨e, h1, h2⟩ := h; exact ⟨e, h1, (hb.block _ (by omega)).trans h2⟩
  · exact h.keep fun b _ hlt => hb.block b hlt
  · obtain ⟨e, h1, h2⟩ := h; exact ⟨e, h1, (hb.block _ (by omega)).trans h2⟩
/-- The map's call, and its box. -/
def MkF1 (ks : List (List UInt8)) (l : List V) : OpF := fun i W u lo hi => match i with
  | 2 => ∃ x no v, u = .tuple #[.agg x, .int .i64 no] ∧ MapSays ks l no v ∧ VOwn W (In lo hi) v x
  | _ => u = .pointer (some ⟨lo, 0, none⟩) ∧ lo < hi ∧ W.heap[lo]? = some (.cells zeroX 26 (0, 0))
theorem mkF1_keep {ks : List (List UInt8)} {l : List V} (i : Nat) (w w' : World) (v : Value) (lo hi : Nat) (hh : hi ≤ w.heap.size) (hb : Below w.heap.size w w') (h : MkF1 ks l i w v lo hi) : MkF1 ks l i w' v lo hi := by
  unfold MkF1 at h ⊢
  split at h
  · obtain ⟨x, no, v, e, h1, h2⟩ := h; exact ⟨x, no, v, e, h1, h2.below hb⟩
  · obtain ⟨e, h1, h2⟩ := h; exact ⟨e, h1, (hb.block _ (by omega)).trans h2⟩
def MkF2 (w0 : World) (ks : List (List UInt8)) (l : List V) : OpF := fun i W u lo hi => match i with
  | 4 => ∃ x no v, u = .tuple #[.agg x, .int .i64 no] ∧ MapSays ks l no v ∧ VPart w0 W (In lo hi) v x
  | _ => u = .pointer (some ⟨lo, 0, none⟩) ∧ lo < hi ∧ W.heap[lo]? = some (.cells zeroX 26 (0, 0))
theorem mkF2_keep {w0 : World} {ks : List (List UInt8)} {l : List V} (i : Nat) (w w' : World) (v : Value) (lo hi : Nat) (hh : hi ≤ w.heap.size) (hb : Below w.heap.size w w') (h : MkF2 w0 ks l i w v lo hi) : MkF2 w0 ks l i w' v lo hi := by
  unfold MkF2 at h ⊢
  split at h
  · obtain ⟨x, no, v, e, h1, h2⟩ := h; exact ⟨x, no, v, e, h1, h2.keep fun b _ hlt => hb.block b hlt⟩
  · obtain ⟨e, h1, h2⟩ := h; exact ⟨e, h1, (hb.block _ (by omega)).trans h2⟩
/-- Parts, keys with one to spare, values with one to spare. -/
structure MkA (w : World) (X : Array Value) (ks : List (List UInt8)) (l : List V) (n1 g c g2 c2 : Nat) (W : World) : Prop where
  box : W.heap[w.heap.size]? = some (.cells X 44 (0, 0))
  keys : OwnsP W (In (w.heap.size + 1) n1) 9 1 (.slice (some ⟨g, 0, none⟩) (ks.length + 1) c) (ks.length + 1) (ks.map strV ++ [strV spareB])
  vals : LSp W (In (w.heap.size + 1) n1) g2 c2 l
  below : Below w.heap.size w W
  size : n1 ≤ W.heap.size
section
variable {w W W' : World} {X : Array Value} {ks : List (List UInt8)} {l : List V} {n1 g c g2 c2 : Nat}
theorem MkA.far (h : MkA w X ks l n1 g c g2 c2 W) : w.heap.size + 1 < n1 := by have := h.keys.2 g rfl; have h1 := this.1; have h2 := this.2; omega
theorem MkA.keep (h : MkA w X ks l n1 g c g2 c2 W) (b : Below n1 W W') : MkA w X ks l n1 g c g2 c2 W' := by
  have hf := h.far
  exact ⟨(b.block _ (by omega)).trans h.box, h.keys.keep fun k hk _ => b.block k hk.2, h.vals.keep fun k hk _ => b.block k hk.2, h.below.trans (b.mono (by omega)), Nat.le_trans h.size b.size⟩
theorem MkA.rdK (h : MkA w X ks l n1 g c g2 c2 W) (h1 : ks.length ≤ 1000000) (h2 : ∀ s ∈ ks, s.length ≤ 140737488355328) : RdS W (some ⟨g, 0, none⟩) c ks ∧ ks.length + 1 ≤ c := by
  obtain ⟨a, b, _⟩ := spare_rdS h.keys h1 h2; exact ⟨a, b⟩
theorem MkA.spareK (h : MkA w X ks l n1 g c g2 c2 W) (h1 : ks.length ≤ 1000000) (h2 : ∀ s ∈ ks, s.length ≤ 140737488355328) : W.cell? ⟨g, 0 + ks.length, none⟩ = some (.string (strB spareB)) := by
  obtain ⟨_, _, a⟩ := spare_rdS h.keys h1 h2; rw [Nat.zero_add]; exact a
theorem MkA.spareV (h : MkA w X ks l n1 g c g2 c2 W) : W.cell? ⟨g2, 0 + l.length * 6, none⟩ = some (.int .i64 77) := by
  rw [Nat.zero_add]; exact h.vals.facts.1.2.2
end
/-- What the loop of copies keeps. -/
structure MkL (w : World) (X : Array Value) (ks : List (List UInt8)) (n2 g c : Nat) (W : World) (o : Value) (m : List V) : Prop where
  box : BoxP w W X
  keys : OwnsP W (In (w.heap.size + 1) n2) 9 1 (.slice (some ⟨g, 0, none⟩) (ks.length + 1) c) (ks.length + 1) (ks.map strV ++ [strV spareB])
  size : n2 ≤ W.heap.size
  row : CpI n2 W o m
section
variable {w W W' : World} {X : Array Value} {ks : List (List UInt8)} {m : List V} {n2 g c : Nat} {o : Value}
theorem MkL.far (h : MkL w X ks n2 g c W o m) : w.heap.size + 1 < n2 := by have := h.keys.2 g rfl; have h1 := this.1; have h2 := this.2; omega
theorem MkL.below (h : MkL w X ks n2 g c W o m) (b : Below W.heap.size W W') : MkL w X ks n2 g c W' o m :=
  ⟨h.box.below b, h.keys.keep fun k _ hk => b.block k hk, Nat.le_trans h.size b.size, h.row.below b⟩
theorem MkL.turn {o' : Value} {m' : List V} (h : MkL w X ks n2 g c W o m) (b : Below n2 W W') (r : CpI n2 W' o' m') : MkL w X ks n2 g c W' o' m' :=
  ⟨h.box.low (b.mono (by have := h.far; omega)), h.keys.keep fun k hk _ => b.block k hk.2, Nat.le_trans h.size b.size, r⟩
theorem MkL.start (h : BoxP w W X) (k : OwnsP W (fun b => w.heap.size + 1 ≤ b) 9 1 (.slice (some ⟨g, 0, none⟩) (ks.length + 1) c) (ks.length + 1) (ks.map strV ++ [strV spareB])) : MkL w X ks W.heap.size g c W (.slice none 0 0) [] :=
  ⟨h, k.imp fun b hb hp => ⟨hp, hb⟩, Nat.le_refl _, CpI.start _ _⟩
theorem MkL.last {h0 : Nat} (h : MkL w X ks n2 g c W o m) (hc : W.heap[h0]? = some (.cells sentX 26 (0, 0))) (hm : m.length ≤ 1000000) (ty : TypeId) :
    ∃ g2 c2 W2, (Builtin.append_ #[24, 24] ty #[o, .slice (some ⟨h0, 0, none⟩) 1 1]).run Tryz.prog W = .ok (.slice (some ⟨g2, 0, none⟩) (m.length + 1) c2) W2 ∧ m.length + 1 ≤ c2 ∧ MkA w X ks m W2.heap.size g c g2 c2 W2 := by
  have hf := h.far
  obtain ⟨g2, c2, W2, a1, ⟨xs, a2, a3⟩, a4⟩ := h.row.last h.size hc hm ty
  have hz := h.size
  have hz2 := a4.size
  have hL : LSp W2 (In (w.heap.size + 1) W2.heap.size) g2 c2 m := ⟨xs, a2.imp fun b hb hp => ⟨by omega, hb⟩, a3.imp fun b hb hp => ⟨by omega, hb⟩⟩
  have hb := h.box.low (a4.mono (by omega))
  exact ⟨g2, c2, W2, a1, hL.facts.1.1, hb.1, (h.keys.keep fun k hk _ => a4.block k hk.2).imp fun b _ hp => ⟨hp.1, by have := hp.2; omega⟩, hL, hb.2, Nat.le_refl _⟩
end
/-- .. and the map in its box. -/
structure MkB (w : World) (X : Array Value) (ks : List (List UInt8)) (l : List V) (n1 g c g2 c2 bm : Nat) (mx : Array Value) (mv : V) (no : Int) (lm um : Nat) (W : World) : Prop where
  a : MkA w X ks l n1 g c g2 c2 W
  hm : W.heap[bm]? = some (.cells mx 26 (0, 0))
  om : VOwn W (In lm um) mv mx
  says : MapSays ks l no mv
  far : n1 ≤ lm ∧ n1 ≤ bm ∧ um ≤ W.heap.size ∧ (um ≤ bm ∨ bm < lm)
/-- .. and the document's, and a list. -/
structure MkC (w : World) (X : Array Value) (ks : List (List UInt8)) (l : List V) (n1 g c g2 c2 bm : Nat) (mx : Array Value) (mv : V) (no : Int) (lm um bw : Nat) (wx : Array Value) (W : World) : Prop where
  b : MkB w X ks l n1 g c g2 c2 bm mx mv no lm um W
  hw : W.heap[bw]? = some (.cells wx 26 (0, 0))
  rw : VRd W mv wx
structure MkD (w : World) (X : Array Value) (ks : List (List UInt8)) (l : List V) (n1 g c g2 c2 bm : Nat) (mx : Array Value) (mv : V) (no : Int) (lm um bw : Nat) (wx : Array Value) (bx : Nat) (xx : Array Value) (lx ux : Nat) (W : World) : Prop where
  a : MkA w X ks l n1 g c g2 c2 W
  hm : W.heap[bm]? = some (.cells mx 26 (0, 0))
  om : VOwn W (In lm um) mv mx
  hw : W.heap[bw]? = some (.cells wx 26 (0, 0))
  rw : VRd W mv wx
  hx : W.heap[bx]? = some (.cells xx 26 (0, 0))
  ox : VOwn W (In lx ux) (.mk 4 false 0 [] [] l) xx
  far : n1 ≤ lm ∧ um ≤ lx ∧ (ux ≤ bx ∧ lx ≤ bx ∧ n1 ≤ lx) ∧ um ≤ W.heap.size
section
variable {w W W' : World} {X : Array Value} {ks : List (List UInt8)} {l : List V} {n1 g c g2 c2 bm : Nat} {mx : Array Value} {mv : V} {no : Int} {lm um bw : Nat} {wx : Array Value} {bx : Nat} {xx : Array Value} {lx ux : Nat}
theorem MkB.keep (h : MkB w X ks l n1 g c g2 c2 bm mx mv no lm um W) (b : Below W.heap.size W W') : MkB w X ks l n1 g c g2 c2 bm mx mv no lm um W' :=
  ⟨h.a.keep (b.mono h.a.size), (b.block _ (Array.getElem?_eq_some_iff.1 h.hm).1).trans h.hm, h.om.below b, h.says, h.far.1, h.far.2.1, Nat.le_trans h.far.2.2.1 b.size, h.far.2.2.2⟩
theorem MkB.lt (h : MkB w X ks l n1 g c g2 c2 bm mx mv no lm um W) : bm < W.heap.size ∧ um ≤ W.heap.size ∧ n1 ≤ W.heap.size := ⟨(Array.getElem?_eq_some_iff.1 h.hm).1, h.far.2.2.1, h.a.size⟩
theorem MkB.put {p : Nat} (h : MkB w X ks l n1 g c g2 c2 bm mx mv no lm um W) (t : Touch (fun b => b = p) W W') (hp : bm < p ∧ um ≤ p ∧ n1 ≤ p) : MkB w X ks l n1 g c g2 c2 bm mx mv no lm um W' :=
  ⟨h.a.keep (t.toBelow h.a.size fun b hb e => by omega), t.heap h.hm (by omega), h.om.keep fun b hb hlt => t.block b hlt (by have := hb.2; omega), h.says, h.far.1, h.far.2.1, Nat.le_trans h.far.2.2.1 t.size, h.far.2.2.2⟩
theorem MkC.keep (h : MkC w X ks l n1 g c g2 c2 bm mx mv no lm um bw wx W) (b : Below W.heap.size W W') : MkC w X ks l n1 g c g2 c2 bm mx mv no lm um bw wx W' :=
  ⟨h.b.keep b, (b.block _ (Array.getElem?_eq_some_iff.1 h.hw).1).trans h.hw, h.rw.below b⟩
theorem MkD.keep (h : MkD w X ks l n1 g c g2 c2 bm mx mv no lm um bw wx bx xx lx ux W) (b : Below W.heap.size W W') : MkD w X ks l n1 g c g2 c2 bm mx mv no lm um bw wx bx xx lx ux W' :=
  ⟨h.a.keep (b.mono h.a.size), (b.block _ (Array.getElem?_eq_some_iff.1 h.hm).1).trans h.hm, h.om.below b, (b.block _ (Array.getElem?_eq_some_iff.1 h.hw).1).trans h.hw, h.rw.below b, (b.block _ (Array.getElem?_eq_some_iff.1 h.hx).1).trans h.hx, h.ox.below b, h.far.1, h.far.2.1, h.far.2.2.1, Nat.le_trans h.far.2.2.2 b.size⟩
/-- The map comes into its box. -/
theorem MkA.made {V1 : World} (h : MkA w X ks l n1 g c g2 c2 W) (hb : Below W.heap.size W V1) (ho : VOwn V1 (In W.heap.size V1.heap.size) mv mx) (hs : MapSays ks l no mv) :
    ∃ V2, (storeVar 26 ⟨V1.heap.size, 0, none⟩ (.agg mx)).run Tryz.prog (V1.alloc (.cells zeroX 26)) = .ok () V2 ∧ MkB w X ks l n1 g c g2 c2 V1.heap.size mx mv no W.heap.size V1.heap.size V2 := by
  have hz := h.size
  have hz1 := hb.size
  have hbn := below_new (w := V1) (.cells zeroX 26)
  obtain ⟨V2, st, hm, t⟩ := box_put (heap_alloc_new V1 (.cells zeroX 26)) ho.size6 ho.ones
  have hlow : Below V1.heap.size V1 V2 := t.below hbn (fun b hb e => by omega) hbn.size
  exact ⟨V2, st, h.keep ((hb.mono hz).trans (hlow.mono (by omega))), hm, ho.below hlow, hs, hz, by omega, hlow.size, .inl (Nat.le_refl _)⟩
/-- The document's map comes into its box. -/
theorem MkB.made {U1 : World} (h : MkB w X ks l n1 g c g2 c2 bm mx mv no lm um W) (hb : Below W.heap.size W U1) (ho : VPart w U1 (In W.heap.size U1.heap.size) mv wx) (hk : ks.length ≤ 1000000) (hl : totVs l ≤ 1000000) (hs : ∀ s ∈ ks, s.length ≤ 140737488355328) :
    ∃ U2, (storeVar 26 ⟨U1.heap.size, 0, none⟩ (.agg wx)).run Tryz.prog (U1.alloc (.cells zeroX 26)) = .ok () U2 ∧ MkC w X ks l n1 g c g2 c2 bm mx mv no lm um U1.heap.size wx U2 := by
  have hbn := below_new (w := U1) (.cells zeroX 26)
  obtain ⟨U2, st, hw, t⟩ := box_put (heap_alloc_new U1 (.cells zeroX 26)) ho.size6 ho.ones
  have hlow : Below U1.heap.size U1 U2 := t.below hbn (fun b hb e => by omega) hbn.size
  have h2 := (h.keep hb).keep hlow
  have hz := h.says.size hs
  have hf := h.a.far
  have hn1 := h.a.size
  have ho2 := ho.keep (W' := U2) fun b _ hlt => hlow.block b hlt
  exact ⟨U2, st, h2, hw, ho2.rd (fun b hb => by have := hb.1; omega) h2.a.below (by omega) (by have := totVs_length mv.list; omega) hz.2.2.1 hz.2.2.2.1⟩
/-- The list comes into its box. -/
theorem MkC.made {W1 : World} (h : MkC w X ks l n1 g c g2 c2 bm mx mv no lm um bw wx W) (hb : Below W.heap.size W W1) (ho : VOwn W1 (fun b => W.heap.size ≤ b) (.mk 4 false 0 [] [] l) xx) :
    ∃ W2, (storeVar 26 ⟨W1.heap.size, 0, none⟩ (.agg xx)).run Tryz.prog (W1.alloc (.cells zeroX 26)) = .ok () W2 ∧ MkD w X ks l n1 g c g2 c2 bm mx mv no lm um bw wx W1.heap.size xx W.heap.size W1.heap.size W2 := by
  have h1 := h.keep hb
  obtain ⟨W2, st, hx, t⟩ := box_put (heap_alloc_new W1 (.cells zeroX 26)) ho.size6 ho.ones
  have hbn := below_new (w := W1) (.cells zeroX 26)
  have hlow : Below W1.heap.size W1 W2 := t.below hbn (fun b hb e => by omega) hbn.size
  have h2 := h1.keep hlow
  have ho2 := (ho.imp (P' := In W.heap.size W1.heap.size) fun b hb hp => ⟨hp, hb⟩).below hlow
  exact ⟨W2, st, h2.b.a, h2.b.hm, h2.b.om, h2.hw, h2.rw, hx, ho2, h.b.far.1, h.b.far.2.2.1, ⟨Nat.le_refl _, hb.size, h.b.a.size⟩, h2.b.far.2.2.1⟩
/-- The map is spoilt. -/
theorem MkD.spoilM (h : MkD w X ks l n1 g c g2 c2 bm mx mv no lm um bw wx bx xx lx ux W) (hn : mv.keys.length + totVs mv.list ≤ 1000000) :
    Calls Tryz.prog 40 #[.agg mx] W fun e w' => e = .returned (.tuple #[]) ∧ MkA w X ks l n1 g c g2 c2 w' ∧ w'.heap[bx]? = some (.cells xx 26 (0, 0)) ∧ VOwn w' (In lx ux) (.mk 4 false 0 [] [] l) xx := by
  obtain ⟨f1, f2, f3, f4⟩ := h.far
  obtain ⟨k, b, n, s, vk, vl, rfl, hsh⟩ := h.om.shape
  refine (spoil_len mv hn (In lm um) W k b n s vk vl hsh (fun q hq => by have := hq.2; omega)).mono fun e w' ⟨he, hs⟩ => ⟨he, ?_, ?_, ?_⟩
  · exact h.a.keep (hs.touch.toBelow h.a.size fun b hb e => by have := e.1; omega)
  · exact hs.touch.heap h.hx (fun e => by have := e.1; have := e.2; omega)
  · exact h.ox.keep fun b hb hlt => hs.touch.block b hlt (fun e => by have := hb.1; have := e.2; omega)
theorem spoilX (h : MkA w X ks l n1 g c g2 c2 W) (ho : VOwn W (In lx ux) (.mk 4 false 0 [] [] l) xx) (hn : totVs l ≤ 1000000) (hf : n1 ≤ lx) (hu : ux ≤ W.heap.size) :
    Calls Tryz.prog 40 #[.agg xx] W fun e w' => e = .returned (.tuple #[]) ∧ MkA w X ks l n1 g c g2 c2 w' := by
  obtain ⟨k, b, n, s, vk, vl, rfl, hsh⟩ := ho.shape
  refine (spoil_len _ (by simpa [V.keys, V.list] using hn) (In lx ux) W k b n s vk vl hsh (fun q hq => by have := hq.2; omega)).mono fun e w' ⟨he, hs⟩ => ⟨he, ?_⟩
  exact h.keep (hs.touch.toBelow h.size fun b hb e => by have := e.1; omega)
end
theorem exec_buildL {a : Act} {w : World} {o : Oper} {x : Operand} {p : Option Addr} {n c : Nat} (ho : o.op = .build 26 #[(0, .const (.int .i64 4)), (5, x)]) (hx : a.eval x = .slice p n c) : (execOp a.eval o).run Tryz.prog w = .ok (.value (.agg #[.int .i64 4, .bool false, .int .i64 0, .string ⟨#[]⟩, .slice none 0 0, .slice p n c])) w := by
  unfold execOp; simp [ho, go_sem, hx, Act.eval] at hx ⊢; simp [hx]
theorem exec_build0 {a : Act} {w : World} {o : Oper} (ho : o.op = .build 26 #[]) : (execOp a.eval o).run Tryz.prog w = .ok (.value (.agg (flatX 0 false 0 []))) w := by
  unfold execOp; simp [ho, go_sem, flatX, strB]
theorem exec_buildB {a : Act} {w : World} {o : Oper} {x : Operand} {b : Bool} (ho : o.op = .build 26 #[(0, .const (.int .i64 1)), (1, x)]) (hx : a.eval x = .bool b) : (execOp a.eval o).run Tryz.prog w = .ok (.value (.agg (flatX 1 b 0 []))) w := by
  unfold execOp; simp [ho, go_sem, hx, Act.eval, flatX, strB] at hx ⊢; simp [hx]
theorem exec_buildI {a : Act} {w : World} {o : Oper} {x : Operand} {n : Int} (ho : o.op = .build 26 #[(0, .const (.int .i64 2)), (2, x)]) (hx : a.eval x = .int .i64 n) : (execOp a.eval o).run Tryz.prog w = .ok (.value (.agg (flatX 2 false n []))) w := by
  unfold execOp; simp [ho, go_sem, hx, Act.eval, flatX, strB] at hx ⊢; simp [hx]
theorem exec_buildT {a : Act} {w : World} {o : Oper} {x : Operand} {s : List UInt8} (ho : o.op = .build 26 #[(0, .const (.int .i64 3)), (3, x)]) (hx : a.eval x = .string (strB s)) : (execOp a.eval o).run Tryz.prog w = .ok (.value (.agg (flatX 3 false 0 s))) w := by
  unfold execOp; simp [ho, go_sem, hx, Act.eval, flatX] at hx ⊢; simp [hx]
end Go.Proofs.YtnkaegdnjfpliaaGreatDoor

/-! The law ValueMakes. Printed by gen_makes.py. -/
namespace Go.Proofs.YtnkaegdnjfpliaaGreatDoor
set_option linter.unusedSimpArgs false
set_option linter.unusedVariables false
open Go.RowKit

theorem add_one {n : Nat} (h : n ≤ 1000000) : ∀ W : World, (binOp .add 3 (.int .i64 (n : Int)) (.int .i64 1)).run Tryz.prog W = .ok (.int .i64 ((n + 1 : Nat) : Int)) W := fun W => by
  have h2 : IntKind.i64.wrap ((n : Int) + 1) = ((n + 1 : Nat) : Int) := by simp [IntKind.wrap, IntKind.bits, IntKind.signed]; omega
  simp only [binOp]
  simp [go_sem, h2]
set_option maxRecDepth 100000 in
set_option maxHeartbeats 16000000 in
theorem makes_law {w : World} {b : Bool} {n : Int} {s : List UInt8} {pk : Option Addr} {ck : Nat} {ks : List (List UInt8)} {pl : Option Addr} {cl : Nat} {l : List V} (hE : Env w) (hs : s.length ≤ 140737488355328) (hk : RdS w pk ck ks) (hl : LRd w pl cl l) :
    Calls Tryz.prog 6 #[.agg #[.bool b, .int .i64 n, .string (strB s), .slice pk ks.length ck, .slice pl l.length cl]] w fun e w' => e = .returned (.bool true) ∧ Below w.heap.size w w' := by
  have hT := BoxP.start w #[.bool b, .int .i64 n, .string (strB s), .slice pk ks.length ck, .slice pl l.length cl]
  have zs : (strB s).size = s.length := rfl
  have z1 : (ks.length : Int) ≤ 140737488355328 := by have := hk.2.1.1; omega
  have z2 : (l.length : Int) ≤ 140737488355328 := by have := hl.1.2.1; omega
  have z3 : (s.length : Int) ≤ 140737488355328 := by omega
  have hks := hk.2.2.2.1
  have HW := Lib.hid (fun (W : World) (h : BoxP w W #[.bool b, .int .i64 n, .string (strB s), .slice pk ks.length ck, .slice pl l.length cl]) => (works_any (hE.b h.2)).mono (R' := fun e w' => e = .returned (.bool true) ∧ BoxP w w' #[.bool b, .int .i64 n, .string (strB s), .slice pk ks.length ck, .slice pl l.length cl]) fun _ _ h' => ⟨h'.1, h.below h'.2⟩)
  have HSM := Lib.hid ((small_any (hl.below hT.2)).mono (R' := fun e w' => e = .returned (.bool (decide (totVs l ≤ 2000))) ∧ BoxP w w' #[.bool b, .int .i64 n, .string (strB s), .slice pk ks.length ck, .slice pl l.length cl]) fun _ _ h' => ⟨h'.1, hT.below h'.2⟩)
  have px2 := cellOf (o := 2) hT.1 rfl
  have px3 := cellOf (o := 3) hT.1 rfl
  have px4 := cellOf (o := 4) hT.1 rfl
  have HT := Lib.hid hT
  clear hT
  by_cases g1 : 2000 < s.length
  · have g1' : (2000 : Int) < s.length := by omega
    clear hE hk hl hs hks HSM
    go_enter Tryz.func6, Tryz.ntmps6
    go_wp2_with (go_at_call 16; refine (HW.out _ HT.out).mono ?_; rintro e w9 ⟨rfl, hb⟩; have HB := Lib.hid hb; clear hb)
    go_ret
    exact ⟨rfl, HB.out.2⟩
  have g1' : ¬ (2000 : Int) < s.length := by omega
  by_cases g2 : 60 < ks.length
  · have g2' : (60 : Int) < ks.length := by omega
    clear hE hk hl hs hks HSM
    go_enter Tryz.func6, Tryz.ntmps6
    go_wp2_with (go_at_call 16; refine (HW.out _ HT.out).mono ?_; rintro e w9 ⟨rfl, hb⟩; have HB := Lib.hid hb; clear hb)
    go_ret
    exact ⟨rfl, HB.out.2⟩
  have g2' : ¬ (60 : Int) < ks.length := by omega
  by_cases g3 : 60 < l.length
  · have g3' : (60 : Int) < l.length := by omega
    clear hE hk hl hs hks HSM
    go_enter Tryz.func6, Tryz.ntmps6
    go_wp2_with (go_at_call 16; refine (HW.out _ HT.out).mono ?_; rintro e w9 ⟨rfl, hb⟩; have HB := Lib.hid hb; clear hb)
    go_ret
    exact ⟨rfl, HB.out.2⟩
  have g3' : ¬ (60 : Int) < l.length := by omega
  by_cases hsm : totVs l ≤ 2000
  · rw [decide_eq_true hsm] at HSM
    have HK := Lib.hid (And.intro hk (And.intro (show ks.length ≤ 1000000 by omega) hks))
    have HL := Lib.hid hl
    have HN := Lib.hid (And.intro (show l.length ≤ 1000000 by omega) hsm)
    have HSL := Lib.hid hs
    have HEE := Lib.hid hE
    clear hE hk hl hs hks hsm
    go_enter Tryz.func6, Tryz.ntmps6
    go_wp2_with (go_at_call 15; refine HSM.out.mono ?_; rintro e w1 ⟨rfl, hT⟩; have HT1 := Lib.hid hT; clear hT HSM px2 px3 px4 HT)
    have hU : BoxP w w1.drew #[.bool b, .int .i64 n, .string (strB s), .slice pk ks.length ck, .slice pl l.length cl] := HT1.out.below (Below.refl _ _).drew
    refine plain_region_draws (fun W => BoxP w W #[.bool b, .int .i64 n, .string (strB s), .slice pk ks.length ck, .slice pl l.length cl]) (by kernel_rfl) hU (fun hU => ?_)
    clear HT1
    generalize w1.drew = W0 at *
    have hW0 : w.heap.size + 1 ≤ W0.heap.size := (Array.getElem?_eq_some_iff.1 hU.1).1
    have he : ∀ W : World, (Instr.buildSlice 23 0 #[]).run Tryz.prog W = .ok (.slice (some ⟨W.heap.size, 0, none⟩) 0 0) (W.alloc (.cells #[] 9)) := fun W => by simp [go_sem]
    have hsp : ∀ W : World, (Instr.buildSlice 23 1 #[(0, .string (strB spareB))]).run Tryz.prog W = .ok (.slice (some ⟨W.heap.size, 0, none⟩) 1 1) (W.alloc (.cells #[.string (strB spareB)] 9)) := fun W => run_buildSlice_one (P := Tryz.prog) (w := W) (v := .string (strB spareB)) Tryz.underlying23 Tryz.sizeOf9 Tryz.zeroValue9 rfl (by omega) (by omega)
    refine take 1 37 (v := .pointer (some ⟨w.heap.size, 3, none⟩)) rfl rfl (by kernel_rfl) (by kernel_rfl) (by kernel_rfl) rfl (fun W hW => exec_fieldAddr rfl rfl (fa_parts _ _ (by decide) W)) (by assumption) ?_
    simp only [Act.put, List.setIfInBounds_toArray, List.set_cons_zero, List.set_cons_succ]
    refine take 2 38 (v := .slice pk ks.length ck) rfl rfl (by kernel_rfl) (by kernel_rfl) (by kernel_rfl) rfl (fun W hW => exec_load rfl rfl (run_load1 (w := W) Tryz.underlying23 rfl (cellOf hW.1 rfl))) (by assumption) ?_
    simp only [Act.put, List.setIfInBounds_toArray, List.set_cons_zero, List.set_cons_succ]
    refine take 6 42 (v := .pointer (some ⟨w.heap.size, 3, none⟩)) rfl rfl (by kernel_rfl) (by kernel_rfl) (by kernel_rfl) rfl (fun W hW => exec_fieldAddr rfl rfl (fa_parts _ _ (by decide) W)) (by assumption) ?_
    simp only [Act.put, List.setIfInBounds_toArray, List.set_cons_zero, List.set_cons_succ]
    refine take 7 43 (v := .slice pk ks.length ck) rfl rfl (by kernel_rfl) (by kernel_rfl) (by kernel_rfl) rfl (fun W hW => exec_load rfl rfl (run_load1 (w := W) Tryz.underlying23 rfl (cellOf hW.1 rfl))) (by assumption) ?_
    simp only [Act.put, List.setIfInBounds_toArray, List.set_cons_zero, List.set_cons_succ]
    refine take 8 44 (v := .int .i64 (ks.length : Int)) rfl rfl (by kernel_rfl) (by kernel_rfl) (by kernel_rfl) rfl (fun W hW => exec_lenS rfl rfl) (by assumption) ?_
    simp only [Act.put, List.setIfInBounds_toArray, List.set_cons_zero, List.set_cons_succ]
    refine any_order [0, 3, 4] (KeyF W0.heap.size ks) 3 (by kernel_rfl) (by kernel_rfl) rfl (by kernel_rfl) (by kernel_rfl) (Nat.le_of_ble_eq_true (by kernel_rfl)) (fun _ hb => hU.below hb) (fun i _ => keyF_keep i) ?_ [36, 39, 40] (by kernel_rfl) ?_
    · intro i hi a1 w1 v lo hi1 hs
      have hU1 := hU.below hs.below
      simp only [List.mem_cons, List.not_mem_nil, or_false] at hi
      rcases hi with rfl | rfl | rfl
      · exact opRun 0 36 rfl rfl rfl (exec_buildSlice0 rfl (he _)) ⟨_, rfl, below_new _, rfl, by simp, heap_alloc_new _ _⟩
      · obtain ⟨e0, ⟨v0, l0, h0⟩, r0⟩ := hs.new 0 (by simp) (by kernel_rfl)
        obtain ⟨u, W', ha, ho, hb⟩ := keys_grow h0 r0.1 (HK.out.1.below hU1.2) HK.out.2.1 23
        exact opRun 3 39 rfl rfl rfl (exec_append rfl (e0.trans v0) (hs.old 38 (.slice pk ks.length ck) (by kernel_rfl) rfl) ha) ⟨_, rfl, hb, ho⟩
      · exact opRun 4 40 rfl rfl rfl (exec_buildSlice1 rfl rfl (hsp _)) ⟨_, rfl, below_new _, rfl, by simp, heap_alloc_new _ _⟩
    intro v lo hi1 W1 hb hf _
    obtain ⟨⟨e0, l0, h0⟩, r0⟩ := hf 0 (by simp)
    obtain ⟨o3, r3⟩ := hf 3 (by simp)
    obtain ⟨⟨e4, l4, h4⟩, r4⟩ := hf 4 (by simp)
    replace hU := hU.below hb
    have hz := hb.size
    clear hf
    simp only [List.zip_cons_cons, List.zip_nil_right, List.zip_nil_left, List.foldl_cons, List.foldl_nil, e0, e4, Act.put, List.setIfInBounds_toArray, List.set_cons_zero, List.set_cons_succ]
    clear e0 e4
    generalize v 3 = v3 at *
    generalize lo 0 = q0 at *
    generalize lo 4 = q4 at *
    obtain ⟨g, c, V4, a4, k4, lo4, hc4⟩ := keys_two o3 h4 HK.out.2.1 hz 23
    replace hU := hU.low (lo4.mono hW0)
    refine onlyRun 5 41 (v := .slice (some ⟨g, 0, none⟩) (ks.length + 1) c) rfl rfl (by kernel_rfl) rfl (exec_append rfl rfl rfl a4) (.inr hU) ?_
    simp only [Act.put, List.setIfInBounds_toArray, List.set_cons_zero, List.set_cons_succ]
    refine take 9 45 (v := .slice (some ⟨g, 0, none⟩) ks.length c) rfl rfl (by kernel_rfl) (by kernel_rfl) (by kernel_rfl) rfl (fun W hW => exec_slice rfl rfl rfl rfl rfl (slice_keys _ _ _ _ (by omega) W)) (by assumption) ?_
    simp only [Act.put, List.setIfInBounds_toArray, List.set_cons_zero, List.set_cons_succ]
    refine take 10 3 (v := .slice (some ⟨g, 0, none⟩) ks.length c) rfl rfl (by kernel_rfl) (by kernel_rfl) (by kernel_rfl) rfl (fun W hW => exec_assign rfl rfl) (by assumption) ?_
    simp only [Act.put, List.setIfInBounds_toArray, List.set_cons_zero, List.set_cons_succ]
    refine done (by kernel_rfl) ?_ _
    have HJ0 := Lib.hid (MkL.start hU (k4.imp fun b _ hb => by omega))
    clear a4 k4 lo4 hU he hsp hW0 o3 h0 h4 l0 l4 r0 r3 r4 hb hz
    generalize V4.heap.size = n2 at *
    go_wp2
    go_loopw [4, 5] (fun o i wr => ∃ (j : Nat) (ov : Value), j ≤ l.length ∧ i = .int .i64 (j : Int) ∧ ov = o ∧ Hid (MkL w #[.bool b, .int .i64 n, .string (strB s), .slice pk ks.length ck, .slice pl l.length cl] ks n2 g c wr ov (l.take j))) (fun _ i _ => l.length - (intOf i).toNat)
    case atStart => exact ⟨0, _, Nat.zero_le _, rfl, rfl, HJ0⟩
    case round =>
      clear HJ0
      obtain ⟨j, ov, hj, rfl, rfl, HJ⟩ := hrel
      have px4 := cellOf (o := 4) HJ.out.box.1 rfl
      by_cases hlt : j < l.length
      · have hlt1 : j + 1 ≤ l.length := hlt
        have htk : l.take (j + 1) = l.take j ++ [l[j]] := List.take_succ_eq_append_getElem hlt
        obtain ⟨g1, o1, pk1, ck1, pl1, cl1, rfl, ⟨a0, a1, a2, a3, a4, a5⟩, hv1⟩ := (HL.out.below HJ.out.box.2).at hlt
        have htv : totV l[j] ≤ 1000000 := by have := totVs_mem (List.getElem_mem hlt); have := HN.out.2; omega
        have hcall := copied_any l[j] htv
        generalize l[j] = s1 at *
        have HD := Lib.hid (And.intro htk (And.intro hcall (And.intro hv1 htv)))
        clear htk hcall hv1 htv
        go_wp2_with (first
          | (go_at_call 17
             (
               refine (HD.out.2.1 _ _ HD.out.2.2.1).mono ?_
               rintro e w5 ⟨x, rfl, hx, hb⟩
               obtain ⟨v', W6, ha, hI, hlo⟩ := HJ.out.row.step HJ.out.size (Nat.le_refl _) hb hx (by rw [List.length_take]; have := HN.out.1; omega) 24
               rw [← HD.out.1] at hI
               have hN := HJ.out.turn hlo hI
               obtain ⟨_, _, _, _, rfl, _⟩ := (hx.open HD.out.2.2.2).open
               have Ha := Lib.hid ha
               have HN2 := Lib.hid hN
               clear ha hI hx hb hlo hN))
          | (refine wpList_append rfl rfl rfl rfl Ha.out ?_))
        go_roundw
        case rel => exact ⟨j + 1, _, hlt1, by go_num, rfl, HN2⟩
        case measure => simp [intOf]; omega
      · obtain rfl : j = l.length := by omega
        have hJ := HJ.out.below (show Below wr.heap.size wr wr.drew from (Below.refl _ _).drew)
        rw [List.take_length] at hJ
        have hU := hJ.box
        have hb1 : ∀ W : World, (Instr.buildSlice 24 1 #[(0, .agg sentX)]).run Tryz.prog W = .ok (.slice (some ⟨W.heap.size, 0, none⟩) 1 1) (W.alloc (.cells sentX 26)) := fun W => run_buildSlice_one (P := Tryz.prog) (w := W) (v := .agg sentX) Tryz.underlying24 Tryz.sizeOf26 Tryz.zeroValue26 rfl (by omega) (by omega)
        have HB1 := Lib.hid hb1
        clear hb1
        go_wp2
        clear HJ px4
        refine plain_region_draws (fun W => BoxP w W #[.bool b, .int .i64 n, .string (strB s), .slice pk ks.length ck, .slice pl l.length cl]) (by kernel_rfl) hU (fun hU => ?_)
        generalize wr.drew = W1 at *
        refine take 0 62 (v := ov) rfl rfl (by kernel_rfl) (by kernel_rfl) (by kernel_rfl) rfl (fun W hW => exec_move rfl rfl) (by assumption) ?_
        simp only [Act.put, List.setIfInBounds_toArray, List.set_cons_zero, List.set_cons_succ]
        refine take 1 63 (v := .agg sentX) rfl rfl (by kernel_rfl) (by kernel_rfl) (by kernel_rfl) rfl (fun W hW => exec_buildSent rfl) (by assumption) ?_
        simp only [Act.put, List.setIfInBounds_toArray, List.set_cons_zero, List.set_cons_succ]
        refine take 4 66 (v := .pointer (some ⟨w.heap.size, 4, none⟩)) rfl rfl (by kernel_rfl) (by kernel_rfl) (by kernel_rfl) rfl (fun W hW => exec_fieldAddr rfl rfl (fa_parts _ _ (by decide) W)) (by assumption) ?_
        simp only [Act.put, List.setIfInBounds_toArray, List.set_cons_zero, List.set_cons_succ]
        refine take 5 67 (v := .slice pl l.length cl) rfl rfl (by kernel_rfl) (by kernel_rfl) (by kernel_rfl) rfl (fun W hW => exec_load rfl rfl (run_load1 (w := W) Tryz.underlying24 rfl (cellOf hW.1 rfl))) (by assumption) ?_
        simp only [Act.put, List.setIfInBounds_toArray, List.set_cons_zero, List.set_cons_succ]
        refine take 6 68 (v := .int .i64 (l.length : Int)) rfl rfl (by kernel_rfl) (by kernel_rfl) (by kernel_rfl) rfl (fun W hW => exec_lenV rfl rfl) (by assumption) ?_
        simp only [Act.put, List.setIfInBounds_toArray, List.set_cons_zero, List.set_cons_succ]
        refine onlyRun 2 64 (v := .slice (some ⟨W1.heap.size, 0, none⟩) 1 1) rfl rfl (by kernel_rfl) rfl (exec_buildSlice1 rfl rfl (HB1.out _)) (.inr (hU.below (below_new _))) ?_
        simp only [Act.put, List.setIfInBounds_toArray, List.set_cons_zero, List.set_cons_succ]
        obtain ⟨g2, c2, W2, ha, hc2, hA⟩ := (hJ.below (below_new (.cells sentX 26))).last (heap_alloc_new W1 _) HN.out.1 24
        have hU2 : BoxP w W2 #[.bool b, .int .i64 n, .string (strB s), .slice pk ks.length ck, .slice pl l.length cl] := ⟨hA.box, hA.below⟩
        refine onlyRun 3 65 (v := .slice (some ⟨g2, 0, none⟩) (l.length + 1) c2) rfl rfl (by kernel_rfl) rfl (exec_append rfl rfl rfl ha) (.inr hU2) ?_
        simp only [Act.put, List.setIfInBounds_toArray, List.set_cons_zero, List.set_cons_succ]
        refine take 7 69 (v := .slice (some ⟨g2, 0, none⟩) l.length c2) rfl rfl (by kernel_rfl) (by kernel_rfl) (by kernel_rfl) rfl (fun W hW => exec_slice rfl rfl rfl rfl rfl (slice_vals _ _ _ _ (by omega) W)) (by assumption) ?_
        simp only [Act.put, List.setIfInBounds_toArray, List.set_cons_zero, List.set_cons_succ]
        refine take 8 4 (v := .slice (some ⟨g2, 0, none⟩) l.length c2) rfl rfl (by kernel_rfl) (by kernel_rfl) (by kernel_rfl) rfl (fun W hW => exec_assign rfl rfl) (by assumption) ?_
        simp only [Act.put, List.setIfInBounds_toArray, List.set_cons_zero, List.set_cons_succ]
        refine done (by kernel_rfl) ?_ _
        have HA := Lib.hid hA
        have hck := (hA.rdK HK.out.2.1 HK.out.2.2).2
        have hcl := hc2
        clear hU hU2 hJ ha hA hc2 HB1
        generalize W2.heap.size = n1 at *
        have HMP := Lib.hid (fun (W : World) (h : MkA w #[.bool b, .int .i64 n, .string (strB s), .slice pk ks.length ck, .slice pl l.length cl] ks l n1 g c g2 c2 W) => (map_any (h.rdK HK.out.2.1 HK.out.2.2).1 (h.vals.rd (by have := HN.out.2; omega)) HK.out.2.1 (by have := HN.out.2; omega)).mono fun _ _ h' => mapOk_says h')
        have HMR := Lib.hid (fun (W : World) (h : Below w.heap.size w W) => (mapR_any h (HK.out.1.below h) HL.out (by omega) (by have := HN.out.2; omega)).mono fun _ _ h' => mapRd_says h')
        have px3 := cellOf (o := 3) HA.out.box rfl
        have px4 := cellOf (o := 4) HA.out.box rfl
        have HLI := Lib.hid (fun (bm : Nat) (mx : Array Value) (mv : V) (no : Int) (lm um bw : Nat) (wx : Array Value) (W : World) (h : MkC w #[.bool b, .int .i64 n, .string (strB s), .slice pk ks.length ck, .slice pl l.length cl] ks l n1 g c g2 c2 bm mx mv no lm um bw wx W) => list_any (h.b.a.vals.rd (by have := HN.out.2; omega)) (by have := HN.out.2; omega))
        go_wp2_with (first
          | (go_at_call 36
             (
               refine (HMP.out _ HA.out).mono ?_
               rintro e V1 ⟨hb, mx, no, mv, rfl, oM, sM⟩
               obtain ⟨V2, st, hB⟩ := HA.out.made hb oM sM
               have HSB := Lib.hid st
               have HB := Lib.hid hB
               have HSZ := Lib.hid (sM.size HK.out.2.2)
               clear px3 px4
               have px3 := cellOf (o := 3) hB.a.box rfl
               have px4 := cellOf (o := 4) hB.a.box rfl
               clear st hB hb oM sM HMP HA))
          | (refine wpList_store rfl _ _ _ _ rfl rfl rfl HSB.out ?_; clear HSB)
          | (go_at_call 37
             (
               refine (HMR.out _ HB.out.a.below).mono ?_
               rintro e U1 ⟨hb, wx, no', mv', rfl, oR, sR⟩
               obtain ⟨q1, q2⟩ := HB.out.says.one sR
               subst q1 q2
               obtain ⟨U2, st, hC⟩ := HB.out.made hb oR HK.out.2.1 (by have := HN.out.2; omega) HK.out.2.2
               have HSC := Lib.hid st
               have HC := Lib.hid hC
               clear st hC hb oR sR HMR px3 px4))
          | (refine wpList_store rfl _ _ _ _ rfl rfl rfl HSC.out ?_; clear HSC)
          | (go_at_call 38
             (
               refine (HLI.out _ _ _ _ _ _ _ _ _ HC.out).mono ?_
               rintro e w6 ⟨xx, rfl, ho, hb⟩
               obtain ⟨W7, st, hD⟩ := HC.out.made hb ho
               have HST := Lib.hid st
               have HD := Lib.hid hD
               clear st hD ho hb))
          | (refine wpList_store rfl _ _ _ _ rfl rfl rfl HST.out ?_))
        have eN : ∀ W : World, (binOp .neq 3 (.int .i64 no) (.int .i64 no)).run Tryz.prog W = .ok (.bool false) W := fun W => by simp [go_sem]
        generalize V1.heap.size = bm at *
        generalize U1.heap.size = bw at *
        generalize W2.heap.size = lm at *
        clear HST HC HLI HB
        generalize w6.heap.size = bx at *
        generalize U2.heap.size = lx at *
        have hU : MkD w #[.bool b, .int .i64 n, .string (strB s), .slice pk ks.length ck, .slice pl l.length cl] ks l n1 g c g2 c2 bm mx mv no lm bm bw wx bx xx lx bx W7.drew := HD.out.keep (Below.refl _ _).drew
        clear HD
        have eK := add_one HK.out.2.1
        have eL := add_one HN.out.1
        have eSp : ∀ W, (binOp .neq 9 (.string (strB spareB)) (.string (strB spareB))).run Tryz.prog W = .ok (.bool false) W := fun W => by rw [run_neStr]; simp
        have e77 : ∀ W, (binOp .neq 22 (.int .i64 77) (.int .i64 77)).run Tryz.prog W = .ok (.bool false) W := fun W => by simp [go_sem]
        have HAL1 := Lib.hid (fun (W : World) (h : MkD w #[.bool b, .int .i64 n, .string (strB s), .slice pk ks.length ck, .slice pl l.length cl] ks l n1 g c g2 c2 bm mx mv no lm bm bw wx bx xx lx bx W) => (alikeR_any mv W mx wx (h.om.rdk (by have := HSZ.out.1; have := HN.out.2; omega) (by have := HSZ.out.2.1; have := HK.out.2.1; omega) HSZ.out.2.2.1 HSZ.out.2.2.2.1) h.rw).mono (R' := fun e w' => e = .returned (.bool true) ∧ MkD w #[.bool b, .int .i64 n, .string (strB s), .slice pk ks.length ck, .slice pl l.length cl] ks l n1 g c g2 c2 bm mx mv no lm bm bw wx bx xx lx bx w') fun _ _ h' => ⟨h'.1, h.keep h'.2⟩)
        have HAL2 := Lib.hid (fun (W : World) (h : MkD w #[.bool b, .int .i64 n, .string (strB s), .slice pk ks.length ck, .slice pl l.length cl] ks l n1 g c g2 c2 bm mx mv no lm bm bw wx bx xx lx bx W) => (alikeR_any (.mk 4 false 0 [] [] l) W xx #[.int .i64 4, .bool false, .int .i64 0, .string ⟨#[]⟩, .slice none 0 0, .slice pl l.length cl] (h.ox.rdk (by have := HN.out.2; simp only [V.list]; omega) (by simp [V.keys]) (by simp [V.keys]) (by simp [V.text])) (VRd_iff.2 ⟨none, 0, pl, cl, rfl, by simp, ⟨Nat.le_refl _, by simp, fun _ => rfl, by simp, fun ad h => by cases h⟩, HL.out.below h.a.below⟩)).mono (R' := fun e w' => e = .returned (.bool true) ∧ MkD w #[.bool b, .int .i64 n, .string (strB s), .slice pk ks.length ck, .slice pl l.length cl] ks l n1 g c g2 c2 bm mx mv no lm bm bw wx bx xx lx bx w') fun _ _ h' => ⟨h'.1, h.keep h'.2⟩)
        refine plain_region_draws (fun W => MkD w #[.bool b, .int .i64 n, .string (strB s), .slice pk ks.length ck, .slice pl l.length cl] ks l n1 g c g2 c2 bm mx mv no lm bm bw wx bx xx lx bx W) (by kernel_rfl) hU (fun hU => ?_)
        generalize W7.drew = T0 at *
        refine take 0 86 (v := .agg mx) rfl rfl (by kernel_rfl) (by kernel_rfl) (by kernel_rfl) rfl (fun W hW => exec_load rfl rfl (load_box hW.hm hW.om.size6)) (by assumption) ?_
        simp only [Act.put, List.setIfInBounds_toArray, List.set_cons_zero, List.set_cons_succ]
        refine take 1 87 (v := .agg wx) rfl rfl (by kernel_rfl) (by kernel_rfl) (by kernel_rfl) rfl (fun W hW => exec_load rfl rfl (load_box hW.hw hW.rw.size6)) (by assumption) ?_
        simp only [Act.put, List.setIfInBounds_toArray, List.set_cons_zero, List.set_cons_succ]
        refine onlyCall 2 88 rfl rfl (by kernel_rfl) rfl (exec_call [.agg mx, .agg wx] rfl rfl Tryz.func39 (by kernel_rfl) (by kernel_rfl)) ?_
        refine (HAL1.out _ hU).mono ?_
        rintro e w5 ⟨rfl, hU⟩
        refine ⟨_, rfl, .inr (by assumption), ?_⟩
        simp only [Act.put, List.setIfInBounds_toArray, List.set_cons_zero, List.set_cons_succ]
        refine take 3 89 (v := .bool false) rfl rfl (by kernel_rfl) (by kernel_rfl) (by kernel_rfl) rfl (fun W hW => exec_unot (b := true) rfl rfl) (by assumption) ?_
        simp only [Act.put, List.setIfInBounds_toArray, List.set_cons_zero, List.set_cons_succ]
        refine take 4 90 (v := .bool false) rfl rfl (by kernel_rfl) (by kernel_rfl) (by kernel_rfl) rfl (fun W hW => exec_move rfl rfl) (by assumption) ?_
        simp only [Act.put, List.setIfInBounds_toArray, List.set_cons_zero, List.set_cons_succ]
        refine take 5 91 (v := .int .i64 no) rfl rfl (by kernel_rfl) (by kernel_rfl) (by kernel_rfl) rfl (fun W hW => exec_move rfl rfl) (by assumption) ?_
        simp only [Act.put, List.setIfInBounds_toArray, List.set_cons_zero, List.set_cons_succ]
        refine take 7 93 (v := .int .i64 no) rfl rfl (by kernel_rfl) (by kernel_rfl) (by kernel_rfl) rfl (fun W hW => exec_move rfl rfl) (by assumption) ?_
        simp only [Act.put, List.setIfInBounds_toArray, List.set_cons_zero, List.set_cons_succ]
        refine onlyCall 6 92 rfl rfl (by kernel_rfl) rfl (exec_call [.int .i64 no] rfl rfl Tryz.func33 (by kernel_rfl) (by kernel_rfl)) ?_
        refine (num_any no _).mono ?_
        rintro e w' ⟨rfl, rfl⟩
        refine ⟨_, rfl, .inr (by assumption), ?_⟩
        simp only [Act.put, List.setIfInBounds_toArray, List.set_cons_zero, List.set_cons_succ]
        refine take 8 94 (v := .bool false) rfl rfl (by kernel_rfl) (by kernel_rfl) (by kernel_rfl) rfl (fun W hW => exec_bini rfl rfl rfl (eN W)) (by assumption) ?_
        simp only [Act.put, List.setIfInBounds_toArray, List.set_cons_zero, List.set_cons_succ]
        refine take 9 95 (v := .bool false) rfl rfl (by kernel_rfl) (by kernel_rfl) (by kernel_rfl) rfl (fun W hW => rfl) (by assumption) ?_
        simp only [Act.put, List.setIfInBounds_toArray, List.set_cons_zero, List.set_cons_succ]
        refine take 10 96 (v := .bool false) rfl rfl (by kernel_rfl) (by kernel_rfl) (by kernel_rfl) rfl (fun W hW => exec_move rfl rfl) (by assumption) ?_
        simp only [Act.put, List.setIfInBounds_toArray, List.set_cons_zero, List.set_cons_succ]
        refine take 11 97 (v := .agg xx) rfl rfl (by kernel_rfl) (by kernel_rfl) (by kernel_rfl) rfl (fun W hW => exec_load rfl rfl (load_box hW.hx hW.ox.size6)) (by assumption) ?_
        simp only [Act.put, List.setIfInBounds_toArray, List.set_cons_zero, List.set_cons_succ]
        refine take 12 98 (v := .pointer (some ⟨w.heap.size, 4, none⟩)) rfl rfl (by kernel_rfl) (by kernel_rfl) (by kernel_rfl) rfl (fun W hW => exec_fieldAddr rfl rfl (fa_parts _ _ (by decide) W)) (by assumption) ?_
        simp only [Act.put, List.setIfInBounds_toArray, List.set_cons_zero, List.set_cons_succ]
        refine take 13 99 (v := .slice pl l.length cl) rfl rfl (by kernel_rfl) (by kernel_rfl) (by kernel_rfl) rfl (fun W hW => exec_load rfl rfl (run_load1 (w := W) Tryz.underlying24 rfl (cellOf hW.a.box rfl))) (by assumption) ?_
        simp only [Act.put, List.setIfInBounds_toArray, List.set_cons_zero, List.set_cons_succ]
        refine take 14 100 (v := .agg #[.int .i64 4, .bool false, .int .i64 0, .string ⟨#[]⟩, .slice none 0 0, .slice pl l.length cl]) rfl rfl (by kernel_rfl) (by kernel_rfl) (by kernel_rfl) rfl (fun W hW => exec_buildL rfl rfl) (by assumption) ?_
        simp only [Act.put, List.setIfInBounds_toArray, List.set_cons_zero, List.set_cons_succ]
        refine onlyCall 15 101 rfl rfl (by kernel_rfl) rfl (exec_call [.agg xx, .agg #[.int .i64 4, .bool false, .int .i64 0, .string ⟨#[]⟩, .slice none 0 0, .slice pl l.length cl]] rfl rfl Tryz.func39 (by kernel_rfl) (by kernel_rfl)) ?_
        refine (HAL2.out _ hU).mono ?_
        rintro e w5 ⟨rfl, hU⟩
        refine ⟨_, rfl, .inr (by assumption), ?_⟩
        simp only [Act.put, List.setIfInBounds_toArray, List.set_cons_zero, List.set_cons_succ]
        refine take 16 102 (v := .bool false) rfl rfl (by kernel_rfl) (by kernel_rfl) (by kernel_rfl) rfl (fun W hW => exec_unot (b := true) rfl rfl) (by assumption) ?_
        simp only [Act.put, List.setIfInBounds_toArray, List.set_cons_zero, List.set_cons_succ]
        refine take 17 103 (v := .bool false) rfl rfl (by kernel_rfl) (by kernel_rfl) (by kernel_rfl) rfl (fun W hW => rfl) (by assumption) ?_
        simp only [Act.put, List.setIfInBounds_toArray, List.set_cons_zero, List.set_cons_succ]
        refine take 18 104 (v := .bool false) rfl rfl (by kernel_rfl) (by kernel_rfl) (by kernel_rfl) rfl (fun W hW => exec_move rfl rfl) (by assumption) ?_
        simp only [Act.put, List.setIfInBounds_toArray, List.set_cons_zero, List.set_cons_succ]
        refine take 19 105 (v := .slice (some ⟨g, 0, none⟩) ks.length c) rfl rfl (by kernel_rfl) (by kernel_rfl) (by kernel_rfl) rfl (fun W hW => exec_move rfl rfl) (by assumption) ?_
        simp only [Act.put, List.setIfInBounds_toArray, List.set_cons_zero, List.set_cons_succ]
        refine take 20 106 (v := .pointer (some ⟨w.heap.size, 3, none⟩)) rfl rfl (by kernel_rfl) (by kernel_rfl) (by kernel_rfl) rfl (fun W hW => exec_fieldAddr rfl rfl (fa_parts _ _ (by decide) W)) (by assumption) ?_
        simp only [Act.put, List.setIfInBounds_toArray, List.set_cons_zero, List.set_cons_succ]
        refine take 21 107 (v := .slice pk ks.length ck) rfl rfl (by kernel_rfl) (by kernel_rfl) (by kernel_rfl) rfl (fun W hW => exec_load rfl rfl (run_load1 (w := W) Tryz.underlying23 rfl (cellOf hW.a.box rfl))) (by assumption) ?_
        simp only [Act.put, List.setIfInBounds_toArray, List.set_cons_zero, List.set_cons_succ]
        refine take 22 108 (v := .int .i64 (ks.length : Int)) rfl rfl (by kernel_rfl) (by kernel_rfl) (by kernel_rfl) rfl (fun W hW => exec_lenS rfl rfl) (by assumption) ?_
        simp only [Act.put, List.setIfInBounds_toArray, List.set_cons_zero, List.set_cons_succ]
        refine take 23 109 (v := .int .i64 ((ks.length + 1 : Nat) : Int)) rfl rfl (by kernel_rfl) (by kernel_rfl) (by kernel_rfl) rfl (fun W hW => exec_bini rfl rfl rfl (eK W)) (by assumption) ?_
        simp only [Act.put, List.setIfInBounds_toArray, List.set_cons_zero, List.set_cons_succ]
        refine take 24 110 (v := .slice (some ⟨g, 0, none⟩) (ks.length + 1) c) rfl rfl (by kernel_rfl) (by kernel_rfl) (by kernel_rfl) rfl (fun W hW => exec_slice rfl rfl rfl rfl rfl (slice_keys _ _ _ _ hck W)) (by assumption) ?_
        simp only [Act.put, List.setIfInBounds_toArray, List.set_cons_zero, List.set_cons_succ]
        refine take 25 111 (v := .pointer (some ⟨w.heap.size, 3, none⟩)) rfl rfl (by kernel_rfl) (by kernel_rfl) (by kernel_rfl) rfl (fun W hW => exec_fieldAddr rfl rfl (fa_parts _ _ (by decide) W)) (by assumption) ?_
        simp only [Act.put, List.setIfInBounds_toArray, List.set_cons_zero, List.set_cons_succ]
        refine take 26 112 (v := .slice pk ks.length ck) rfl rfl (by kernel_rfl) (by kernel_rfl) (by kernel_rfl) rfl (fun W hW => exec_load rfl rfl (run_load1 (w := W) Tryz.underlying23 rfl (cellOf hW.a.box rfl))) (by assumption) ?_
        simp only [Act.put, List.setIfInBounds_toArray, List.set_cons_zero, List.set_cons_succ]
        refine take 27 113 (v := .int .i64 (ks.length : Int)) rfl rfl (by kernel_rfl) (by kernel_rfl) (by kernel_rfl) rfl (fun W hW => exec_lenS rfl rfl) (by assumption) ?_
        simp only [Act.put, List.setIfInBounds_toArray, List.set_cons_zero, List.set_cons_succ]
        refine take 28 114 (v := .pointer (some ⟨g, 0 + ks.length, none⟩)) rfl rfl (by kernel_rfl) (by kernel_rfl) (by kernel_rfl) rfl (fun W hW => exec_indexAddr rfl rfl rfl (ia_keys _ _ _ _ _ (Nat.lt_succ_self _) W)) (by assumption) ?_
        simp only [Act.put, List.setIfInBounds_toArray, List.set_cons_zero, List.set_cons_succ]
        refine take 29 115 (v := .string (strB spareB)) rfl rfl (by kernel_rfl) (by kernel_rfl) (by kernel_rfl) rfl (fun W hW => exec_load rfl rfl (run_load1 (w := W) Tryz.underlying9 rfl (hW.a.spareK HK.out.2.1 HK.out.2.2))) (by assumption) ?_
        simp only [Act.put, List.setIfInBounds_toArray, List.set_cons_zero, List.set_cons_succ]
        refine take 30 116 (v := .bool false) rfl rfl (by kernel_rfl) (by kernel_rfl) (by kernel_rfl) rfl (fun W hW => exec_bins (m := strB spareB) rfl rfl rfl (eSp W)) (by assumption) ?_
        simp only [Act.put, List.setIfInBounds_toArray, List.set_cons_zero, List.set_cons_succ]
        refine take 31 117 (v := .bool false) rfl rfl (by kernel_rfl) (by kernel_rfl) (by kernel_rfl) rfl (fun W hW => rfl) (by assumption) ?_
        simp only [Act.put, List.setIfInBounds_toArray, List.set_cons_zero, List.set_cons_succ]
        refine take 32 118 (v := .bool false) rfl rfl (by kernel_rfl) (by kernel_rfl) (by kernel_rfl) rfl (fun W hW => exec_move rfl rfl) (by assumption) ?_
        simp only [Act.put, List.setIfInBounds_toArray, List.set_cons_zero, List.set_cons_succ]
        refine take 33 119 (v := .slice (some ⟨g2, 0, none⟩) l.length c2) rfl rfl (by kernel_rfl) (by kernel_rfl) (by kernel_rfl) rfl (fun W hW => exec_move rfl rfl) (by assumption) ?_
        simp only [Act.put, List.setIfInBounds_toArray, List.set_cons_zero, List.set_cons_succ]
        refine take 34 120 (v := .pointer (some ⟨w.heap.size, 4, none⟩)) rfl rfl (by kernel_rfl) (by kernel_rfl) (by kernel_rfl) rfl (fun W hW => exec_fieldAddr rfl rfl (fa_parts _ _ (by decide) W)) (by assumption) ?_
        simp only [Act.put, List.setIfInBounds_toArray, List.set_cons_zero, List.set_cons_succ]
        refine take 35 121 (v := .slice pl l.length cl) rfl rfl (by kernel_rfl) (by kernel_rfl) (by kernel_rfl) rfl (fun W hW => exec_load rfl rfl (run_load1 (w := W) Tryz.underlying24 rfl (cellOf hW.a.box rfl))) (by assumption) ?_
        simp only [Act.put, List.setIfInBounds_toArray, List.set_cons_zero, List.set_cons_succ]
        refine take 36 122 (v := .int .i64 (l.length : Int)) rfl rfl (by kernel_rfl) (by kernel_rfl) (by kernel_rfl) rfl (fun W hW => exec_lenV rfl rfl) (by assumption) ?_
        simp only [Act.put, List.setIfInBounds_toArray, List.set_cons_zero, List.set_cons_succ]
        refine take 37 123 (v := .int .i64 ((l.length + 1 : Nat) : Int)) rfl rfl (by kernel_rfl) (by kernel_rfl) (by kernel_rfl) rfl (fun W hW => exec_bini rfl rfl rfl (eL W)) (by assumption) ?_
        simp only [Act.put, List.setIfInBounds_toArray, List.set_cons_zero, List.set_cons_succ]
        refine take 38 124 (v := .slice (some ⟨g2, 0, none⟩) (l.length + 1) c2) rfl rfl (by kernel_rfl) (by kernel_rfl) (by kernel_rfl) rfl (fun W hW => exec_slice rfl rfl rfl rfl rfl (slice_vals _ _ _ _ hcl W)) (by assumption) ?_
        simp only [Act.put, List.setIfInBounds_toArray, List.set_cons_zero, List.set_cons_succ]
        refine take 39 125 (v := .pointer (some ⟨w.heap.size, 4, none⟩)) rfl rfl (by kernel_rfl) (by kernel_rfl) (by kernel_rfl) rfl (fun W hW => exec_fieldAddr rfl rfl (fa_parts _ _ (by decide) W)) (by assumption) ?_
        simp only [Act.put, List.setIfInBounds_toArray, List.set_cons_zero, List.set_cons_succ]
        refine take 40 126 (v := .slice pl l.length cl) rfl rfl (by kernel_rfl) (by kernel_rfl) (by kernel_rfl) rfl (fun W hW => exec_load rfl rfl (run_load1 (w := W) Tryz.underlying24 rfl (cellOf hW.a.box rfl))) (by assumption) ?_
        simp only [Act.put, List.setIfInBounds_toArray, List.set_cons_zero, List.set_cons_succ]
        refine take 41 127 (v := .int .i64 (l.length : Int)) rfl rfl (by kernel_rfl) (by kernel_rfl) (by kernel_rfl) rfl (fun W hW => exec_lenV rfl rfl) (by assumption) ?_
        simp only [Act.put, List.setIfInBounds_toArray, List.set_cons_zero, List.set_cons_succ]
        refine take 42 128 (v := .pointer (some ⟨g2, 0 + l.length * 6, none⟩)) rfl rfl (by kernel_rfl) (by kernel_rfl) (by kernel_rfl) rfl (fun W hW => exec_indexAddr rfl rfl rfl (ia_vals _ _ _ _ _ (Nat.lt_succ_self _) W)) (by assumption) ?_
        simp only [Act.put, List.setIfInBounds_toArray, List.set_cons_zero, List.set_cons_succ]
        refine take 43 129 (v := .pointer (some ⟨g2, 0 + l.length * 6, none⟩)) rfl rfl (by kernel_rfl) (by kernel_rfl) (by kernel_rfl) rfl (fun W hW => exec_fieldAddr rfl rfl (fa_first _ _ W)) (by assumption) ?_
        simp only [Act.put, List.setIfInBounds_toArray, List.set_cons_zero, List.set_cons_succ]
        refine take 44 130 (v := .int .i64 77) rfl rfl (by kernel_rfl) (by kernel_rfl) (by kernel_rfl) rfl (fun W hW => exec_load rfl rfl (run_load1 (w := W) Tryz.underlying22 rfl hW.a.spareV)) (by assumption) ?_
        simp only [Act.put, List.setIfInBounds_toArray, List.set_cons_zero, List.set_cons_succ]
        refine take 45 131 (v := .bool false) rfl rfl (by kernel_rfl) (by kernel_rfl) (by kernel_rfl) rfl (fun W hW => exec_bini rfl rfl rfl (e77 W)) (by assumption) ?_
        simp only [Act.put, List.setIfInBounds_toArray, List.set_cons_zero, List.set_cons_succ]
        refine take 46 132 (v := .bool false) rfl rfl (by kernel_rfl) (by kernel_rfl) (by kernel_rfl) rfl (fun W hW => rfl) (by assumption) ?_
        simp only [Act.put, List.setIfInBounds_toArray, List.set_cons_zero, List.set_cons_succ]
        refine done (by kernel_rfl) ?_ _
        have HD := Lib.hid hU
        have HL1 := Lib.hid (load_box hU.hm hU.om.size6)
        have HSP1 := Lib.hid (hU.spoilM (by have := HSZ.out.1; have := HSZ.out.2.1; have := HN.out.2; omega))
        clear hU eN eK eL eSp e77 HAL1 HAL2
        go_wp2_with (first
          | (refine wpList_load rfl _ _ _ rfl rfl HL1.out ?_; clear HL1)
          | (go_at_call 40
             (
               refine HSP1.out.mono ?_
               rintro e w8 ⟨rfl, hA, hx, ho⟩
               have HL2 := Lib.hid (load_box hx ho.size6)
               have HSP2 := Lib.hid (spoilX hA ho (by have := HN.out.2; omega) (by have := HD.out.far; omega) (by have := HD.out.far; have := (Array.getElem?_eq_some_iff.1 hx).1; omega))
               clear hA hx ho HSP1))
          | (refine wpList_load rfl _ _ _ rfl rfl HL2.out ?_; clear HL2)
          | (go_at_call 40
             (
               refine HSP2.out.mono ?_
               rintro e w10 ⟨rfl, hA⟩
               have HA := Lib.hid hA
               clear hA HSP2)))
        clear HD HSZ
        have HA0 := HA
        go_loopw [11] (fun i W => ∃ j : Nat, j ≤ ks.length ∧ i = .int .i64 (j : Int) ∧ Hid (MkA w #[.bool b, .int .i64 n, .string (strB s), .slice pk ks.length ck, .slice pl l.length cl] ks l n1 g c g2 c2 W)) (fun i _ => ks.length - (intOf i).toNat)
        case atStart => exact ⟨0, Nat.zero_le _, rfl, HA0⟩
        case round =>
          clear HA HA0
          obtain ⟨j, hj, rfl, HA⟩ := hrel
          have px3 := cellOf (o := 3) HA.out.box rfl
          by_cases hlt : j < ks.length
          · have hlt1 : j + 1 ≤ ks.length := hlt
            have hA1 := HA.out.keep ((Below.refl _ wr).drew.mono HA.out.size)
            obtain ⟨b0, o0, e0, y0, _⟩ := (HK.out.1.below hA1.below).get hlt
            subst e0
            obtain ⟨gx, ox, ex, y1, _⟩ := (hA1.rdK HK.out.2.1 HK.out.2.2).1.get hlt
            cases ex
            generalize ks[j] = k1 at *
            have eKK : ∀ W, (binOp .neq 9 (.string (strB k1)) (.string (strB k1))).run Tryz.prog W = .ok (.bool false) W := fun W => by rw [run_neStr]; simp
            have hU := And.intro hA1 (And.intro y1 y0)
            clear y0 y1 hA1
            go_wp2
            clear HA px3
            refine plain_region_draws (fun W => MkA w #[.bool b, .int .i64 n, .string (strB s), .slice (some ⟨b0, o0, none⟩) ks.length ck, .slice pl l.length cl] ks l n1 g c g2 c2 W ∧ W.cell? ⟨g, 0 + j, none⟩ = some (.string (strB k1)) ∧ W.cell? ⟨b0, o0 + j, none⟩ = some (.string (strB k1))) (by kernel_rfl) hU (fun hU => ?_)
            generalize wr.drew = T1 at *
            refine take 0 144 (v := .slice (some ⟨g, 0, none⟩) ks.length c) rfl rfl (by kernel_rfl) (by kernel_rfl) (by kernel_rfl) rfl (fun W hW => exec_move rfl rfl) (by assumption) ?_
            simp only [Act.put, List.setIfInBounds_toArray, List.set_cons_zero, List.set_cons_succ]
            refine take 1 145 (v := .int .i64 (j : Int)) rfl rfl (by kernel_rfl) (by kernel_rfl) (by kernel_rfl) rfl (fun W hW => exec_move rfl rfl) (by assumption) ?_
            simp only [Act.put, List.setIfInBounds_toArray, List.set_cons_zero, List.set_cons_succ]
            refine take 2 146 (v := .pointer (some ⟨g, 0 + j, none⟩)) rfl rfl (by kernel_rfl) (by kernel_rfl) (by kernel_rfl) rfl (fun W hW => exec_indexAddr rfl rfl rfl (ia_keys _ _ _ _ _ hlt W)) (by assumption) ?_
            simp only [Act.put, List.setIfInBounds_toArray, List.set_cons_zero, List.set_cons_succ]
            refine take 3 147 (v := .string (strB k1)) rfl rfl (by kernel_rfl) (by kernel_rfl) (by kernel_rfl) rfl (fun W hW => exec_load rfl rfl (run_load1 (w := W) Tryz.underlying9 rfl hW.2.1)) (by assumption) ?_
            simp only [Act.put, List.setIfInBounds_toArray, List.set_cons_zero, List.set_cons_succ]
            refine take 4 148 (v := .pointer (some ⟨w.heap.size, 3, none⟩)) rfl rfl (by kernel_rfl) (by kernel_rfl) (by kernel_rfl) rfl (fun W hW => exec_fieldAddr rfl rfl (fa_parts _ _ (by decide) W)) (by assumption) ?_
            simp only [Act.put, List.setIfInBounds_toArray, List.set_cons_zero, List.set_cons_succ]
            refine take 5 149 (v := .slice (some ⟨b0, o0, none⟩) ks.length ck) rfl rfl (by kernel_rfl) (by kernel_rfl) (by kernel_rfl) rfl (fun W hW => exec_load rfl rfl (run_load1 (w := W) Tryz.underlying23 rfl (cellOf hW.1.box rfl))) (by assumption) ?_
            simp only [Act.put, List.setIfInBounds_toArray, List.set_cons_zero, List.set_cons_succ]
            refine take 6 150 (v := .int .i64 (j : Int)) rfl rfl (by kernel_rfl) (by kernel_rfl) (by kernel_rfl) rfl (fun W hW => exec_move rfl rfl) (by assumption) ?_
            simp only [Act.put, List.setIfInBounds_toArray, List.set_cons_zero, List.set_cons_succ]
            refine take 7 151 (v := .pointer (some ⟨b0, o0 + j, none⟩)) rfl rfl (by kernel_rfl) (by kernel_rfl) (by kernel_rfl) rfl (fun W hW => exec_indexAddr rfl rfl rfl (ia_keys _ _ _ _ _ hlt W)) (by assumption) ?_
            simp only [Act.put, List.setIfInBounds_toArray, List.set_cons_zero, List.set_cons_succ]
            refine take 8 152 (v := .string (strB k1)) rfl rfl (by kernel_rfl) (by kernel_rfl) (by kernel_rfl) rfl (fun W hW => exec_load rfl rfl (run_load1 (w := W) Tryz.underlying9 rfl hW.2.2)) (by assumption) ?_
            simp only [Act.put, List.setIfInBounds_toArray, List.set_cons_zero, List.set_cons_succ]
            refine take 9 153 (v := .bool false) rfl rfl (by kernel_rfl) (by kernel_rfl) (by kernel_rfl) rfl (fun W hW => exec_bins rfl rfl rfl (eKK W)) (by assumption) ?_
            simp only [Act.put, List.setIfInBounds_toArray, List.set_cons_zero, List.set_cons_succ]
            refine done (by kernel_rfl) ?_ _
            have HA := Lib.hid hU.1
            clear hU eKK
            go_wp2
            go_roundw
            case rel => exact ⟨j + 1, hlt1, by go_num, HA⟩
            case measure => simp [intOf]; omega
          · obtain rfl : j = ks.length := by omega
            have HA0 := HA
            go_wp2
            go_loopw [12] (fun i W => ∃ j : Nat, j ≤ l.length ∧ i = .int .i64 (j : Int) ∧ Hid (MkA w #[.bool b, .int .i64 n, .string (strB s), .slice pk ks.length ck, .slice pl l.length cl] ks l n1 g c g2 c2 W)) (fun i _ => l.length - (intOf i).toNat)
            case atStart => exact ⟨0, Nat.zero_le _, rfl, HA0⟩
            case round =>
              clear HA HA0 px3
              obtain ⟨j, hj, rfl, HA⟩ := hrel
              have px4 := cellOf (o := 4) HA.out.box rfl
              by_cases hlt : j < l.length
              · have hlt1 : j + 1 ≤ l.length := hlt
                obtain ⟨b0, o0, x2, e0, y0, v2⟩ := (HL.out.below HA.out.below).get hlt
                subst e0
                obtain ⟨x1, y1, v1⟩ := HA.out.vals.facts.2 j l[j] (List.getElem?_eq_getElem hlt)
                have y1' : Six wr g2 (0 + j * 6) x1 := by rw [Nat.zero_add]; exact y1
                have htv : totV l[j] ≤ 1000000 := by have := totVs_mem (List.getElem_mem hlt); have := HN.out.2; omega
                have HKP := Lib.hid (fun (W : World) (h : Below wr.heap.size wr W) => kept_any l[j] _ W x1 x2 htv (v1.below h) (v2.below h))
                have hU := And.intro (HA.out.keep ((Below.refl _ wr).drew.mono HA.out.size)) (TwoE.start y1' y0)
                clear y0 y1 y1' v1 v2 htv
                go_wp2
                clear HA px4
                refine plain_region_draws (fun W => MkA w #[.bool b, .int .i64 n, .string (strB s), .slice pk ks.length ck, .slice (some ⟨b0, o0, none⟩) l.length cl] ks l n1 g c g2 c2 W ∧ TwoE wr g2 (0 + j * 6) x1 b0 (o0 + j * 6) x2 W) (by kernel_rfl) hU (fun hU => ?_)
                refine take 0 161 (v := .slice (some ⟨g2, 0, none⟩) l.length c2) rfl rfl (by kernel_rfl) (by kernel_rfl) (by kernel_rfl) rfl (fun W hW => exec_move rfl rfl) (by assumption) ?_
                simp only [Act.put, List.setIfInBounds_toArray, List.set_cons_zero, List.set_cons_succ]
                refine take 1 162 (v := .int .i64 (j : Int)) rfl rfl (by kernel_rfl) (by kernel_rfl) (by kernel_rfl) rfl (fun W hW => exec_move rfl rfl) (by assumption) ?_
                simp only [Act.put, List.setIfInBounds_toArray, List.set_cons_zero, List.set_cons_succ]
                refine take 2 163 (v := .pointer (some ⟨g2, 0 + j * 6, none⟩)) rfl rfl (by kernel_rfl) (by kernel_rfl) (by kernel_rfl) rfl (fun W hW => exec_indexAddr rfl rfl rfl (ia_vals _ _ _ _ _ hlt W)) (by assumption) ?_
                simp only [Act.put, List.setIfInBounds_toArray, List.set_cons_zero, List.set_cons_succ]
                refine take 3 164 (v := .agg x1) rfl rfl (by kernel_rfl) (by kernel_rfl) (by kernel_rfl) rfl (fun W hW => exec_load rfl rfl (load_six hW.2.one)) (by assumption) ?_
                simp only [Act.put, List.setIfInBounds_toArray, List.set_cons_zero, List.set_cons_succ]
                refine take 4 165 (v := .pointer (some ⟨w.heap.size, 4, none⟩)) rfl rfl (by kernel_rfl) (by kernel_rfl) (by kernel_rfl) rfl (fun W hW => exec_fieldAddr rfl rfl (fa_parts _ _ (by decide) W)) (by assumption) ?_
                simp only [Act.put, List.setIfInBounds_toArray, List.set_cons_zero, List.set_cons_succ]
                refine take 5 166 (v := .slice (some ⟨b0, o0, none⟩) l.length cl) rfl rfl (by kernel_rfl) (by kernel_rfl) (by kernel_rfl) rfl (fun W hW => exec_load rfl rfl (run_load1 (w := W) Tryz.underlying24 rfl (cellOf hW.1.box rfl))) (by assumption) ?_
                simp only [Act.put, List.setIfInBounds_toArray, List.set_cons_zero, List.set_cons_succ]
                refine take 6 167 (v := .int .i64 (j : Int)) rfl rfl (by kernel_rfl) (by kernel_rfl) (by kernel_rfl) rfl (fun W hW => exec_move rfl rfl) (by assumption) ?_
                simp only [Act.put, List.setIfInBounds_toArray, List.set_cons_zero, List.set_cons_succ]
                refine take 7 168 (v := .pointer (some ⟨b0, o0 + j * 6, none⟩)) rfl rfl (by kernel_rfl) (by kernel_rfl) (by kernel_rfl) rfl (fun W hW => exec_indexAddr rfl rfl rfl (ia_vals _ _ _ _ _ hlt W)) (by assumption) ?_
                simp only [Act.put, List.setIfInBounds_toArray, List.set_cons_zero, List.set_cons_succ]
                refine take 8 169 (v := .agg x2) rfl rfl (by kernel_rfl) (by kernel_rfl) (by kernel_rfl) rfl (fun W hW => exec_load rfl rfl (load_six hW.2.two)) (by assumption) ?_
                simp only [Act.put, List.setIfInBounds_toArray, List.set_cons_zero, List.set_cons_succ]
                refine onlyCall 9 170 rfl rfl (by kernel_rfl) rfl (exec_call [.agg x1, .agg x2] rfl rfl Tryz.func22 (by kernel_rfl) (by kernel_rfl)) ?_
                refine (HKP.out _ hU.2.b).mono ?_
                rintro e w5 ⟨rfl, hb5⟩
                replace hU := And.intro (hU.1.keep (hb5.mono hU.1.size)) (hU.2.keep hb5)
                refine ⟨_, rfl, .inr (by assumption), ?_⟩
                simp only [Act.put, List.setIfInBounds_toArray, List.set_cons_zero, List.set_cons_succ]
                refine take 10 171 (v := .bool false) rfl rfl (by kernel_rfl) (by kernel_rfl) (by kernel_rfl) rfl (fun W hW => exec_unot (b := true) rfl rfl) (by assumption) ?_
                simp only [Act.put, List.setIfInBounds_toArray, List.set_cons_zero, List.set_cons_succ]
                refine done (by kernel_rfl) ?_ _
                have HA := Lib.hid hU.1
                clear hU HKP hb5
                go_wp2
                go_roundw
                case rel => exact ⟨j + 1, hlt1, by go_num, HA⟩
                case measure => simp [intOf]; omega
              · obtain rfl : j = l.length := by omega
                have hU := HA.out.keep ((Below.refl _ wr).drew.mono HA.out.size)
                have HFL := Lib.hid (fun (W : World) (k : Int) (b : Bool) (n : Int) (t : List UInt8) (ht : t.length ≤ 140737488355328) => alikeR_any (.mk k b n t [] []) W (flatX k b n t) (flatX k b n t) (flatX_rd W k b n t ht) (flatX_rd W k b n t ht))
                have HWK := Lib.hid (fun (W : World) (h : Below w.heap.size w W) => works_any (HEE.out.b h))
                go_wp2
                clear HA px4
                refine plain_region_draws (fun W => MkA w #[.bool b, .int .i64 n, .string (strB s), .slice pk ks.length ck, .slice pl l.length cl] ks l n1 g c g2 c2 W) (by kernel_rfl) hU (fun hU => ?_)
                refine take 1 173 (v := .agg (flatX 0 false 0 [])) rfl rfl (by kernel_rfl) (by kernel_rfl) (by kernel_rfl) rfl (fun W hW => exec_build0 rfl) (by assumption) ?_
                simp only [Act.put, List.setIfInBounds_toArray, List.set_cons_zero, List.set_cons_succ]
                refine onlyCall 0 172 rfl rfl (by kernel_rfl) rfl (exec_call [] rfl rfl Tryz.func41 (by kernel_rfl) (by kernel_rfl)) ?_
                refine (null_any _).mono ?_
                rintro e w5 ⟨rfl, hb5⟩
                replace hU := hU.keep (hb5.mono hU.size)
                refine ⟨_, rfl, .inr (by assumption), ?_⟩
                simp only [Act.put, List.setIfInBounds_toArray, List.set_cons_zero, List.set_cons_succ]
                refine onlyCall 2 174 rfl rfl (by kernel_rfl) rfl (exec_call [.agg (flatX 0 false 0 []), .agg (flatX 0 false 0 [])] rfl rfl Tryz.func39 (by kernel_rfl) (by kernel_rfl)) ?_
                refine (HFL.out _ _ _ _ _ (by first | exact Nat.zero_le _ | exact HSL.out)).mono ?_
                rintro e w5 ⟨rfl, hb5⟩
                replace hU := hU.keep (hb5.mono hU.size)
                refine ⟨_, rfl, .inr (by assumption), ?_⟩
                simp only [Act.put, List.setIfInBounds_toArray, List.set_cons_zero, List.set_cons_succ]
                refine take 3 175 (v := .bool true) rfl rfl (by kernel_rfl) (by kernel_rfl) (by kernel_rfl) rfl (fun W hW => exec_move rfl rfl) (by assumption) ?_
                simp only [Act.put, List.setIfInBounds_toArray, List.set_cons_zero, List.set_cons_succ]
                refine take 4 176 (v := .pointer (some ⟨w.heap.size, 0, none⟩)) rfl rfl (by kernel_rfl) (by kernel_rfl) (by kernel_rfl) rfl (fun W hW => exec_fieldAddr rfl rfl (fa_parts _ _ (by decide) W)) (by assumption) ?_
                simp only [Act.put, List.setIfInBounds_toArray, List.set_cons_zero, List.set_cons_succ]
                refine take 5 177 (v := .bool b) rfl rfl (by kernel_rfl) (by kernel_rfl) (by kernel_rfl) rfl (fun W hW => exec_load rfl rfl (run_load1 (w := W) Tryz.underlying4 rfl (cellOf hW.box rfl))) (by assumption) ?_
                simp only [Act.put, List.setIfInBounds_toArray, List.set_cons_zero, List.set_cons_succ]
                refine take 7 179 (v := .pointer (some ⟨w.heap.size, 0, none⟩)) rfl rfl (by kernel_rfl) (by kernel_rfl) (by kernel_rfl) rfl (fun W hW => exec_fieldAddr rfl rfl (fa_parts _ _ (by decide) W)) (by assumption) ?_
                simp only [Act.put, List.setIfInBounds_toArray, List.set_cons_zero, List.set_cons_succ]
                refine take 8 180 (v := .bool b) rfl rfl (by kernel_rfl) (by kernel_rfl) (by kernel_rfl) rfl (fun W hW => exec_load rfl rfl (run_load1 (w := W) Tryz.underlying4 rfl (cellOf hW.box rfl))) (by assumption) ?_
                simp only [Act.put, List.setIfInBounds_toArray, List.set_cons_zero, List.set_cons_succ]
                refine take 9 181 (v := .agg (flatX 1 b 0 [])) rfl rfl (by kernel_rfl) (by kernel_rfl) (by kernel_rfl) rfl (fun W hW => exec_buildB rfl rfl) (by assumption) ?_
                simp only [Act.put, List.setIfInBounds_toArray, List.set_cons_zero, List.set_cons_succ]
                refine onlyCall 6 178 rfl rfl (by kernel_rfl) rfl (exec_call [.bool b] rfl rfl Tryz.func42 (by kernel_rfl) (by kernel_rfl)) ?_
                refine (bool_any b _).mono ?_
                rintro e w5 ⟨rfl, hb5⟩
                replace hU := hU.keep (hb5.mono hU.size)
                refine ⟨_, rfl, .inr (by assumption), ?_⟩
                simp only [Act.put, List.setIfInBounds_toArray, List.set_cons_zero, List.set_cons_succ]
                refine onlyCall 10 182 rfl rfl (by kernel_rfl) rfl (exec_call [.agg (flatX 1 b 0 []), .agg (flatX 1 b 0 [])] rfl rfl Tryz.func39 (by kernel_rfl) (by kernel_rfl)) ?_
                refine (HFL.out _ _ _ _ _ (by first | exact Nat.zero_le _ | exact HSL.out)).mono ?_
                rintro e w5 ⟨rfl, hb5⟩
                replace hU := hU.keep (hb5.mono hU.size)
                refine ⟨_, rfl, .inr (by assumption), ?_⟩
                simp only [Act.put, List.setIfInBounds_toArray, List.set_cons_zero, List.set_cons_succ]
                refine take 11 183 (v := .bool true) rfl rfl (by kernel_rfl) (by kernel_rfl) (by kernel_rfl) rfl (fun W hW => rfl) (by assumption) ?_
                simp only [Act.put, List.setIfInBounds_toArray, List.set_cons_zero, List.set_cons_succ]
                refine take 12 184 (v := .bool true) rfl rfl (by kernel_rfl) (by kernel_rfl) (by kernel_rfl) rfl (fun W hW => exec_move rfl rfl) (by assumption) ?_
                simp only [Act.put, List.setIfInBounds_toArray, List.set_cons_zero, List.set_cons_succ]
                refine take 13 185 (v := .pointer (some ⟨w.heap.size, 1, none⟩)) rfl rfl (by kernel_rfl) (by kernel_rfl) (by kernel_rfl) rfl (fun W hW => exec_fieldAddr rfl rfl (fa_parts _ _ (by decide) W)) (by assumption) ?_
                simp only [Act.put, List.setIfInBounds_toArray, List.set_cons_zero, List.set_cons_succ]
                refine take 14 186 (v := .int .i64 n) rfl rfl (by kernel_rfl) (by kernel_rfl) (by kernel_rfl) rfl (fun W hW => exec_load rfl rfl (run_load1 (w := W) Tryz.underlying2 rfl (cellOf hW.box rfl))) (by assumption) ?_
                simp only [Act.put, List.setIfInBounds_toArray, List.set_cons_zero, List.set_cons_succ]
                refine take 16 188 (v := .pointer (some ⟨w.heap.size, 1, none⟩)) rfl rfl (by kernel_rfl) (by kernel_rfl) (by kernel_rfl) rfl (fun W hW => exec_fieldAddr rfl rfl (fa_parts _ _ (by decide) W)) (by assumption) ?_
                simp only [Act.put, List.setIfInBounds_toArray, List.set_cons_zero, List.set_cons_succ]
                refine take 17 189 (v := .int .i64 n) rfl rfl (by kernel_rfl) (by kernel_rfl) (by kernel_rfl) rfl (fun W hW => exec_load rfl rfl (run_load1 (w := W) Tryz.underlying2 rfl (cellOf hW.box rfl))) (by assumption) ?_
                simp only [Act.put, List.setIfInBounds_toArray, List.set_cons_zero, List.set_cons_succ]
                refine take 18 190 (v := .agg (flatX 2 false n [])) rfl rfl (by kernel_rfl) (by kernel_rfl) (by kernel_rfl) rfl (fun W hW => exec_buildI rfl rfl) (by assumption) ?_
                simp only [Act.put, List.setIfInBounds_toArray, List.set_cons_zero, List.set_cons_succ]
                refine onlyCall 15 187 rfl rfl (by kernel_rfl) rfl (exec_call [.int .i64 n] rfl rfl Tryz.func43 (by kernel_rfl) (by kernel_rfl)) ?_
                refine (int_any n _).mono ?_
                rintro e w5 ⟨rfl, hb5⟩
                replace hU := hU.keep (hb5.mono hU.size)
                refine ⟨_, rfl, .inr (by assumption), ?_⟩
                simp only [Act.put, List.setIfInBounds_toArray, List.set_cons_zero, List.set_cons_succ]
                refine onlyCall 19 191 rfl rfl (by kernel_rfl) rfl (exec_call [.agg (flatX 2 false n []), .agg (flatX 2 false n [])] rfl rfl Tryz.func39 (by kernel_rfl) (by kernel_rfl)) ?_
                refine (HFL.out _ _ _ _ _ (by first | exact Nat.zero_le _ | exact HSL.out)).mono ?_
                rintro e w5 ⟨rfl, hb5⟩
                replace hU := hU.keep (hb5.mono hU.size)
                refine ⟨_, rfl, .inr (by assumption), ?_⟩
                simp only [Act.put, List.setIfInBounds_toArray, List.set_cons_zero, List.set_cons_succ]
                refine take 20 192 (v := .bool true) rfl rfl (by kernel_rfl) (by kernel_rfl) (by kernel_rfl) rfl (fun W hW => rfl) (by assumption) ?_
                simp only [Act.put, List.setIfInBounds_toArray, List.set_cons_zero, List.set_cons_succ]
                refine take 21 193 (v := .bool true) rfl rfl (by kernel_rfl) (by kernel_rfl) (by kernel_rfl) rfl (fun W hW => exec_move rfl rfl) (by assumption) ?_
                simp only [Act.put, List.setIfInBounds_toArray, List.set_cons_zero, List.set_cons_succ]
                refine take 22 194 (v := .pointer (some ⟨w.heap.size, 2, none⟩)) rfl rfl (by kernel_rfl) (by kernel_rfl) (by kernel_rfl) rfl (fun W hW => exec_fieldAddr rfl rfl (fa_parts _ _ (by decide) W)) (by assumption) ?_
                simp only [Act.put, List.setIfInBounds_toArray, List.set_cons_zero, List.set_cons_succ]
                refine take 23 195 (v := .string (strB s)) rfl rfl (by kernel_rfl) (by kernel_rfl) (by kernel_rfl) rfl (fun W hW => exec_load rfl rfl (run_load1 (w := W) Tryz.underlying9 rfl (cellOf hW.box rfl))) (by assumption) ?_
                simp only [Act.put, List.setIfInBounds_toArray, List.set_cons_zero, List.set_cons_succ]
                refine take 25 197 (v := .pointer (some ⟨w.heap.size, 2, none⟩)) rfl rfl (by kernel_rfl) (by kernel_rfl) (by kernel_rfl) rfl (fun W hW => exec_fieldAddr rfl rfl (fa_parts _ _ (by decide) W)) (by assumption) ?_
                simp only [Act.put, List.setIfInBounds_toArray, List.set_cons_zero, List.set_cons_succ]
                refine take 26 198 (v := .string (strB s)) rfl rfl (by kernel_rfl) (by kernel_rfl) (by kernel_rfl) rfl (fun W hW => exec_load rfl rfl (run_load1 (w := W) Tryz.underlying9 rfl (cellOf hW.box rfl))) (by assumption) ?_
                simp only [Act.put, List.setIfInBounds_toArray, List.set_cons_zero, List.set_cons_succ]
                refine take 27 199 (v := .agg (flatX 3 false 0 s)) rfl rfl (by kernel_rfl) (by kernel_rfl) (by kernel_rfl) rfl (fun W hW => exec_buildT rfl rfl) (by assumption) ?_
                simp only [Act.put, List.setIfInBounds_toArray, List.set_cons_zero, List.set_cons_succ]
                refine onlyCall 24 196 rfl rfl (by kernel_rfl) rfl (exec_call [.string (strB s)] rfl rfl Tryz.func44 (by kernel_rfl) (by kernel_rfl)) ?_
                refine (string_any s _).mono ?_
                rintro e w5 ⟨rfl, hb5⟩
                replace hU := hU.keep (hb5.mono hU.size)
                refine ⟨_, rfl, .inr (by assumption), ?_⟩
                simp only [Act.put, List.setIfInBounds_toArray, List.set_cons_zero, List.set_cons_succ]
                refine onlyCall 28 200 rfl rfl (by kernel_rfl) rfl (exec_call [.agg (flatX 3 false 0 s), .agg (flatX 3 false 0 s)] rfl rfl Tryz.func39 (by kernel_rfl) (by kernel_rfl)) ?_
                refine (HFL.out _ _ _ _ _ (by first | exact Nat.zero_le _ | exact HSL.out)).mono ?_
                rintro e w5 ⟨rfl, hb5⟩
                replace hU := hU.keep (hb5.mono hU.size)
                refine ⟨_, rfl, .inr (by assumption), ?_⟩
                simp only [Act.put, List.setIfInBounds_toArray, List.set_cons_zero, List.set_cons_succ]
                refine take 29 201 (v := .bool true) rfl rfl (by kernel_rfl) (by kernel_rfl) (by kernel_rfl) rfl (fun W hW => rfl) (by assumption) ?_
                simp only [Act.put, List.setIfInBounds_toArray, List.set_cons_zero, List.set_cons_succ]
                refine take 30 202 (v := .bool true) rfl rfl (by kernel_rfl) (by kernel_rfl) (by kernel_rfl) rfl (fun W hW => exec_move rfl rfl) (by assumption) ?_
                simp only [Act.put, List.setIfInBounds_toArray, List.set_cons_zero, List.set_cons_succ]
                refine onlyCall 31 203 rfl rfl (by kernel_rfl) rfl (exec_call [] rfl rfl Tryz.func16 (by kernel_rfl) (by kernel_rfl)) ?_
                refine (HWK.out _ hU.below).mono ?_
                rintro e w5 ⟨rfl, hb5⟩
                replace hU := hU.keep (hb5.mono hU.size)
                refine ⟨_, rfl, .inr (by assumption), ?_⟩
                simp only [Act.put, List.setIfInBounds_toArray, List.set_cons_zero, List.set_cons_succ]
                refine take 32 204 (v := .bool true) rfl rfl (by kernel_rfl) (by kernel_rfl) (by kernel_rfl) rfl (fun W hW => rfl) (by assumption) ?_
                simp only [Act.put, List.setIfInBounds_toArray, List.set_cons_zero, List.set_cons_succ]
                refine take 33 2 (v := .bool true) rfl rfl (by kernel_rfl) (by kernel_rfl) (by kernel_rfl) rfl (fun W hW => exec_assign rfl rfl) (by assumption) ?_
                simp only [Act.put, List.setIfInBounds_toArray, List.set_cons_zero, List.set_cons_succ]
                refine done (by kernel_rfl) ?_ _
                have HF := Lib.hid hU.below
                clear hU HFL HWK
                go_wp2
                go_ret
                exact ⟨rfl, HF.out⟩
  · rw [decide_eq_false hsm] at HSM
    clear hE hk hl hs hks hsm
    go_enter Tryz.func6, Tryz.ntmps6
    go_wp2_with (first
      | (go_at_call 15; refine HSM.out.mono ?_; rintro e w1 ⟨rfl, hT⟩; have HT1 := Lib.hid hT; clear hT HSM)
      | (go_at_call 16; refine (HW.out _ HT1.out).mono ?_; rintro e w9 ⟨rfl, hb⟩; have HB := Lib.hid hb; clear hb))
    go_ret
    exact ⟨rfl, HB.out.2⟩
end Go.Proofs.YtnkaegdnjfpliaaGreatDoor

/-! ValueMakes: for every parts the law returns true, and the arguments read as they did. The listed tables of Go's library read as the program's text lays them. -/
namespace Go.Proofs.YtnkaegdnjfpliaaGreatDoor
set_option linter.unusedSimpArgs false
set_option linter.unusedVariables false
open Go.ChangeShapes Go.WideShapes Go.ChangeAt Go.RowKit Go.Joins

set_option maxRecDepth 100000 in
theorem valueMakes_lifted (os : Os) (started : os.Started) (H : Type) (enc : TypeId × Value → H) :
    ReturnsInHanded {} Tryz.checked os 6 .any (fun w args => (Rows.valueMakesSpec.pre enc Tryz.prog Tryz.f6 [] false w args ∧ laidMetH Tryz.prog LD w) ∧ sizedMet enc Tryz.prog Tryz.f6 (OpenSpec.ofChange Rows.valueMakesSpec) false w args)
      (Rows.valueMakesSpec.post enc Tryz.prog Tryz.f6 false true false false) := by
  refine returns_tied started (by kernel_rfl) Tryz.func6 #[.agg #[.bool false, .int .i64 0, .string ⟨#[]⟩, .slice none 0 0, .slice none 0 0]] (by kernel_rfl) (by kernel_rfl) (by kernel_rfl) (wit_shape _ _) (wit_laid _ _) ?_
  intro W base args ds gs before hval0 hW hz hE
  have hval : ∀ (j : Nat) t v, Tryz.f6.params[j]? = some t → args[j]? = some v → Value.okWide Tryz.prog W .any base t v := hval0
  have hW' := hW
  obtain ⟨p, q, hA0, hV, rfl, hfz, hnd⟩ := hW
  have hA : DataW.TrodAll enc Tryz.prog W 0 (fun _ => true) true Tryz.f6.params.toList args.toList ds p := hA0
  rw [Tryz.params6] at hA hval
  obtain ⟨v0, vs0, d0, ds0, p0, q0, hargs, rfl, rfl, h0, r0⟩ := trodAll_cons hA
  obtain ⟨rfl, rfl, rfl⟩ := trodAll_nil r0
  obtain ⟨rfl, rfl⟩ := trodVars_none hV
  obtain rfl : args = #[v0] := by cases args; simp_all
  rw [Tryz.params6] at hz
  have z0 := fits_one hz
  obtain ⟨b, n, s, pk, ck, ks, pl, cl, l, rfl, hs, hk, hl⟩ := parts_in (hval 0 44 v0 rfl rfl) h0 z0
  clear hA0 hval0
  refine (makes_law hE hs hk hl).mono fun e W' ⟨he, hg⟩ => ?_
  subst he
  exact ⟨_, rfl, law_post laidT (by decide +kernel) Tryz.underlying4 (by kernel_rfl) rfl hW' rfl hg⟩
theorem valueMakes_row : Rows.ValueMakesSaid :=
  OpenClaim.holds_of_wide 6 Tryz.f6 rfl rfl rfl rfl rfl rfl rfl ⟨rfl, rfl, rfl, rfl, rfl⟩ rfl rfl rfl rfl rfl (by kernel_rfl) Tryz.func6 (by kernel_rfl)
    (of_decide_eq_true (by kernel_rfl)) (by unfold Func.isWrapper; first | (rw [if_pos (by decide +kernel)]; kernel_rfl) | (rw [if_neg (by decide +kernel)]; exact ⟨rfl, rfl⟩))
    (fun os started H enc _ => valueMakes_lifted os started H enc)
theorem makes_law_holds : Rows.ValueMakesCardSaid :=
  Claim7.holds_tied_plain_at .later [] [.data, .data, .data, .data, .pinned] true (true, "541050135a4ae63573153b942905868de3e811d8a5bb89e3a2a615778747f658") true
    valueMakes_row (fun _ h => by cases h) (by kernel_rfl) (fun _ h => by cases h) valueMakes_row_tie rfl ⟨rfl, rfl⟩ (by kernel_rfl) rfl
    (fun f fn hf hfn => by
      obtain rfl : f = 6 := Option.some.inj ((show Tryz.prog.funcNamed "lattice/latticelaw01.ValueMakes" = some 6 by kernel_rfl).symm.trans hf) |>.symm
      obtain rfl : fn = Tryz.f6 := (Option.some.inj (Tryz.func6.symm.trans hfn)).symm
      exact ⟨by kernel_rfl, fun j t ht => by
        rw [Tryz.params6] at ht
        have hm : t ∈ [44] := by simpa using Array.mem_of_getElem? ht
        have hall : ([44].all fun u => !Tryz.prog.wantsStandIn u) = true := by kernel_rfl
        exact (show Tryz.prog.wantsStandIn t = false by simpa using List.all_eq_true.1 hall t hm)⟩)
    (by kernel_rfl)
#print axioms makes_law_holds
end Go.Proofs.YtnkaegdnjfpliaaGreatDoor
