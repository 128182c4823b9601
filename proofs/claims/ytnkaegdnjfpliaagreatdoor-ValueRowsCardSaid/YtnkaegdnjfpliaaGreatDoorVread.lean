/- Values that come in: what reads as data reads as a value. -/
import Derived.Test.YtnkaegdnjfpliaaGreatDoorVtell
import Derived.Test.YtnkaegdnjfpliaaGreatDoorLift
import Derived.Deep.Slices
import Derived.SliceStrings
namespace Go.Proofs.YtnkaegdnjfpliaaGreatDoor
set_option linter.unusedSimpArgs false
set_option linter.unusedVariables false
open Go.ChangeShapes Go.WideShapes Go.ChangeAt Go.RowKit Go.Joins

instance : Inhabited V := ⟨.mk 0 false 0 [] [] []⟩
theorem cells26 : Tryz.prog.cellsOf 26 = 6 := by kernel_rfl
theorem cells24 : Tryz.prog.cellsOf 24 = 1 := by kernel_rfl
theorem cells23 : Tryz.prog.cellsOf 23 = 1 := by kernel_rfl
theorem cells9 : Tryz.prog.cellsOf 9 = 1 := by kernel_rfl
theorem cells4 : Tryz.prog.cellsOf 4 = 1 := by kernel_rfl
theorem cells2 : Tryz.prog.cellsOf 2 = 1 := by kernel_rfl
theorem cells22 : Tryz.prog.cellsOf 22 = 1 := by kernel_rfl
theorem bytes9 : Tryz.prog.bytesOf 9 = 16 := by kernel_rfl
theorem bytes26 : Tryz.prog.bytesOf 26 = 88 := by kernel_rfl
theorem strB_back (s : ByteArray) : strB s.data.toList = s := by cases s; simp [strB]
/-- All that is met is within reach. -/
def Fits {H : Type} (t : TypeId) (d : DataW H) : Prop := ∀ n ∈ d.weights Tryz.prog t, n ≤ 140737488351232
theorem Fits.of {H : Type} {t : TypeId} {d : DataW H} (h : (d.weights Tryz.prog t).all (· ≤ reachBytes) = true) : Fits t d := by
  intro n hn
  exact (of_decide_eq_true (List.all_eq_true.1 h n hn) : n ≤ reachBytes)
theorem fits_string {H : Type} {t : TypeId} {l : List UInt8} (h : Fits (H := H) t (.lit (.string l))) : l.length ≤ 140737488351232 := h _ (by simp [DataW.weights])
theorem weightsAll_mem {H : Type} {e : TypeId} {d : DataW H} : ∀ {l : List (DataW H)}, d ∈ l → ∀ n ∈ d.weights Tryz.prog e, n ∈ DataW.weightsAll Tryz.prog e l := by
  intro l
  induction l with
  | nil => intro h; simp at h
  | cons a r ih =>
    intro h n hn
    rw [DataW.weightsAll, List.mem_append]
    rcases List.mem_cons.1 h with rfl | h
    · exact .inl hn
    · exact .inr (ih h n hn)
theorem fits_slice {H : Type} {t e : TypeId} (ht : Tryz.prog.underlying t = some (.slice e)) {l m : List (DataW H)} (h : Fits t (.slice l m)) : l.length * Tryz.prog.bytesOf e ≤ 140737488351232 ∧ ∀ d ∈ l, Fits e d := by
  have h0 := h
  unfold Fits at h0
  rw [DataW.weights, ht] at h0
  refine ⟨?_, fun d hd n hn => h0 n (List.mem_cons_of_mem _ (List.mem_append_left _ (weightsAll_mem hd n hn)))⟩
  have := h0 _ (List.mem_cons_self ..)
  exact Nat.le_trans (Nat.mul_le_mul_right _ (by omega)) this
section
variable {H : Type} {enc : TypeId × Value → H} {w : World} {base : Nat} {held : Bool}
/-- Keys that come in. -/
theorem keys_of {fuel : Nat} {v : Value} {x : DataW H × List MemPlace} (h : DataW.trod enc Tryz.prog w base (fun _ => true) held fuel 23 [v] = some x) (hf : Fits 23 x.1) :
    ∃ p c ks, v = .slice p (List.length ks) c ∧ RdS w p c ks := by
  rcases open_strings Tryz.underlying23 Tryz.underlying9 cells9 h with ⟨hv, _⟩ | ⟨a, len, cap, ss, hv, _, hl, hm, hlen, rfl, hc, _⟩
  · cases hv
    exact ⟨none, 0, [], rfl, Nat.le_refl _, (by simp), (fun _ => rfl), fun s hs => by simp at hs, fun ad h => by cases h⟩
  · cases hv
    obtain ⟨h1, h2⟩ := fits_slice Tryz.underlying23 hf
    rw [bytes9] at h1
    have hle : len ≤ ss.length := by rw [hlen]; simpa using hl
    have hk : ((ss.take len).map fun s => s.data.toList).length = len := by simp; omega
    have hget : ∀ (i : Nat) (s : List UInt8), ((ss.take len).map fun s => s.data.toList)[i]? = some s → i < len ∧ i < ss.length ∧ strB s = ss.getD i ByteArray.empty := by
      intro i s hs
      have hi : i < len := by
        have := (List.getElem?_eq_some_iff.1 hs).1
        rw [hk] at this; exact this
      have hi2 : i < ss.length := by omega
      rw [List.getElem?_map, List.getElem?_take, if_pos hi, List.getElem?_eq_getElem hi2] at hs
      cases hs
      exact ⟨hi, hi2, by simp [strB_back, List.getD, hi2]⟩
    refine ⟨some a, cap, (ss.take len).map fun s => s.data.toList, by rw [hk], by rw [hk]; exact hl, ?_, (fun e => by cases e), fun s hs => ?_, fun ad had => ?_⟩
    · rw [hk]
      have : len ≤ 140737488351232 := by
        have : (strs (H := H) (ss.take len)).length = len := by simp [strs]; omega
        rw [this] at h1; omega
      exact ⟨by omega, hm⟩
    · obtain ⟨s', hs', rfl⟩ := List.mem_map.1 hs
      have := fits_string (h2 (.lit (.string s'.data.toList)) (List.mem_map.2 ⟨s', hs', rfl⟩))
      omega
    · cases had
      have hspot : 0 < len → a.spot = none := fun h0 => by
        have := World.cell?_spot (hc 0 (by omega))
        simpa [Addr.add] using this
      refine ⟨fun hne => hspot ?_, fun i s hs => ?_⟩
      · rcases Nat.eq_zero_or_pos len with h0 | h0
        · exact absurd (List.eq_nil_of_length_eq_zero (by rw [hk]; exact h0)) hne
        · exact h0
      · obtain ⟨h3, h4, h5⟩ := hget i s hs
        have h6 := hc i h4
        have hs0 := hspot (by omega)
        obtain ⟨ab, ao, asp⟩ := a
        simp only at hs0
        subst hs0
        rw [addr_add] at h6
        rw [h5]
        exact h6
theorem int_rng {n : Int} (h : (Lit.int .i64 n).wf = true) : -9223372036854775808 ≤ n ∧ n ≤ 9223372036854775807 := by
  simp [Lit.wf, IntKind.min, IntKind.max, IntKind.signed, IntKind.bits] at h
  omega
set_option maxRecDepth 100000 in
theorem weights_struct {d0 d1 d2 d3 d4 d5 : DataW H} (h : Fits 26 (.agg [d0, d1, d2, d3, d4, d5])) : Fits 9 d3 ∧ Fits 23 d4 ∧ Fits 24 d5 := by
  unfold Fits at h
  rw [DataW.weights, Tryz.underlying26] at h
  simp only [List.map_cons, List.map_nil, DataW.weightsEach, List.append_nil, List.mem_append] at h
  exact ⟨fun n hn => h n (by simp [hn]), fun n hn => h n (by simp [hn]), fun n hn => h n (by simp [hn])⟩
set_option maxRecDepth 100000 in
/-- A value that comes in. -/
theorem value_of : ∀ (fuel : Nat) (cs : List Value) (x : DataW H × List MemPlace), DataW.trod enc Tryz.prog w base (fun _ => true) held fuel 26 cs = some x → Fits 26 x.1 →
    ∃ v, VRd w v cs.toArray ∧ rngV v := by
  intro fuel
  induction fuel using Nat.strongRecOn with
  | ind fuel ih =>
    intro cs x h hf
    obtain ⟨xs, n, rfl, rfl, hl, hlen, hfl⟩ := DataW.trod_struct Tryz.underlying26 h
    rw [cells26] at hl
    match xs, hlen with
    | [y0, y1, y2, y3, y4, y5], _ =>
      match cs, hl with
      | [c0, c1, c2, c3, c4, c5], _ =>
        have k0 := hfl 0 _ rfl
        have k1 := hfl 1 _ rfl
        have k2 := hfl 2 _ rfl
        have k3 := hfl 3 _ rfl
        have k4 := hfl 4 _ rfl
        have k5 := hfl 5 _ rfl
        simp only [cells22, cells4, cells2, cells9, cells23, cells24, List.drop_zero, List.drop_succ_cons, List.take_succ_cons, List.take_zero, List.getElem?_cons_zero, List.getElem?_cons_succ] at k0 k1 k2 k3 k4 k5
        obtain ⟨w3, w4, w5⟩ := weights_struct hf
        obtain ⟨kd, e0, _, _⟩ := DataW.trod_int Tryz.underlying22 k0
        obtain ⟨b, e1, _⟩ := DataW.trod_bool Tryz.underlying4 k1
        obtain ⟨num, e2, _, hw⟩ := DataW.trod_int Tryz.underlying2 k2
        obtain ⟨s, e3, e3', _⟩ := DataW.trod_string Tryz.underlying9 k3
        obtain ⟨pk, ck, ks, rfl, hks⟩ := keys_of k4 w4
        obtain rfl : c0 = _ := (List.cons.inj e0).1
        obtain rfl : c1 = _ := (List.cons.inj e1).1
        obtain rfl : c2 = _ := (List.cons.inj e2).1
        obtain rfl : c3 = _ := (List.cons.inj e3).1
        rw [e3'] at w3
        have ht := fits_string w3
        have hrng := int_rng hw
        rcases DataW.trod_slice Tryz.underlying24 k5 with ⟨hv, _⟩ | ⟨a, len, cap, elems, rest, m, rfl, hv, e5, _, hle, hm, hel, helt, _, _⟩
        · cases hv
          refine ⟨.mk kd b num s.data.toList ks [], ?_, rngV_mk.2 ⟨hrng, by simp [rngVs]⟩⟩
          refine VRd_iff.2 ⟨pk, ck, none, 0, by rw [strB_back]; rfl, by omega, hks, ⟨Nat.le_refl _, by simp, fun _ => rfl⟩, fun ad h => by cases h⟩
        · cases hv
          rw [e5] at w5
          obtain ⟨g1, g2⟩ := fits_slice Tryz.underlying24 w5
          rw [bytes26] at g1
          rw [cells26] at helt
          have hlenE : (elems.map (·.1)).length = len := by simpa using hel
          rw [hlenE] at g1
          obtain ⟨f, hfv⟩ := Go.Deep.choose_lt (n := len) (α := V) (p := fun i v => ∃ cs', w.cells? base (a.add (i * 6)) 6 = some cs' ∧ VRd w v cs'.toArray ∧ rngV v) (fun i hi => by
            have hi2 : i < elems.length := by omega
            have h1 := helt i hi
            rw [List.getElem?_eq_getElem hi2] at h1
            obtain ⟨cs', h2, h3⟩ := Option.bind_eq_some_iff.1 h1
            obtain ⟨v, hv1, hv2⟩ := ih m (by omega) cs' elems[i] h3 (g2 _ (List.mem_map.2 ⟨elems[i], List.getElem_mem hi2, rfl⟩))
            exact ⟨v, cs', h2, hv1, hv2⟩)
          have hspot : 0 < len → a.spot = none := fun h0 => by
            obtain ⟨cs', h1, _⟩ := hfv 0 h0
            obtain ⟨_, hcl, hc⟩ := World.cells?_some h1
            have h3 := hc 0 (by omega)
            rw [List.getElem?_eq_getElem (by omega)] at h3
            have := World.cell?_spot h3
            simpa [Addr.add] using this
          have hll : ((List.range len).map f).length = len := by simp
          refine ⟨.mk kd b num s.data.toList ks ((List.range len).map f), ?_, rngV_mk.2 ⟨hrng, rngVs_iff.2 fun v hv => ?_⟩⟩
          · refine VRd_iff.2 ⟨pk, ck, some a, cap, by rw [strB_back, hll], by omega, hks, ⟨by rw [hll]; exact hle, by rw [hll]; exact ⟨by omega, hm⟩, fun e => by cases e⟩, fun ad had => ?_⟩
            cases had
            refine ⟨fun hne => hspot ?_, fun j v hv => ?_⟩
            · rcases Nat.eq_zero_or_pos len with h0 | h0
              · exact absurd (List.eq_nil_of_length_eq_zero (by rw [hll]; exact h0)) hne
              · exact h0
            · have hj : j < len := by
                have := (List.getElem?_eq_some_iff.1 hv).1
                rwa [hll] at this
              have e : v = f j := by
                have := (List.getElem?_eq_some_iff.1 hv).2
                simpa using this.symm
              subst e
              obtain ⟨cs', h1, h2, _⟩ := hfv j hj
              have hs0 := hspot (by omega)
              obtain ⟨ab, ao, asp⟩ := a
              simp only at hs0
              subst hs0
              obtain ⟨_, hcl, hc⟩ := World.cells?_some h1
              match cs', hcl with
              | [u0, u1, u2, u3, u4, u5], _ =>
                have q0 := hc 0 (by omega)
                have q1 := hc 1 (by omega)
                have q2 := hc 2 (by omega)
                have q3 := hc 3 (by omega)
                have q4 := hc 4 (by omega)
                have q5 := hc 5 (by omega)
                simp only [addr_add, Nat.add_zero] at q0 q1 q2 q3 q4 q5
                exact ⟨_, ⟨u0, u1, u2, u3, u4, u5, rfl, q0, q1, q2, q3, q4, q5⟩, h2⟩
          · obtain ⟨i, hi, rfl⟩ := List.mem_map.1 hv
            obtain ⟨_, _, _, h3⟩ := hfv i (List.mem_range.1 hi)
            exact h3
set_option maxRecDepth 100000 in
/-- A value that comes in, at the top. -/
theorem value_in {r : Reach} {b0 : Nat} {v : Value} {d : DataW H} {p : List MemPlace} (hv : Value.okWide Tryz.prog w r b0 26 v) (h : DataW.Trod enc Tryz.prog w base (fun _ => true) held 26 v d p) (hf : Fits 26 d) :
    ∃ u x, v = .agg x ∧ VRd w u x ∧ rngV u := by
  obtain ⟨cs, rfl, _⟩ := okWide_struct Tryz.underlying26 hv
  obtain ⟨fuel, h⟩ := h
  obtain ⟨u, h1, h2⟩ := value_of fuel _ _ h hf
  exact ⟨u, cs, rfl, by simpa [Value.cells] using h1, h2⟩
end
end Go.Proofs.YtnkaegdnjfpliaaGreatDoor
