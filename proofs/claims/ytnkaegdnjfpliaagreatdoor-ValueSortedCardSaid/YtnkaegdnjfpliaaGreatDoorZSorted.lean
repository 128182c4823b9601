/- ValueSorted: for every row of values the law returns true, and the arguments read as they did. The listed tables of Go's library read as the program's text lays them. -/
import Derived.Test.YtnkaegdnjfpliaaGreatDoorGC
import Derived.Test.YtnkaegdnjfpliaaGreatDoorGB
import Derived.Test.YtnkaegdnjfpliaaGreatDoorGE
import Derived.Test.YtnkaegdnjfpliaaGreatDoorGA
import Derived.Laws.StructEq
import Derived.Lib.Hide
import Derived.Test.YtnkaegdnjfpliaaGreatDoorGD
import Derived.Test.YtnkaegdnjfpliaaGreatDoorCards
import Derived.Test.YtnkaegdnjfpliaaGreatDoorTie
/-! Rows of values that come in. -/
namespace Go.Proofs.YtnkaegdnjfpliaaGreatDoor
set_option linter.unusedSimpArgs false
set_option linter.unusedVariables false
open Go.ChangeShapes Go.WideShapes Go.ChangeAt Go.RowKit Go.Joins

section
variable {H : Type} {enc : TypeId × Value → H} {w : World} {base : Nat} {held : Bool}
set_option maxRecDepth 100000 in
/-- Values that come in, in a row. -/
theorem vals_of {fuel : Nat} {v0 : Value} {x : DataW H × List MemPlace} (h : DataW.trod enc Tryz.prog w base (fun _ => true) held fuel 24 [v0] = some x) (hf : Fits 24 x.1) :
    ∃ p c l, v0 = .slice p (List.length l) c ∧ LRd w p c l ∧ rngVs l := by
  rcases DataW.trod_slice Tryz.underlying24 h with ⟨hv, _⟩ | ⟨a, len, cap, elems, rest, m, rfl, hv, e5, _, hle, hm, hel, helt, _, _⟩
  · cases hv
    exact ⟨none, 0, [], rfl, ⟨⟨Nat.le_refl _, by simp, fun _ => rfl⟩, fun ad h => by cases h⟩, by simp [rngVs]⟩
  · cases hv
    rw [e5] at hf
    obtain ⟨g1, g2⟩ := fits_slice Tryz.underlying24 hf
    rw [bytes26] at g1
    rw [cells26] at helt
    have hlenE : (elems.map (·.1)).length = len := by simpa using hel
    rw [hlenE] at g1
    obtain ⟨f, hfv⟩ := Go.Deep.choose_lt (n := len) (α := V) (p := fun i v => ∃ cs', w.cells? base (a.add (i * 6)) 6 = some cs' ∧ VRd w v cs'.toArray ∧ rngV v) (fun i hi => by
      have hi2 : i < elems.length := by omega
      have h1 := helt i hi
      rw [List.getElem?_eq_getElem hi2] at h1
      obtain ⟨cs', h2, h3⟩ := Option.bind_eq_some_iff.1 h1
      obtain ⟨v, hv1, hv2⟩ := value_of m cs' elems[i] h3 (g2 _ (List.mem_map.2 ⟨elems[i], List.getElem_mem hi2, rfl⟩))
      exact ⟨v, cs', h2, hv1, hv2⟩)
    have hspot : 0 < len → a.spot = none := fun h0 => by
      obtain ⟨cs', h1, _⟩ := hfv 0 h0
      obtain ⟨_, hcl, hc⟩ := World.cells?_some h1
      have h3 := hc 0 (by omega)
      rw [List.getElem?_eq_getElem (by omega)] at h3
      have := World.cell?_spot h3
      simpa [Addr.add] using this
    have hll : ((List.range len).map f).length = len := by simp
    refine ⟨some a, cap, (List.range len).map f, by rw [hll], ⟨⟨by rw [hll]; exact hle, by rw [hll]; exact ⟨by omega, hm⟩, fun e => by cases e⟩, fun ad had => ?_⟩, rngVs_iff.2 fun v hv => ?_⟩
    · cases had
      refine ⟨fun hne => hspot ?_, fun j v hv => ?_⟩
      · rcases Nat.eq_zero_or_pos len with h0 | h0
        · exact absurd (List.eq_nil_of_length_eq_zero (by rw [hll]; exact h0)) hne
        · exact h0
      · have hj : j < len := by
          have := (List.getElem?_eq_some_iff.1 hv).1
          rwa [hll] at this
        have e : v = f j := by
          have := (List.getElem?_eq_some_iff.1 hv).2
          simpa using this.symm
        subst e
        obtain ⟨cs', h1, h2, _⟩ := hfv j hj
        have hs0 := hspot (by omega)
        obtain ⟨ab, ao, asp⟩ := a
        simp only at hs0
        subst hs0
        obtain ⟨_, hcl, hc⟩ := World.cells?_some h1
        match cs', hcl with
        | [u0, u1, u2, u3, u4, u5], _ =>
          have q0 := hc 0 (by omega)
          have q1 := hc 1 (by omega)
          have q2 := hc 2 (by omega)
          have q3 := hc 3 (by omega)
          have q4 := hc 4 (by omega)
          have q5 := hc 5 (by omega)
          simp only [addr_add, Nat.add_zero] at q0 q1 q2 q3 q4 q5
          exact ⟨_, ⟨u0, u1, u2, u3, u4, u5, rfl, q0, q1, q2, q3, q4, q5⟩, h2⟩
    · obtain ⟨i, hi, rfl⟩ := List.mem_map.1 hv
      obtain ⟨_, _, _, h3⟩ := hfv i (List.mem_range.1 hi)
      exact h3
set_option maxRecDepth 100000 in
/-- Values that come in, at the top. -/
theorem vals_in {r : Reach} {b0 : Nat} {v : Value} {d : DataW H} {p : List MemPlace} (hv : Value.okWide Tryz.prog w r b0 24 v) (h : DataW.Trod enc Tryz.prog w base (fun _ => true) held 24 v d p) (hf : Fits 24 d) :
    ∃ p c l, v = .slice p (List.length l) c ∧ LRd w p c l ∧ rngVs l := by
  obtain ⟨a, len, cap, rfl⟩ := okWide_slice Tryz.underlying24 hv
  obtain ⟨fuel, h⟩ := h
  exact vals_of (by simpa [Value.cells] using h) hf
end
end Go.Proofs.YtnkaegdnjfpliaaGreatDoor

/-! The contracts under value.compare, where draws only rise. Printed by gen_drn.py. -/
namespace Go.Proofs.YtnkaegdnjfpliaaGreatDoor
set_option linter.unusedSimpArgs false
set_option linter.unusedVariables false
open Go.RowKit

/-- Below, and draws do not fall. -/
structure BelowD (B : Nat) (w w' : World) : Prop where
  b : Below B w w'
  drawn : w.drawn ≤ w'.drawn
instance {B : Nat} {w w' : World} : Coe (BelowD B w w') (Below B w w') := ⟨BelowD.b⟩
theorem BelowD.refl (B : Nat) (w : World) : BelowD B w w := ⟨Below.refl _ _, Nat.le_refl _⟩
theorem BelowD.trans {B : Nat} {a b c : World} (h : BelowD B a b) (k : BelowD B b c) : BelowD B a c := ⟨h.b.trans k.b, Nat.le_trans h.drawn k.drawn⟩
theorem BelowD.mono {B B' : Nat} {w w' : World} (h : BelowD B w w') (hB : B' ≤ B) : BelowD B' w w' := ⟨h.b.mono hB, h.drawn⟩
theorem BelowD.size {B : Nat} {w w' : World} (h : BelowD B w w') : w.heap.size ≤ w'.heap.size := h.b.size
theorem BelowD.drew {B : Nat} {a w : World} (h : BelowD B a w) : BelowD B a w.drew := ⟨h.b.drew, Nat.le_trans h.drawn (Nat.le_succ _)⟩
theorem BelowD.alloc {B : Nat} {a w : World} (h : BelowD B a w) (hB : B ≤ w.heap.size) (o : Obj) : BelowD B a (w.alloc o) := ⟨h.b.alloc hB o, h.drawn⟩
theorem belowD_new {w : World} (o : Obj) : BelowD w.heap.size w (w.alloc o) := ⟨below_new o, Nat.le_refl _⟩
theorem belowD_trans {w w1 w2 : World} (h : BelowD w.heap.size w w1) (g : BelowD w1.heap.size w1 w2) : BelowD w.heap.size w w2 := h.trans (g.mono h.size)
theorem belowD_putObj {B l : Nat} {w W : World} {o : Obj} (h : BelowD B w W) (hl : B ≤ l) : BelowD B w (W.putObj l o) := ⟨below_putObj h.b hl, h.drawn⟩
set_option maxRecDepth 100000 in
set_option maxHeartbeats 1000000 in
theorem truthsD_any (a b : Bool) (w : World) : Calls Tryz.prog 95 #[.bool a, .bool b] w fun e w' => e = .returned (.int .i64 (cmpI (b2i a) (b2i b))) ∧ BelowD w.heap.size w w' := by
  have hmm := @run_makeMap Tryz.prog
  have hin := insert_tt (w := w.alloc (.map #[] 0)) (b := w.heap.size) (heap_alloc_new _ _)
  have hb : BelowD w.heap.size w ((w.alloc (.map #[] 0)).putObj w.heap.size (.map #[{ key := .bool true, val := .int .i64 1, born := 0 }] 1)) := belowD_putObj (belowD_new _) (Nat.le_refl _)
  have hlk := fun a => lookup_tt (w := (w.alloc (.map #[] 0)).putObj w.heap.size (.map #[{ key := .bool true, val := .int .i64 1, born := 0 }] 1)) (b := w.heap.size) (clk := 1) (putObj_self (heap_alloc_new _ _)) a
  generalize (w.alloc (.map #[] 0)).putObj w.heap.size (.map #[{ key := .bool true, val := .int .i64 1, born := 0 }] 1) = w1 at *
  have HB := Lib.hid hb
  clear hb
  go_enter Tryz.func95, Tryz.ntmps95
  go_wp2_with (go_at_call 93; refine (cmp_any _ _ _).mono ?_; rintro e w' ⟨rfl, rfl⟩)
  go_ret
  exact ⟨rfl, HB.out⟩
set_option maxRecDepth 100000 in
set_option maxHeartbeats 2000000 in
theorem cmpvalsD_any {w : World} {p1 p2 : Option Addr} {c1 c2 : Nat} {l1 l2 : List V} (h1 : LRd w p1 c1 l1) (h2 : LRd w p2 c2 l2) (fn : FuncId) (hf : fn = 63) (f : V → V → Int)
    (hc : ∀ a ∈ l1, ∀ b ∈ l2, ∀ x y W, VRd W a x → VRd W b y → Calls Tryz.prog 63 #[.agg x, .agg y] W fun e w' => e = .returned (.int .i64 (f a b)) ∧ BelowD W.heap.size W w') :
    Calls Tryz.prog 115 #[.slice p1 l1.length c1, .slice p2 l2.length c2, .func (.func 63) #[] #[]] w fun e w' => e = .returned (.int .i64 (cmpL f l1 l2)) ∧ BelowD w.heap.size w w' := by
  have z1 : (l1.length : Int) ≤ 140737488355328 := by have := h1.1.1; have := h1.1.2.1; omega
  have z2 : (l2.length : Int) ≤ 140737488355328 := by have := h2.1.1; have := h2.1.2.1; omega
  have H := Lib.hid (And.intro h1 h2)
  have HC := Lib.hid hc
  clear h1 h2 hc hf
  go_enter Tryz.func115, Tryz.ntmps115
  go_wp2
  go_loopw [13] (fun i wr => ∃ k : Nat, k ≤ l1.length ∧ k ≤ l2.length ∧ i = .int .i64 (k : Int) ∧ Hid (cmpL f l1 l2 = cmpL f (l1.drop k) (l2.drop k) ∧ BelowD w.heap.size w wr)) (fun i _ => l1.length - (intOf i).toNat)
  case atStart => exact ⟨0, Nat.zero_le _, Nat.zero_le _, rfl, Lib.hid ⟨by simp, BelowD.refl _ _⟩⟩
  case round =>
    obtain ⟨k, hk, hk2, rfl, HK⟩ := hrel
    by_cases hlt : k < l1.length
    · have hlt1 : k + 1 ≤ l1.length := hlt
      obtain ⟨b1, o1, pk1, ck1, pl1, cl1, rfl, ⟨a0, a1, a2, a3, a4, a5⟩, hv1⟩ := (H.out.1.below HK.out.2.b).at hlt
      by_cases hlt2 : k < l2.length
      · have hlt3 : k + 1 ≤ l2.length := hlt2
        obtain ⟨b2, o2, pk2, ck2, pl2, cl2, rfl, ⟨q0, q1, q2, q3, q4, q5⟩, hv2⟩ := (H.out.2.below HK.out.2.b).at hlt2
        have hd := cmpL_drop f hlt hlt2
        have hcc := HC.out l1[k] (List.getElem_mem hlt) l2[k] (List.getElem_mem hlt2)
        generalize l1[k] = s1 at *
        generalize l2[k] = s2 at *
        have n0 := belowCell (below_new (w := wr) (.cells #[.int .i64 s1.kind, .bool s1.b, .int .i64 s1.n, .string (strB s1.text), .slice pk1 s1.keys.length ck1, .slice pl1 s1.list.length cl1] 26)) (ltOf q0) q0
        have n1 := belowCell (below_new (w := wr) (.cells #[.int .i64 s1.kind, .bool s1.b, .int .i64 s1.n, .string (strB s1.text), .slice pk1 s1.keys.length ck1, .slice pl1 s1.list.length cl1] 26)) (ltOf q1) q1
        have n2 := belowCell (below_new (w := wr) (.cells #[.int .i64 s1.kind, .bool s1.b, .int .i64 s1.n, .string (strB s1.text), .slice pk1 s1.keys.length ck1, .slice pl1 s1.list.length cl1] 26)) (ltOf q2) q2
        have n3 := belowCell (below_new (w := wr) (.cells #[.int .i64 s1.kind, .bool s1.b, .int .i64 s1.n, .string (strB s1.text), .slice pk1 s1.keys.length ck1, .slice pl1 s1.list.length cl1] 26)) (ltOf q3) q3
        have n4 := belowCell (below_new (w := wr) (.cells #[.int .i64 s1.kind, .bool s1.b, .int .i64 s1.n, .string (strB s1.text), .slice pk1 s1.keys.length ck1, .slice pl1 s1.list.length cl1] 26)) (ltOf q4) q4
        have n5 := belowCell (below_new (w := wr) (.cells #[.int .i64 s1.kind, .bool s1.b, .int .i64 s1.n, .string (strB s1.text), .slice pk1 s1.keys.length ck1, .slice pl1 s1.list.length cl1] 26)) (ltOf q5) q5
        have hbA : BelowD wr.heap.size wr ((wr.alloc (.cells #[.int .i64 s1.kind, .bool s1.b, .int .i64 s1.n, .string (strB s1.text), .slice pk1 s1.keys.length ck1, .slice pl1 s1.list.length cl1] 26)).alloc (.cells #[.int .i64 s2.kind, .bool s2.b, .int .i64 s2.n, .string (strB s2.text), .slice pk2 s2.keys.length ck2, .slice pl2 s2.list.length cl2] 26)) := (belowD_new _).alloc (by simp) _
        have HS := Lib.hid (hcc _ _ _ (hv1.below hbA.b) (hv2.below hbA.b))
        have HB := Lib.hid (And.intro HK.out.2 hbA)
        by_cases e : f s1 s2 = 0
        · have d : (f s1 s2 != 0) = false := by simp [e]
          have HE := Lib.hid (HK.out.1.trans (by rw [hd, if_neg (by simpa using e)]))
          clear e hd HK hv1 hv2 hcc hbA
          go_wp2_with (go_at_call 63; refine HS.out.mono ?_; rintro e w3 ⟨rfl, hb3⟩; have HB3 := Lib.hid hb3; clear hb3)
          go_roundw
          case rel => exact ⟨k + 1, by omega, by omega, by go_num, Lib.hid ⟨HE.out, HB.out.1.trans ((HB.out.2.trans (HB3.out.mono HB.out.2.size)).mono HB.out.1.size)⟩⟩
          case measure => simp [intOf]; omega
        · have d : (f s1 s2 != 0) = true := by simpa using e
          have HE := Lib.hid (HK.out.1.trans (by rw [hd, if_pos (by simpa using e)]))
          clear e hd HK hv1 hv2 hcc hbA
          go_wp2_with (go_at_call 63; refine HS.out.mono ?_; rintro e w3 ⟨rfl, hb3⟩; have HB3 := Lib.hid hb3; clear hb3)
          go_ret
          exact ⟨ret_int HE.out.symm, HB.out.1.trans ((HB.out.2.trans (HB3.out.mono HB.out.2.size)).mono HB.out.1.size)⟩
      · have HE := Lib.hid (HK.out.1.trans (cmpL_over f hlt (by omega)))
        generalize l1[k] = s1 at *
        have hbA : BelowD wr.heap.size wr (wr.alloc (.cells #[.int .i64 s1.kind, .bool s1.b, .int .i64 s1.n, .string (strB s1.text), .slice pk1 s1.keys.length ck1, .slice pl1 s1.list.length cl1] 26)) := belowD_new _
        have HB := Lib.hid (belowD_trans HK.out.2 hbA)
        clear HK hv1 hbA
        go_wp2
        go_ret
        exact ⟨ret_int HE.out.symm, HB.out⟩
    · by_cases hlt2 : k < l2.length
      · have HE := Lib.hid (HK.out.1.trans (cmpL_under f (by omega) hlt2))
        have HB := Lib.hid HK.out.2
        have hx : l1.length < l2.length := by omega
        clear HK
        go_wp2
        go_ret
        exact ⟨ret_int HE.out.symm, HB.out⟩
      · have HE := Lib.hid (HK.out.1.trans (cmpL_out f (by omega) (by omega)))
        have HB := Lib.hid HK.out.2
        have hx : ¬ l1.length < l2.length := by omega
        clear HK
        go_wp2
        go_ret
        exact ⟨ret_int HE.out.symm, HB.out⟩
theorem listsVD_any {w : World} {p1 p2 : Option Addr} {c1 c2 : Nat} {l1 l2 : List V} (h1 : LRd w p1 c1 l1) (h2 : LRd w p2 c2 l2) (f : V → V → Int)
    (hc : ∀ a ∈ l1, ∀ b ∈ l2, ∀ x y W, VRd W a x → VRd W b y → Calls Tryz.prog 63 #[.agg x, .agg y] W fun e w' => e = .returned (.int .i64 (f a b)) ∧ BelowD W.heap.size W w') :
    Calls Tryz.prog 87 #[.slice p1 l1.length c1, .slice p2 l2.length c2, .func (.func 63) #[] #[]] w fun e w' => e = .returned (.int .i64 (cmpL f l1 l2)) ∧ BelowD w.heap.size w w' := by
  have HC := Lib.hid (cmpvalsD_any h1 h2 _ rfl f hc)
  clear h1 h2 hc
  go_enter Tryz.func87, Tryz.ntmps87
  go_wp2_with (go_at_call 115; refine HC.out.mono ?_; rintro e w2 ⟨rfl, hb⟩; have HB := Lib.hid hb; clear hb)
  go_ret
  exact ⟨rfl, HB.out⟩
def TwoVD (w W : World) (x y : Array Value) : Prop := W.heap[w.heap.size]? = some (.cells x 26 (0, 0)) ∧ W.heap[w.heap.size + 1]? = some (.cells y 26 (0, 0)) ∧ BelowD w.heap.size w W
theorem TwoVD.below {w W W' : World} {x y : Array Value} (h : TwoVD w W x y) (g : BelowD W.heap.size W W') : TwoVD w W' x y :=
  ⟨belowBlk g (Array.getElem?_eq_some_iff.1 h.1).1 h.1, belowBlk g (Array.getElem?_eq_some_iff.1 h.2.1).1 h.2.1, belowD_trans h.2.2 g⟩
theorem TwoVD.start (w : World) (x y : Array Value) : TwoVD w ((w.alloc (.cells x 26)).alloc (.cells y 26)) x y := by
  refine ⟨?_, ?_, (belowD_new _).alloc (by simp) _⟩
  · simp only [heap_get_alloc, World.size_alloc]; rw [if_neg (by omega), if_pos trivial]
  · simp only [heap_get_alloc, World.size_alloc]; rw [if_pos trivial]
set_option maxRecDepth 100000 in
set_option maxHeartbeats 4000000 in
theorem compareD_any {u : List UInt8 → Bool} : ∀ a : V, mayV u a = true → ∀ b : V, mayV u b = true → ∀ {w : World} {x y : Array Value}, VRd w a x → VRd w b y →
    Calls Tryz.prog 63 #[.agg x, .agg y] w fun e w' => e = .returned (.int .i64 (cmpV a b)) ∧ BelowD w.heap.size w w' := by
  refine V.ind fun k b n t ks l ih => ?_
  intro ha v hb w x y hx hy
  obtain ⟨ha1, ha2⟩ := mayV_iff.1 ha
  obtain ⟨hb1, hb2⟩ := mayV_iff.1 hb
  have f1 := oneV_iff.1 ha1
  have f2 := oneV_iff.1 hb1
  obtain ⟨pk, ck, pl, cl, rfl, _, hk1, hl1⟩ := hx.open
  obtain ⟨pk', ck', pl', cl', rfl, _, hk2, hl2⟩ := hy.open
  have hrank := @cmpV_rank (.mk k b n t ks l) v
  have hbool := cmpV_bool f1 f2
  have htext := cmpV_text f1 f2
  have hrest := cmpV_rest f1 f2
  have hinj : rankV k = rankV v.kind → k = v.kind := rankV_inj f1.lo f1.hi f2.lo f2.hi
  cases v with
  | mk k' b' n' t' ks' l' =>
  simp only [V.kind, V.b, V.n, V.text, V.keys, V.list] at *
  have hihl : ∀ a ∈ l, ∀ b ∈ l', ∀ x y W, VRd W a x → VRd W b y → Calls Tryz.prog 63 #[.agg x, .agg y] W fun e w' => e = .returned (.int .i64 (cmpV a b)) ∧ BelowD W.heap.size W w' := fun a ha b hb x y W hx hy => ih a ha (ha2 a ha) b (hb2 b hb) hx hy
  generalize cmpV (.mk k b n t ks l) (.mk k' b' n' t' ks' l') = R at *
  have hT := TwoVD.start w #[.int .i64 k, .bool b, .int .i64 n, .string (strB t), .slice pk ks.length ck, .slice pl l.length cl] #[.int .i64 k', .bool b', .int .i64 n', .string (strB t'), .slice pk' ks'.length ck', .slice pl' l'.length cl']
  have H1 := Lib.hid (And.intro hk1 (And.intro hk2 (And.intro hl1 hl2)))
  have H2 := Lib.hid (And.intro hrank (And.intro hbool (And.intro htext (And.intro hrest hinj))))
  have HI := Lib.hid hihl
  have HT := Lib.hid hT
  clear ih ha hb ha1 ha2 hb1 hb2 f1 f2 hx hy hk1 hk2 hl1 hl2 hrank hbool htext hrest hinj hihl hT
  go_enter Tryz.func63, Tryz.ntmps63
  go_wp2
  have hT := HT.out
  generalize (w.alloc _).alloc _ = W0 at *
  have hT0 := hT.below (BelowD.refl _ _).drew
  refine plain_region_draws (fun W => TwoVD w W #[.int .i64 k, .bool b, .int .i64 n, .string (strB t), .slice pk ks.length ck, .slice pl l.length cl] #[.int .i64 k', .bool b', .int .i64 n', .string (strB t'), .slice pk' ks'.length ck', .slice pl' l'.length cl']) (by kernel_rfl) hT0 (fun hU0 => ?_)
  refine take 0 6 (v := .pointer (some ⟨w.heap.size, 0, none⟩)) rfl rfl (by kernel_rfl) (by kernel_rfl) (by kernel_rfl) rfl (fun W hW => exec_fieldAddr rfl rfl (fa_value _ _ (by decide) W)) (by assumption) ?_
  simp only [Act.put, List.setIfInBounds_toArray, List.set_cons_zero, List.set_cons_succ]
  refine take 1 7 (v := .int .i64 k) rfl rfl (by kernel_rfl) (by kernel_rfl) (by kernel_rfl) rfl (fun W hW => exec_load rfl rfl (run_load1 (w := W) Tryz.underlying22 rfl (cellOf hW.1 rfl))) (by assumption) ?_
  simp only [Act.put, List.setIfInBounds_toArray, List.set_cons_zero, List.set_cons_succ]
  refine take 3 9 (v := .pointer (some ⟨w.heap.size + 1, 0, none⟩)) rfl rfl (by kernel_rfl) (by kernel_rfl) (by kernel_rfl) rfl (fun W hW => exec_fieldAddr rfl rfl (fa_value _ _ (by decide) W)) (by assumption) ?_
  simp only [Act.put, List.setIfInBounds_toArray, List.set_cons_zero, List.set_cons_succ]
  refine take 4 10 (v := .int .i64 k') rfl rfl (by kernel_rfl) (by kernel_rfl) (by kernel_rfl) rfl (fun W hW => exec_load rfl rfl (run_load1 (w := W) Tryz.underlying22 rfl (cellOf hW.2.1 rfl))) (by assumption) ?_
  simp only [Act.put, List.setIfInBounds_toArray, List.set_cons_zero, List.set_cons_succ]
  refine onlyCall 2 8 rfl rfl (by kernel_rfl) rfl (exec_call [.int .i64 k] rfl rfl Tryz.func94 (by kernel_rfl) (by kernel_rfl)) ?_
  refine (rank_any _ _).mono ?_
  rintro e w' ⟨rfl, rfl⟩
  refine ⟨_, rfl, .inr hU0, ?_⟩
  simp only [Act.put, List.setIfInBounds_toArray, List.set_cons_zero, List.set_cons_succ]
  refine onlyCall 5 11 rfl rfl (by kernel_rfl) rfl (exec_call [.int .i64 k'] rfl rfl Tryz.func94 (by kernel_rfl) (by kernel_rfl)) ?_
  refine (rank_any _ _).mono ?_
  rintro e w' ⟨rfl, rfl⟩
  refine ⟨_, rfl, .inr hU0, ?_⟩
  simp only [Act.put, List.setIfInBounds_toArray, List.set_cons_zero, List.set_cons_succ]
  refine onlyCall 6 12 rfl rfl (by kernel_rfl) rfl (exec_call [.int .i64 (rankV k), .int .i64 (rankV k')] rfl rfl Tryz.func93 (by kernel_rfl) (by kernel_rfl)) ?_
  refine (cmp_any _ _ _).mono ?_
  rintro e w' ⟨rfl, rfl⟩
  refine ⟨_, rfl, .inr hU0, ?_⟩
  simp only [Act.put, List.setIfInBounds_toArray, List.set_cons_zero, List.set_cons_succ]
  refine take 7 5 (v := .int .i64 (cmpI (rankV k) (rankV k'))) rfl rfl (by kernel_rfl) (by kernel_rfl) (by kernel_rfl) rfl (fun W hW => exec_assign rfl rfl) (by assumption) ?_
  simp only [Act.put, List.setIfInBounds_toArray, List.set_cons_zero, List.set_cons_succ]
  refine done (by kernel_rfl) ?_ _
  clear hU0 hT0
  have c0 := cellOf (o := 0) hT.1 rfl
  have c1 := cellOf (o := 1) hT.1 rfl
  have c3 := cellOf (o := 3) hT.1 rfl
  have q1 := cellOf (o := 1) hT.2.1 rfl
  have q3 := cellOf (o := 3) hT.2.1 rfl
  by_cases hr : cmpI (rankV k) (rankV k') = 0
  · have d : (cmpI (rankV k) (rankV k') != 0) = false := by simp [hr]
    obtain rfl : k = k' := H2.out.2.2.2.2 (cmpI_zero hr)
    have HT := Lib.hid hT
    clear hT hr
    by_cases e1 : k = 1
    · subst e1
      have HR := Lib.hid (H2.out.2.1 rfl rfl)
      go_wp2_with (go_at_call 95; refine (truthsD_any _ _ _).mono ?_; rintro e w3 ⟨rfl, hb3⟩; have HB := Lib.hid hb3; clear hb3)
      go_ret
      exact ⟨ret_int HR.out.symm, belowD_trans (belowD_trans HT.out.2.2 (BelowD.refl _ _).drew) HB.out⟩
    · by_cases e3 : k = 3
      · subst e3
        have HR := Lib.hid (H2.out.2.2.1 rfl rfl)
        go_wp2_with (go_at_call 82; refine (strcmp_any _ _ _).mono ?_; rintro e w3 ⟨rfl, rfl⟩)
        go_ret
        exact ⟨ret_int HR.out.symm, belowD_trans HT.out.2.2 (BelowD.refl _ _).drew⟩
      · have d1 : (k == 1) = false := by simpa using e1
        have d3 : (k == 3) = false := by simpa using e3
        have HR := Lib.hid (H2.out.2.2.2.1 rfl e1 e3)
        clear e1 e3
        go_wp2
        have hT1 := HT.out.below (BelowD.refl _ _).drew
        have hT2 := hT1.below (BelowD.refl _ _).drew
        refine plain_region_draws (fun W => TwoVD w W #[.int .i64 k, .bool b, .int .i64 n, .string (strB t), .slice pk ks.length ck, .slice pl l.length cl] #[.int .i64 k, .bool b', .int .i64 n', .string (strB t'), .slice pk' ks'.length ck', .slice pl' l'.length cl']) (by kernel_rfl) hT2 (fun hU0 => ?_)
        refine take 0 32 (v := .pointer (some ⟨w.heap.size, 4, none⟩)) rfl rfl (by kernel_rfl) (by kernel_rfl) (by kernel_rfl) rfl (fun W hW => exec_fieldAddr rfl rfl (fa_value _ _ (by decide) W)) (by assumption) ?_
        simp only [Act.put, List.setIfInBounds_toArray, List.set_cons_zero, List.set_cons_succ]
        refine take 1 33 (v := .slice pk ks.length ck) rfl rfl (by kernel_rfl) (by kernel_rfl) (by kernel_rfl) rfl (fun W hW => exec_load rfl rfl (run_load1 (w := W) Tryz.underlying23 rfl (cellOf hW.1 rfl))) (by assumption) ?_
        simp only [Act.put, List.setIfInBounds_toArray, List.set_cons_zero, List.set_cons_succ]
        refine take 2 34 (v := .pointer (some ⟨w.heap.size + 1, 4, none⟩)) rfl rfl (by kernel_rfl) (by kernel_rfl) (by kernel_rfl) rfl (fun W hW => exec_fieldAddr rfl rfl (fa_value _ _ (by decide) W)) (by assumption) ?_
        simp only [Act.put, List.setIfInBounds_toArray, List.set_cons_zero, List.set_cons_succ]
        refine take 3 35 (v := .slice pk' ks'.length ck') rfl rfl (by kernel_rfl) (by kernel_rfl) (by kernel_rfl) rfl (fun W hW => exec_load rfl rfl (run_load1 (w := W) Tryz.underlying23 rfl (cellOf hW.2.1 rfl))) (by assumption) ?_
        simp only [Act.put, List.setIfInBounds_toArray, List.set_cons_zero, List.set_cons_succ]
        refine take 5 37 (v := .pointer (some ⟨w.heap.size, 5, none⟩)) rfl rfl (by kernel_rfl) (by kernel_rfl) (by kernel_rfl) rfl (fun W hW => exec_fieldAddr rfl rfl (fa_value _ _ (by decide) W)) (by assumption) ?_
        simp only [Act.put, List.setIfInBounds_toArray, List.set_cons_zero, List.set_cons_succ]
        refine take 6 38 (v := .slice pl l.length cl) rfl rfl (by kernel_rfl) (by kernel_rfl) (by kernel_rfl) rfl (fun W hW => exec_load rfl rfl (run_load1 (w := W) Tryz.underlying24 rfl (cellOf hW.1 rfl))) (by assumption) ?_
        simp only [Act.put, List.setIfInBounds_toArray, List.set_cons_zero, List.set_cons_succ]
        refine take 7 39 (v := .pointer (some ⟨w.heap.size + 1, 5, none⟩)) rfl rfl (by kernel_rfl) (by kernel_rfl) (by kernel_rfl) rfl (fun W hW => exec_fieldAddr rfl rfl (fa_value _ _ (by decide) W)) (by assumption) ?_
        simp only [Act.put, List.setIfInBounds_toArray, List.set_cons_zero, List.set_cons_succ]
        refine take 8 40 (v := .slice pl' l'.length cl') rfl rfl (by kernel_rfl) (by kernel_rfl) (by kernel_rfl) rfl (fun W hW => exec_load rfl rfl (run_load1 (w := W) Tryz.underlying24 rfl (cellOf hW.2.1 rfl))) (by assumption) ?_
        simp only [Act.put, List.setIfInBounds_toArray, List.set_cons_zero, List.set_cons_succ]
        refine take 10 42 (v := .pointer (some ⟨w.heap.size, 2, none⟩)) rfl rfl (by kernel_rfl) (by kernel_rfl) (by kernel_rfl) rfl (fun W hW => exec_fieldAddr rfl rfl (fa_value _ _ (by decide) W)) (by assumption) ?_
        simp only [Act.put, List.setIfInBounds_toArray, List.set_cons_zero, List.set_cons_succ]
        refine take 11 43 (v := .int .i64 n) rfl rfl (by kernel_rfl) (by kernel_rfl) (by kernel_rfl) rfl (fun W hW => exec_load rfl rfl (run_load1 (w := W) Tryz.underlying2 rfl (cellOf hW.1 rfl))) (by assumption) ?_
        simp only [Act.put, List.setIfInBounds_toArray, List.set_cons_zero, List.set_cons_succ]
        refine take 12 44 (v := .pointer (some ⟨w.heap.size + 1, 2, none⟩)) rfl rfl (by kernel_rfl) (by kernel_rfl) (by kernel_rfl) rfl (fun W hW => exec_fieldAddr rfl rfl (fa_value _ _ (by decide) W)) (by assumption) ?_
        simp only [Act.put, List.setIfInBounds_toArray, List.set_cons_zero, List.set_cons_succ]
        refine take 13 45 (v := .int .i64 n') rfl rfl (by kernel_rfl) (by kernel_rfl) (by kernel_rfl) rfl (fun W hW => exec_load rfl rfl (run_load1 (w := W) Tryz.underlying2 rfl (cellOf hW.2.1 rfl))) (by assumption) ?_
        simp only [Act.put, List.setIfInBounds_toArray, List.set_cons_zero, List.set_cons_succ]
        refine onlyCall 4 36 rfl rfl (by kernel_rfl) rfl (exec_call [.slice pk ks.length ck, .slice pk' ks'.length ck', .func (.func 82) #[] #[]] rfl rfl Tryz.func97 (by kernel_rfl) (by kernel_rfl)) ?_
        refine (listsS_any ((H1.out.1.below HT.out.2.2).below (Below.refl _ _).drew |>.below (Below.refl _ _).drew) ((H1.out.2.1.below HT.out.2.2).below (Below.refl _ _).drew |>.below (Below.refl _ _).drew)).mono ?_
        rintro e w' ⟨rfl, rfl⟩
        refine ⟨_, rfl, .inr hU0, ?_⟩
        simp only [Act.put, List.setIfInBounds_toArray, List.set_cons_zero, List.set_cons_succ]
        refine onlyCall 9 41 rfl rfl (by kernel_rfl) rfl (exec_call [.slice pl l.length cl, .slice pl' l'.length cl', .func (.func 63) #[] #[]] rfl rfl Tryz.func87 (by kernel_rfl) (by kernel_rfl)) ?_
        refine (listsVD_any ((H1.out.2.2.1.below HT.out.2.2).below (Below.refl _ _).drew |>.below (Below.refl _ _).drew) ((H1.out.2.2.2.below HT.out.2.2).below (Below.refl _ _).drew |>.below (Below.refl _ _).drew) cmpV HI.out).mono ?_
        rintro e w4 ⟨rfl, hb4⟩
        have hU1 := hU0.below hb4
        refine ⟨_, rfl, .inr hU1, ?_⟩
        simp only [Act.put, List.setIfInBounds_toArray, List.set_cons_zero, List.set_cons_succ]
        refine onlyCall 14 46 rfl rfl (by kernel_rfl) rfl (exec_call [.int .i64 n, .int .i64 n'] rfl rfl Tryz.func98 (by kernel_rfl) (by kernel_rfl)) ?_
        refine (cmp64_any _ _ _).mono ?_
        rintro e w' ⟨rfl, rfl⟩
        refine ⟨_, rfl, .inr hU1, ?_⟩
        simp only [Act.put, List.setIfInBounds_toArray, List.set_cons_zero, List.set_cons_succ]
        have hU2 : TwoVD w (w4.alloc (.cells #[.int .i64 (cmpL cmpB ks ks'), .int .i64 (cmpL cmpV l l'), .int .i64 (cmpI n n')] 3)) #[.int .i64 k, .bool b, .int .i64 n, .string (strB t), .slice pk ks.length ck, .slice pl l.length cl] #[.int .i64 k, .bool b', .int .i64 n', .string (strB t'), .slice pk' ks'.length ck', .slice pl' l'.length cl'] := hU1.below (belowD_new _)
        have hbs : (Instr.buildSlice 89 3 #[(0, .int .i64 (cmpL cmpB ks ks')), (1, .int .i64 (cmpL cmpV l l')), (2, .int .i64 (cmpI n n'))]).run Tryz.prog w4 = .ok (.slice (some ⟨w4.heap.size, 0, none⟩) 3 3) (w4.alloc (.cells #[.int .i64 (cmpL cmpB ks ks'), .int .i64 (cmpL cmpV l l'), .int .i64 (cmpI n n')] 3)) := by simp [go_sem]
        refine onlyRun 15 47 (v := .slice (some ⟨w4.heap.size, 0, none⟩) 3 3) rfl rfl (by kernel_rfl) rfl (exec_buildSlice3 rfl rfl rfl rfl hbs) (.inr hU2) ?_
        simp only [Act.put, List.setIfInBounds_toArray, List.set_cons_zero, List.set_cons_succ]
        refine onlyCall 16 48 rfl rfl (by kernel_rfl) rfl (exec_call [.slice (some ⟨w4.heap.size, 0, none⟩) 3 3] rfl rfl Tryz.func96 (by kernel_rfl) (by kernel_rfl)) ?_
        refine (or_any (cmpL cmpB ks ks') (cmpL cmpV l l') (cmpI n n') _ w4.heap.size (cellOf (heap_alloc_new _ _) rfl) (cellOf (heap_alloc_new _ _) rfl) (cellOf (heap_alloc_new _ _) rfl)).mono ?_
        rintro e w' ⟨rfl, rfl⟩
        have hU3 := hU2
        refine ⟨_, rfl, .inr hU2, ?_⟩
        simp only [Act.put, List.setIfInBounds_toArray, List.set_cons_zero, List.set_cons_succ]
        refine take 17 4 (v := .int .i64 (orI (cmpL cmpB ks ks') (orI (cmpL cmpV l l') (cmpI n n')))) rfl rfl (by kernel_rfl) (by kernel_rfl) (by kernel_rfl) rfl (fun W hW => exec_assign rfl rfl) (by assumption) ?_
        simp only [Act.put, List.setIfInBounds_toArray, List.set_cons_zero, List.set_cons_succ]
        refine done (by kernel_rfl) ?_ _
        have HF := Lib.hid hU3.2.2
        clear hU0 hU1 hU2 hU3 hT1 hT2 hbs
        generalize World.alloc _ _ = W9 at *
        go_wp2
        go_ret
        exact ⟨ret_int HR.out.symm, HF.out⟩
  · have d : (cmpI (rankV k) (rankV k') != 0) = true := by simpa using hr
    have HR := Lib.hid (H2.out.1 hr)
    have HT := Lib.hid hT
    clear hT hr
    go_wp2
    go_ret
    exact ⟨ret_int HR.out.symm, belowD_trans HT.out.2.2 (BelowD.refl _ _).drew⟩
end Go.Proofs.YtnkaegdnjfpliaaGreatDoor

/-! Copies that lie apart: no block belongs to two of them. -/
namespace Go.Proofs.YtnkaegdnjfpliaaGreatDoor
set_option linter.unusedSimpArgs false
set_option linter.unusedVariables false
open Go.RowKit

/-- A value, its cells, its blocks. -/
structure El where
  v : V
  x : Array Value
  Q : Nat → Prop
def Apart (a b : El) : Prop := ∀ n, a.Q n → ¬ b.Q n
theorem Apart.symm {a b : El} (h : Apart a b) : Apart b a := fun n h1 h2 => h n h2 h1
/-- Values in memory of blocks of P, none of which belongs to two. -/
def VOwnsD (w : World) (P : Nat → Prop) (l : List V) (xs : List (Array Value)) : Prop := ∃ es : List El, es.map El.v = l ∧ es.map El.x = xs ∧ (∀ e ∈ es, VOwn w e.Q e.v e.x ∧ ∀ b, e.Q b → P b) ∧ es.Pairwise Apart
theorem VOwnsD.nil (w : World) (P : Nat → Prop) : VOwnsD w P [] [] := ⟨[], rfl, rfl, by simp, .nil⟩
section
variable {w w' : World} {P P' P1 Q : Nat → Prop} {l : List V} {xs : List (Array Value)} {v : V} {x : Array Value}
theorem VOwnsD.keep (hk : ∀ b, P b → b < w.heap.size → w'.heap[b]? = w.heap[b]?) (h : VOwnsD w P l xs) : VOwnsD w' P l xs := by
  obtain ⟨es, h1, h2, h3, h4⟩ := h
  exact ⟨es, h1, h2, fun e he => ⟨(h3 e he).1.keep fun b hb hlt => hk b ((h3 e he).2 b hb) hlt, (h3 e he).2⟩, h4⟩
theorem VOwnsD.below (h : VOwnsD w P l xs) (g : Below w.heap.size w w') : VOwnsD w' P l xs := h.keep fun b _ hb => g.block b hb
theorem VOwnsD.imp (hp : ∀ b, b < w.heap.size → P b → P' b) (h : VOwnsD w P l xs) : VOwnsD w P' l xs := by
  obtain ⟨es, h1, h2, h3, h4⟩ := h
  refine ⟨es.map fun e => { e with Q := fun b => e.Q b ∧ b < w.heap.size }, by rw [List.map_map]; exact h1, by rw [List.map_map]; exact h2, fun e he => ?_, ?_⟩
  · obtain ⟨a, ha, rfl⟩ := List.mem_map.1 he
    exact ⟨(h3 a ha).1.imp fun b hb hq => ⟨hq, hb⟩, fun b hb => hp b hb.2 ((h3 a ha).2 b hb.1)⟩
  · rw [List.pairwise_map]
    exact h4.imp fun h n h1 h2 => h n h1.1 h2.1
theorem VOwnsD.owns (h : VOwnsD w P l xs) : VOwns w P l xs := by
  obtain ⟨es, rfl, rfl, h3, h4⟩ := h
  clear h4
  induction es with
  | nil => rfl
  | cons a r ih => exact ⟨a.x, r.map El.x, rfl, (h3 a (by simp)).1.imp fun b _ hb => (h3 a (by simp)).2 b hb, ih fun e he => h3 e (by simp [he])⟩
theorem VOwnsD_snoc (h : VOwnsD w P1 l xs) (h1 : ∀ b, P1 b → P b) (hv : VOwn w Q v x) (hq : ∀ b, Q b → P b) (hd : ∀ b, P1 b → ¬ Q b) : VOwnsD w P (l ++ [v]) (xs ++ [x]) := by
  obtain ⟨es, rfl, rfl, h3, h4⟩ := h
  refine ⟨es ++ [⟨v, x, Q⟩], by simp, by simp, fun e he => ?_, ?_⟩
  · rcases List.mem_append.1 he with he | he
    · exact ⟨(h3 e he).1, fun b hb => h1 b ((h3 e he).2 b hb)⟩
    · rw [List.mem_singleton.1 he]; exact ⟨hv, hq⟩
  · refine List.pairwise_append.2 ⟨h4, List.pairwise_singleton _ _, fun a ha b hb n h5 h6 => ?_⟩
    rw [List.mem_singleton.1 hb] at h6
    exact hd n ((h3 a ha).2 n h5) h6
end
/-- A row of values of one's own that lie apart, none in the row's own block. -/
def LOwnD (w : World) (P : Nat → Prop) (vl : Value) (l : List V) : Prop := ∃ xs, OwnsP w P 26 6 vl l.length (xs.flatMap Array.toList) ∧ VOwnsD w (fun b => P b ∧ vl.ownBlock ≠ some b) l xs
theorem LOwnD.nil (w : World) (P : Nat → Prop) : LOwnD w P (.slice none 0 0) [] := ⟨[], ⟨⟨rfl, .inl ⟨rfl, rfl⟩⟩, fun g hg => by simp [Value.ownBlock] at hg⟩, VOwnsD.nil _ _⟩
theorem LOwnD.own {w : World} {P : Nat → Prop} {vl : Value} {l : List V} (h : LOwnD w P vl l) : LOwn w P vl l := by
  obtain ⟨xs, h1, h2⟩ := h
  exact ⟨xs, h1, h2.owns.imp fun b _ hb => hb.1⟩
theorem LOwnD.keep {w w' : World} {P : Nat → Prop} {vl : Value} {l : List V} (h : LOwnD w P vl l) (hk : ∀ b, P b → b < w.heap.size → w'.heap[b]? = w.heap[b]?) : LOwnD w' P vl l := by
  obtain ⟨xs, h1, h2⟩ := h
  exact ⟨xs, h1.keep hk, h2.keep fun b hb hlt => hk b hb.1 hlt⟩
theorem LOwnD.below {w w' : World} {P : Nat → Prop} {vl : Value} {l : List V} (h : LOwnD w P vl l) (g : Below w.heap.size w w') : LOwnD w' P vl l := h.keep fun b _ hb => g.block b hb
theorem LOwnD.imp {w : World} {P P' : Nat → Prop} {vl : Value} {l : List V} (h : LOwnD w P vl l) (hp : ∀ b, b < w.heap.size → P b → P' b) : LOwnD w P' vl l := by
  obtain ⟨xs, h1, h2⟩ := h
  exact ⟨xs, h1.imp hp, h2.imp fun b hb k => ⟨hp b hb k.1, k.2⟩⟩
/-- Copies so far that lie apart. -/
def CInvD (w W : World) (ov : Value) (m : List V) : Prop := ∃ xs, OwnsP W (fun b => w.heap.size ≤ b) 26 6 ov m.length (xs.flatMap Array.toList) ∧ VOwnsD W (fun b => w.heap.size ≤ b ∧ ov.ownBlock ≠ some b) m xs ∧ Below w.heap.size w W
theorem CInvD.below {w W W' : World} {ov : Value} {m : List V} (h : CInvD w W ov m) (g : Below W.heap.size W W') : CInvD w W' ov m := by
  obtain ⟨xs, h1, h2, h3⟩ := h
  exact ⟨xs, h1.keep fun b _ hb => g.block b hb, h2.below g, below_trans h3 g⟩
theorem CInvD.start {w W : World} (h : Below w.heap.size w W) : CInvD w W (.slice none 0 0) [] := ⟨[], ⟨⟨rfl, .inl ⟨rfl, rfl⟩⟩, fun g hg => by simp [Value.ownBlock] at hg⟩, VOwnsD.nil _ _, h⟩
theorem CInvD.own {w W : World} {ov : Value} {m : List V} (h : CInvD w W ov m) : LOwnD W (fun b => w.heap.size ≤ b) ov m := by
  obtain ⟨xs, h1, h2, h3⟩ := h
  exact ⟨xs, h1, h2⟩
theorem CInvD.step {w W W1 : World} {ov : Value} {m : List V} {v : V} {x : Array Value} {base : Nat} (h : CInvD w W ov m) (hbase : W.heap.size ≤ base) (hb : Below W.heap.size W W1) (hx : VOwn W1 (fun b => base ≤ b) v x) (hm : m.length ≤ 1000000) (ty : TypeId) :
    ∃ v' W2, (Builtin.append_ #[24, 24] ty #[ov, .slice (some ⟨W1.heap.size, 0, none⟩) 1 1]).run Tryz.prog (W1.alloc (.cells x 26)) = .ok v' W2 ∧ CInvD w W2 v' (m ++ [v]) := by
  have hnew : Below W1.heap.size W1 (W1.alloc (.cells x 26)) := below_new _
  have hlt : ∀ g, ov.ownBlock = some g → g < W.heap.size := by
    obtain ⟨xs, h1, _⟩ := h
    exact fun g hg => (h1.1.lt g hg).2
  have hwW : w.heap.size ≤ W.heap.size := by obtain ⟨_, _, _, h⟩ := h; exact h.size
  obtain ⟨xs, h1, h2, h3⟩ := h
  have h2 := ((h2.imp (P' := fun b => w.heap.size ≤ b ∧ ov.ownBlock ≠ some b ∧ b < W.heap.size) fun b hb hp => ⟨hp.1, hp.2, hb⟩).below hb).below hnew
  have h1 := (h1.keep (w' := W1) fun b _ hb2 => hb.block b hb2).keep (w' := W1.alloc (.cells x 26)) fun b _ hb2 => hnew.block b hb2
  have h3 := below_trans (below_trans h3 hb) hnew
  have hx' := hx.below hnew
  obtain ⟨v', W2, a1, a2, a3, a4, a5⟩ := append_val h1.1 hx.size6 hx.ones (heap_alloc_new W1 _) hm ty
  have hz := hb.size
  have hz2 := hnew.size
  refine ⟨v', W2, a1, xs ++ [x], ⟨?_, fun g hg => ?_⟩, ?_, ?_⟩
  · rw [List.flatMap_append, List.length_append]
    simpa using a2
  · rcases a4 with e | e
    · exact h1.2 g (e.symm.trans hg)
    · rw [e] at hg
      cases hg
      have := h3.size
      omega
  · have hs : VOwnsD (W1.alloc (.cells x 26)) (fun b => w.heap.size ≤ b ∧ ov.ownBlock ≠ some b ∧ b < (W1.alloc (.cells x 26)).heap.size) (m ++ [v]) (xs ++ [x]) :=
      VOwnsD_snoc h2 (fun b hp => ⟨hp.1, hp.2.1, by have := hp.2.2; omega⟩) (hx'.imp (P' := fun b => base ≤ b ∧ b < (W1.alloc (.cells x 26)).heap.size) fun b hb hp => ⟨hp, hb⟩)
        (fun b hp => ⟨by have := hp.1; omega, fun e => by have := hlt b e; have := hp.1; omega, hp.2⟩) (fun b hp hq => by have := hp.2.2; have := hq.1; omega)
    refine (hs.keep (w' := W2) fun b hp hb => a3.block b hb hp.2.1).imp fun b _ hp => ⟨hp.1, ?_⟩
    rcases a4 with e | e
    · rw [e]; exact hp.2.1
    · rw [e]; intro e2; cases e2; have := hp.2.2; omega
  · exact a3.below h3 (fun b hb e => by have := h1.2 b e; omega) h3.size
end Go.Proofs.YtnkaegdnjfpliaaGreatDoor

/-! value.Sorted: values in order. Printed by gen_sortc.py. -/
namespace Go.Proofs.YtnkaegdnjfpliaaGreatDoor
set_option linter.unusedSimpArgs false
set_option linter.unusedVariables false
open Go.RowKit Go.Sort

set_option maxRecDepth 100000 in
set_option maxHeartbeats 4000000 in
theorem copiesC_any {w : World} {p : Option Addr} {c : Nat} {l : List V} (hl : LRd w p c l) (hn : l.length ≤ 1000000)
    (hc : ∀ v ∈ l, ∀ (W : World) (x : Array Value), VRd W v x → Calls Tryz.prog 51 #[.agg x] W (CopyOk W v)) :
    Calls Tryz.prog 83 #[.slice p l.length c] w fun e w' => ∃ vl, e = .returned vl ∧ CInvD w w' vl l ∧ Below w.heap.size w w' := by
  have HL := Lib.hid hl
  have HC := Lib.hid hc
  have z1 : (l.length : Int) ≤ 140737488355328 := by omega
  clear hl hc
  go_enter Tryz.func83, Tryz.ntmps83
  go_wp2
  go_loopw [3, 8] (fun o i wr => ∃ j : Nat, j ≤ l.length ∧ i = .int .i64 (j : Int) ∧ Hid (CInvD w wr o (l.take j))) (fun _ i _ => l.length - (intOf i).toNat)
  case atStart => exact ⟨0, Nat.zero_le _, rfl, Lib.hid (CInvD.start (Below.refl _ _))⟩
  case round =>
    obtain ⟨j, hj, rfl, HJ⟩ := hrel
    by_cases hlt : j < l.length
    · have hlt1 : j + 1 ≤ l.length := hlt
      have htk : l.take (j + 1) = l.take j ++ [l[j]] := List.take_succ_eq_append_getElem hlt
      have hbw : Below w.heap.size w wr := by obtain ⟨_, _, _, h⟩ := HJ.out; exact h
      obtain ⟨g1, o1, pk1, ck1, pl1, cl1, rfl, ⟨a0, a1, a2, a3, a4, a5⟩, hv1⟩ := (HL.out.below hbw).at hlt
      have hcall := HC.out l[j] (List.getElem_mem hlt)
      generalize l[j] = s1 at *
      have HD := Lib.hid (And.intro htk (And.intro hcall hv1))
      have HN := Lib.hid hn
      clear htk hcall hv1 hbw hn
      go_wp2_with (first
        | (go_at_call 51
           refine (HD.out.2.1 _ _ (HD.out.2.2.below (below_new _))).mono ?_
           rintro e w1 ⟨x, rfl, hx, hb⟩
           obtain ⟨v', W2, ha, hI⟩ := HJ.out.step (Nat.le_succ _) (below_trans (below_new _) hb) (hx.imp fun b _ hp => by simpa using hp) (by rw [List.length_take]; have := HN.out; omega) 24
           rw [← HD.out.1] at hI
           obtain ⟨vk, vl, rfl, _⟩ := hx.open
           have Ha := Lib.hid ha
           have HI := Lib.hid hI
           clear ha hI hx hb HJ HD)
        | (refine wpList_append rfl rfl rfl rfl Ha.out ?_))
      go_roundw
      case rel => exact ⟨j + 1, hlt1, by go_num, HI⟩
      case measure => simp [intOf]; omega
    · obtain rfl : j = l.length := by omega
      go_wp2
      go_ret
      have h := HJ.out
      rw [List.take_length] at h
      have hb : Below w.heap.size w wr := by obtain ⟨_, _, _, h⟩ := h; exact h
      exact ⟨_, rfl, h, hb⟩
/-- What is laid and drawn behind a call, said as the sort's kit says it. -/
theorem grow_of {W w' : World} (h : BelowD W.heap.size W w') : ∃ q os, w' = grow (W.drewN q) os := by
  obtain ⟨⟨h1, h2, h3, h4, h5⟩, h6⟩ := h
  refine ⟨w'.drawn - W.drawn, w'.heap.extract W.heap.size w'.heap.size, ?_⟩
  have e1 : W.heap ++ w'.heap.extract W.heap.size w'.heap.size = w'.heap := by
    apply Array.ext_getElem?
    intro k
    by_cases hk : k < W.heap.size
    · rw [Array.getElem?_append_left hk]; exact (h5 k hk).symm
    · rw [Array.getElem?_append_right (by omega), Array.getElem?_extract]
      by_cases hk2 : k < w'.heap.size
      · rw [if_pos (by omega)]; congr 1; omega
      · rw [if_neg (by omega), Array.getElem?_eq_none (by omega)]
  have e2 : W.drawn + (w'.drawn - W.drawn) = w'.drawn := by omega
  show w' = { heap := W.heap ++ w'.heap.extract W.heap.size w'.heap.size, tape := W.tape, drawn := W.drawn + (w'.drawn - W.drawn), os := W.os, output := W.output }
  rw [e1, e2, ← h1, ← h2, ← h3]
/-- An element that is sorted: a value and its cells, in memory of blocks of P. -/
structure Elem (w : World) (P : Nat → Prop) where
  v : V
  x : Array Value
  Q : Nat → Prop
  own : VOwn w Q v x
  sub : ∀ b, Q b → P b
  tot : totV v ≤ 1000000
  may : mayV Lib.validD v = true
def encE {w : World} {P : Nat → Prop} (e : Elem w P) : List Value := e.x.toList
def cmpE {w : World} {P : Nat → Prop} (a b : Elem w P) : Int := cmpV a.v b.v
theorem swo_cmpE {w : World} {P : Nat → Prop} : SWO (Go.Proofs.ltOf (cmpE (w := w) (P := P))) := by
  have hO := fun (x : Elem w P) => ord_cmpV x.v
  refine ⟨fun x => ?_, fun x y z h1 h2 => ?_, fun x y z h1 h2 => ?_⟩
  · show decide (cmpV x.v x.v < 0) = false
    rw [(hO x).self]; rfl
  · have a1 : cmpV x.v y.v < 0 := of_decide_eq_true h1
    have a2 : cmpV y.v z.v < 0 := of_decide_eq_true h2
    have e1 : cmpV x.v y.v = -1 := by have := (hO x).range y.v; omega
    have := (hO x).chain y.v z.v e1 (by omega)
    exact decide_eq_true (show cmpV x.v z.v < 0 by omega)
  · have a1 : ¬ cmpV x.v y.v < 0 := of_decide_eq_false h1
    have a2 : ¬ cmpV y.v z.v < 0 := of_decide_eq_false h2
    refine decide_eq_false (p := cmpV x.v z.v < 0) fun h3 => ?_
    have e1 : cmpV x.v z.v = -1 := by have := (hO x).range z.v; omega
    have e2 : cmpV z.v y.v ≤ 0 := by have := (hO y).anti z.v; omega
    have := (hO x).chain z.v y.v e1 e2
    omega
theorem elems_q {w : World} {P : Nat → Prop} : ∀ (es : List El), (∀ e ∈ es, VOwn w e.Q e.v e.x ∧ ∀ b, e.Q b → P b) → totVs (es.map El.v) ≤ 1000000 → (∀ v ∈ es.map El.v, mayV Lib.validD v = true) →
    ∃ q : List (Elem w P), q.map Elem.v = es.map El.v ∧ q.map Elem.x = es.map El.x ∧ q.map Elem.Q = es.map El.Q
  | [], _, _, _ => ⟨[], rfl, rfl, rfl⟩
  | a :: r, h3, ht, hm => by
    rw [List.map_cons, totVs_cons] at ht
    obtain ⟨q, e1, e2, e3⟩ := elems_q r (fun e he => h3 e (by simp [he])) (by omega) (fun v hv => hm v (by rw [List.map_cons]; exact List.mem_cons_of_mem _ hv))
    obtain ⟨k1, k2⟩ := h3 a (by simp)
    exact ⟨⟨a.v, a.x, a.Q, k1, k2, by omega, hm a.v (by simp)⟩ :: q, by simp [e1], by simp [e2], by simp [e3]⟩
theorem elems_of {w : World} {P : Nat → Prop} {l : List V} {xs : List (Array Value)} (h : VOwnsD w P l xs) (ht : totVs l ≤ 1000000) (hm : ∀ v ∈ l, mayV Lib.validD v = true) :
    ∃ es : List (Elem w P), es.map Elem.v = l ∧ es.map Elem.x = xs ∧ es.Pairwise (fun a b => ∀ n, a.Q n → ¬ b.Q n) := by
  obtain ⟨es, rfl, rfl, h3, h4⟩ := h
  obtain ⟨q, e1, e2, e3⟩ := elems_q es h3 ht hm
  refine ⟨q, e1, e2, ?_⟩
  have h5 : (es.map El.Q).Pairwise (fun (A B : Nat → Prop) => ∀ n, A n → ¬ B n) := by rw [List.pairwise_map]; exact h4
  rw [← e3, List.pairwise_map] at h5
  exact h5
theorem owns_of {w w' : World} {P : Nat → Prop} (hk : ∀ b, P b → b < w.heap.size → w'.heap[b]? = w.heap[b]?) (es : List (Elem w P)) (h : es.Pairwise (fun a b => ∀ n, a.Q n → ¬ b.Q n)) : VOwnsD w' P (es.map Elem.v) (es.map Elem.x) := by
  refine ⟨es.map fun e => ⟨e.v, e.x, e.Q⟩, by rw [List.map_map]; rfl, by rw [List.map_map]; rfl, fun e he => ?_, ?_⟩
  · obtain ⟨a, ha, rfl⟩ := List.mem_map.1 he
    exact ⟨a.own.keep fun b hb hlt => hk b (a.sub b hb) hlt, a.sub⟩
  · rw [List.pairwise_map]; exact h
theorem encE_len {w : World} {P : Nat → Prop} (x : Elem w P) : (encE x).length = 6 := by have := x.own.size6; simpa [encE] using this
theorem encE_ones {w : World} {P : Nat → Prop} (x : Elem w P) : ∀ v ∈ encE x, v.oneCell' = true := fun v hv => x.own.ones v hv
theorem flatK_eq {w : World} {P : Nat → Prop} [Inhabited (Elem w P)] (d : Array (Elem w P)) : flatK encE 6 d = ((d.toList.map Elem.x).flatMap Array.toList).toArray := by
  have h6 : ∀ x ∈ d.toList.map Elem.x, x.size = 6 := by
    intro x hx
    obtain ⟨e, _, rfl⟩ := List.mem_map.1 hx
    exact e.own.size6
  have hl := flat_len h6
  refine ext_get! (by simp only [size_flatK, List.size_toArray, hl]; simp) fun t ht => ?_
  have ht' : t < d.size * 6 := by simpa using ht
  rw [get_flatK _ _ _ _ ht']
  have hq : t / 6 < d.size := by omega
  have hf := flat_six h6 (t / 6) (d[t / 6]).x (by simp [hq]) (t % 6) (by omega)
  have e : t / 6 * 6 + t % 6 = t := by omega
  rw [e] at hf
  have h2 : t % 6 < (d[t / 6]).x.size := by rw [(d[t / 6]).own.size6]; omega
  rw [Array.getElem?_eq_getElem h2] at hf
  have hlt : t < ((d.toList.map Elem.x).flatMap Array.toList).length := by rw [hl]; simpa using ht'
  rw [List.getElem?_eq_getElem hlt, Option.some.injEq] at hf
  rw [getElem!_pos d (t / 6) hq, getElem!_pos _ t (by simpa using hlt)]
  simp only [encE]
  rw [getElem!_pos _ (t % 6) (by simpa using h2)]
  simpa using hf.symm
theorem cmp_lays {w : World} {P : Nat → Prop} {g n : Nat} [Inhabited (Elem w P)] (hg : g < w.heap.size) (hP : ∀ b, P b → b ≠ g) : CmpLays Tryz.prog 63 #[] (encE (w := w) (P := P)) 6 cmpE g 0 n w := by
  intro m os dk hs x y
  have hk : ∀ b, P b → b < w.heap.size → (sortWorldK encE 6 w g 0 m dk os).heap[b]? = w.heap[b]? := fun b hb hlt => sortWorld_other id w g m (flatK encE 6 dk) os hlt (hP b hb)
  have hx : VRd (sortWorldK encE 6 w g 0 m dk os) x.v x.x := (x.own.keep fun b hb => hk b (x.sub b hb)).rd x.tot
  have hy : VRd (sortWorldK encE 6 w g 0 m dk os) y.v y.x := (y.own.keep fun b hb => hk b (y.sub b hb)).rd y.tot
  generalize sortWorldK encE 6 w g 0 m dk os = W at *
  have hc := (compareD_any x.v x.may y.v y.may hx hy).mono (R' := fun e w' => e = .returned (.int .i64 (cmpE x y)) ∧ ∃ q os', w' = grow (W.drewN q) os') fun e w' h => ⟨h.1, grow_of h.2⟩
  simpa [encE] using hc
set_option maxHeartbeats 1000000 in
/-- slices.SortFunc over values of one's own, by compare. -/
theorem sortF_any {w : World} {P : Nat → Prop} {l : List V} {vl : Value} (h : LOwnD w P vl l) (ht : totVs l ≤ 1000000) (hm : ∀ v ∈ l, mayV Lib.validD v = true) :
    Calls Tryz.prog 91 #[vl, .func (.func 63) #[] #[]] w fun e w' => e = .returned (.tuple #[]) ∧
      ∃ l' : List V, l'.Perm l ∧ l'.Pairwise (fun a b => cmpV a b ≤ 0) ∧ LOwnD w' P vl l' ∧ Touch (fun b => vl.ownBlock = some b) w w' := by
  have hlen := totVs_length l
  by_cases h0 : l.length = 0
  · have e0 : l = [] := List.eq_nil_of_length_eq_zero h0
    subst e0
    have hs : ∃ p c, vl = .slice p 0 c := by obtain ⟨xs, h1, _⟩ := h; exact slices_of h1
    obtain ⟨p, c, rfl⟩ := hs
    refine (AnyF.slices_SortFunc_none Tryz.sortVals p c _ w).mono ?_
    rintro e w' ⟨rfl, rfl⟩
    exact ⟨rfl, [], .refl _, .nil, h, Touch.refl _ _⟩
  · obtain ⟨xs, h1, h2⟩ := h
    rcases h1.1.2 with ⟨rfl, e⟩ | ⟨g, cap, cur, rfl, _, hg, hnc, hcm, hcs, htake⟩
    · omega
    have hglt := (Array.getElem?_eq_some_iff.1 hg).1
    have h2' : VOwnsD w (fun b => P b ∧ b ≠ g) l xs := h2.imp fun b _ hb => ⟨hb.1, fun e => hb.2 (by rw [e]; rfl)⟩
    have hne : ∀ b, (P b ∧ b ≠ g) → b ≠ g := fun b hb => hb.2
    clear h2
    obtain ⟨es, rfl, rfl, hap⟩ := elems_of h2' ht hm
    have hel : es.length ≠ 0 := by simpa using h0
    haveI : Inhabited (Elem w fun b => P b ∧ b ≠ g) := ⟨es[0]⟩
    have hl : (es.map Elem.v).length = es.toArray.size := by simp
    have hflat := flatK_eq es.toArray
    have hflen : ((es.map Elem.x).flatMap Array.toList).length = es.length * 6 := by
      have := h1.1.1; simpa using this
    have hH : HoldsK encE 6 w g 0 es.toArray := by
      intro j hj
      rw [hflat] at hj ⊢
      have hj2 : j < ((es.map Elem.x).flatMap Array.toList).length := by simpa using hj
      refine ⟨?_, by rw [Nat.zero_add]; exact freeOf hg⟩
      have := h1.1.cells (g := g) rfl j _ (List.getElem?_eq_getElem hj2)
      rw [addr_add] at this
      rw [getElem!_pos _ j (by simpa using hj2)]
      simpa using this
    have hsz : es.toArray.size < 4611686018427387904 := by rw [← hl]; omega
    have hS := AnyQ.slices_SortFunc Tryz.sortVals 6 (fun w => Tryz.isAgg26 w) (fun w => Tryz.sizeOf26 w) encE encE_len encE_ones cmpE swo_cmpE 63 #[] g 0 cap es.toArray w
      (enters_of Tryz.func63 (by kernel_rfl) rfl) (cmp_lays hglt hne) hH hglt hsz
    rw [← hl] at hS
    refine hS.mono ?_
    rintro e w' ⟨rfl, d', m, os, hperm, hsort, rfl⟩
    have hds : d'.size = es.length := by rw [hperm.1]; simp
    have hT := sortWorld_touch id w g m (flatK encE 6 d') os
    have hrow := sortWorld_row id w g m (flatK encE 6 d') os hg
    have hT' : Touch (fun b => b = g) w (sortWorldK encE 6 w g 0 m d' os) := hT
    have hrow' : (sortWorldK encE 6 w g 0 m d' os).heap[g]? = some (.cells (putCells id 0 (flatK encE 6 d') cur) 26 (0, 0)) := hrow
    clear hT hrow
    generalize sortWorldK encE 6 w g 0 m d' os = W at *
    have hp : d'.toList.Perm es := by
      have h3 := hperm.2.2
      rw [extract_all d' _ (by rw [hds]; simp), extract_all es.toArray _ (by simp)] at h3
      simpa using h3
    have hfl2 := flatK_eq d'
    have hlen2 : (d'.toList.map Elem.v).length = (es.map Elem.v).length := by simp [hds]
    have h62 : ∀ x ∈ d'.toList.map Elem.x, x.size = 6 := by
      intro x hx
      obtain ⟨e, _, rfl⟩ := List.mem_map.1 hx
      exact e.own.size6
    have hfl6 := flat_len h62
    rw [hfl2] at hrow'
    refine ⟨rfl, d'.toList.map Elem.v, hp.map _, ?_, ⟨d'.toList.map Elem.x, ⟨⟨?_, .inr ⟨g, cap, _, by rw [hlen2], Nat.zero_le _, hrow', by rw [hlen2]; exact hnc, hcm, ?_, ?_⟩⟩, fun q hq => h1.2 q hq⟩, ?_⟩, hT'.mono fun b _ hb => by rw [hb]; rfl⟩
    · rw [List.pairwise_map, List.pairwise_iff_getElem]
      intro i j hi hj hij
      have hi2 : i < d'.size := by simpa using hi
      have hj2 : j < d'.size := by simpa using hj
      have h5 := hsort i j (Nat.zero_le _) hij (by rw [hds] at hj2; simpa using hj2)
      rw [getElem!_pos d' i hi2, getElem!_pos d' j hj2] at h5
      have h6 : ¬ cmpV d'[j].v d'[i].v < 0 := of_decide_eq_false h5
      have := (ord_cmpV d'[j].v).anti d'[i].v
      simp only [Array.getElem_toList]
      omega
    · rw [hfl6]; simp
    · unfold putCells; simpa using hcs
    · have hc6 : es.length * 6 ≤ cur.size := by
        rw [hcs]; have : es.length ≤ cap := by simpa using hnc
        exact Nat.mul_le_mul_right 6 this
      apply List.ext_getElem?
      intro t
      have hfs : (List.flatMap Array.toList (List.map Elem.x d'.toList)).length = es.length * 6 := by rw [hfl6]; simp [hds]
      by_cases hlt : t < es.length * 6
      · rw [List.getElem?_take_of_lt (by simpa [hds] using hlt)]
        have h7 : t < ((List.flatMap Array.toList (List.map Elem.x d'.toList))).length := by omega
        unfold putCells
        rw [Array.getElem?_toList, Array.getElem?_mapIdx, Array.getElem?_eq_getElem (by omega), Option.map_some, if_pos ⟨Nat.zero_le _, by simpa using h7⟩, List.getElem?_eq_getElem h7, getElem!_pos _ _ (by simpa using h7)]
        simp
      · rw [List.getElem?_eq_none (by rw [List.length_take]; simp [hds]; omega), List.getElem?_eq_none (by omega)]
    · exact (owns_of (fun b hb hlt => hT'.block b hlt (hne b hb)) d'.toList ((hp.pairwise_iff (fun {a b} h n h1 h2 => h n h2 h1)).2 hap)).imp fun b _ hb => ⟨hb.1, fun e => hb.2 (by cases e; rfl)⟩
set_option maxRecDepth 100000 in
set_option maxHeartbeats 2000000 in
/-- value.Sorted. -/
theorem sorted_any {w : World} {p : Option Addr} {c : Nat} {l : List V} (hE : Env w) (hl : LRd w p c l) (ht : totVs l ≤ 900000) :
    Calls Tryz.prog 55 #[.slice p l.length c] w fun e w' => Below w.heap.size w w' ∧ ∃ vl l', e = .returned vl ∧ LOwnD w' (fun b => w.heap.size ≤ b) vl l' ∧
      ((fineL l = true ∧ l'.Perm l ∧ l'.Pairwise (fun a b => cmpV a b ≤ 0)) ∨ (fineL l = false ∧ l' = [])) := by
  have HF := Lib.hid (fine_any hE hl (by omega))
  have hlen := totVs_length l
  have HC := Lib.hid (fun (W : World) (hb : Below w.heap.size w W) => copiesC_any (hl.below hb) (by omega) (fun v hv W x hx => copy_any v (by have := totVs_mem hv; omega) W x hx))
  cases hf : fineL l with
  | true =>
    rw [hf] at HF
    have hm := fineL_may hf
    have HS := Lib.hid (fun (W : World) (P : Nat → Prop) (vl : Value) (h : LOwnD W P vl l) => sortF_any h (by omega) hm)
    clear hE hl ht hlen hm hf
    go_enter Tryz.func55, Tryz.ntmps55
    go_wp2_with (first
      | (go_at_call 62; refine HF.out.mono ?_; rintro e w1 ⟨rfl, hb⟩; have HB := Lib.hid hb; clear hb)
      | (go_at_call 83
         (
           refine (HC.out _ HB.out).mono ?_
           rintro e w2 ⟨vl, rfl, ⟨xs, h1, h2, h3⟩, hb⟩
           obtain ⟨p2, c2, rfl⟩ := slices_of h1
           have HO := Lib.hid (show LOwnD w2 (fun b => w1.heap.size ≤ b) (.slice p2 l.length c2) l from ⟨xs, h1, h2⟩)
           have HB2 := Lib.hid (And.intro HB.out hb)
           clear h1 h2 h3 hb))
      | (go_at_call 91
         (
           refine (HS.out _ _ _ HO.out).mono ?_
           rintro e w3 ⟨rfl, l', hp, hs, ho, hT⟩
           have hlow : Below w1.heap.size w1 w3 := hT.below HB2.out.2 (fun b hb e => by
             obtain ⟨xs, h1, _⟩ := HO.out
             have := h1.2 b e; omega) HB2.out.2.size
           have HR := Lib.hid (And.intro hp (And.intro hs (And.intro ho (below_trans HB2.out.1 hlow))))
           have hz := HB2.out.1.size
           clear hp hs ho hT hlow)))
    go_ret
    exact ⟨HR.out.2.2.2, _, _, rfl, HR.out.2.2.1.imp fun b _ hb => by omega, .inl ⟨by simp, HR.out.1, HR.out.2.1⟩⟩
  | false =>
    rw [hf] at HF
    clear hE hl ht hlen hf HC
    go_enter Tryz.func55, Tryz.ntmps55
    go_wp2_with (go_at_call 62; refine HF.out.mono ?_; rintro e w1 ⟨rfl, hb⟩; have HB := Lib.hid hb; clear hb)
    go_ret
    exact ⟨HB.out, _, [], rfl, LOwnD.nil _ _, .inr ⟨by simp, rfl⟩⟩
end Go.Proofs.YtnkaegdnjfpliaaGreatDoor

/-! Maps whose keys are strings, as functions: what a lookup, a store do. Nothing of the program is named here. -/
namespace Go.Proofs.YtnkaegdnjfpliaaGreatDoor
set_option linter.unusedSimpArgs false
set_option linter.unusedVariables false
open Go.RowKit

/-- An entry's key, if it is a string. -/
def keyS (e : MapEntry) : Option (List UInt8) := match e.key with | .string s => some s.data.toList | _ => none
theorem keyS_of {e : MapEntry} {k : List UInt8} (h : e.key = .string (strB k)) : keyS e = some k := by simp [keyS, h, strB]

theorem strB_eqb (a b : List UInt8) : (strB a == strB b) = decide (a = b) := by
  rw [beq_toListBytes, strB_toList, strB_toList]
  rw [Bool.eq_iff_iff, beq_iff_eq, decide_eq_true_iff]
/-- The value under a key, in a map's entries. -/
def getE (es : List MapEntry) (k : List UInt8) : Option Value :=
  match es with
  | [] => none
  | e :: r => if keyS e = some k then some e.val else getE r k

def keysOf (es : List MapEntry) : List (List UInt8) := es.filterMap keyS

/-- The entries of a map with string keys: each key once, each birth once. -/
structure GoodE (es : List MapEntry) (clk : Nat) : Prop where
  int : ∀ e ∈ es, ∃ k, e.key = .string (strB k)
  keys : (keysOf es).Nodup
  born : (es.map (·.born)).Nodup
  clock : ∀ e ∈ es, e.born < clk

/-- Block b of w is a map with string keys, which holds m. -/
def StrMap (w : World) (b : Nat) (m : List UInt8 → Option Value) : Prop :=
  ∃ es clk, w.heap[b]? = some (.map es clk) ∧ GoodE es.toList clk ∧ ∀ k, getE es.toList k = m k

theorem StrMap.lt {w : World} {b : Nat} {m : List UInt8 → Option Value} (h : StrMap w b m) : b < w.heap.size := by
  obtain ⟨es, clk, h1, _⟩ := h; exact (Array.getElem?_eq_some_iff.1 h1).1
theorem StrMap.of_heap {w w' : World} {b : Nat} {m : List UInt8 → Option Value} (h : StrMap w b m) (hb : w'.heap[b]? = w.heap[b]?) : StrMap w' b m := by
  obtain ⟨es, clk, h1, h2⟩ := h; exact ⟨es, clk, hb.trans h1, h2⟩
theorem StrMap.touch {S : Nat → Prop} {w w' : World} {b : Nat} {m : List UInt8 → Option Value} (h : StrMap w b m) (g : Touch S w w') (hs : ¬ S b) : StrMap w' b m :=
  h.of_heap (g.block b h.lt hs)
theorem StrMap.grow {w w' : World} {b : Nat} {m : List UInt8 → Option Value} (h : StrMap w b m) (g : Below w.heap.size w w') : StrMap w' b m := h.of_heap (g.block b h.lt)
theorem StrMap.fresh {w : World} {b : Nat} (h : w.heap[b]? = some (.map #[] 0)) : StrMap w b (fun _ => none) :=
  ⟨#[], 0, h, ⟨by simp, by simp [keysOf], by simp, by simp⟩, fun _ => rfl⟩
theorem StrMap.made (w : World) : StrMap (w.alloc (.map #[] 0)) w.heap.size (fun _ => none) :=
  ⟨#[], 0, heap_alloc_new w _, ⟨by simp, by simp [keysOf], by simp, by simp⟩, fun _ => rfl⟩

theorem findNow_str {es : List MapEntry} (hi : ∀ e ∈ es, ∃ k, e.key = .string (strB k)) (k : List UInt8) (i : Nat) :
    ∃ r, Instr.findNow .string (.string (strB k)) es i = some r ∧ r.map (·.2) = getE es k ∧ ∀ p, r = some p → i ≤ p.1 ∧ p.1 - i < es.length ∧ ∃ e, es[p.1 - i]? = some e ∧ e.key = .string (strB k) := by
  induction es generalizing i with
  | nil => exact ⟨none, rfl, rfl, fun p h => by cases h⟩
  | cons e r ih =>
    obtain ⟨j, hj⟩ := hi e (by simp)
    by_cases hjk : k = j
    · subst hjk
      refine ⟨some (i, e.val), by simp [Instr.findNow, hj, Instr.sameNow, strB_eqb], by simp [getE, keyS_of hj], fun p h => ?_⟩
      cases h
      exact ⟨Nat.le_refl _, by simp, e, by simp, hj⟩
    · obtain ⟨q, h1, h2, h3⟩ := ih (fun e he => hi e (by simp [he])) (i + 1)
      refine ⟨q, ?_, ?_, fun p h => ?_⟩
      · have : (strB k == strB j) = false := by rw [strB_eqb, decide_eq_false_iff_not]; exact hjk
        simp only [Instr.findNow, hj, Instr.sameNow, if_true, this]; exact h1
      · rw [h2]; simp [getE, keyS_of hj, Ne.symm hjk]
      · obtain ⟨a, b, e', c, d⟩ := h3 p h
        refine ⟨by omega, by simp; omega, e', ?_, d⟩
        have : p.1 - i = (p.1 - (i + 1)) + 1 := by omega
        rw [this]; simpa using c

section
variable {P : Program} {T K E : TypeId} {w : World} {b : Nat} {m : List UInt8 → Option Value}

theorem run_checkKey_str (hK : P.underlying K = some .string) (empty : Bool) (k : List UInt8) (w : World) : (Instr.checkKey empty 10000 K (.string (strB k))).run P w = .ok () w := by
  have : (10000 : Nat) = 9999 + 1 := rfl
  rw [this, Instr.checkKey]
  simp [Sem.run_bind, run_underlying hK, Result.andThen]

theorem run_findKey_str (hK : P.underlying K = some .string) {es : List MapEntry} (hi : ∀ e ∈ es, ∃ k, e.key = .string (strB k)) (k : List UInt8) (w : World) :
    ∃ r, (Instr.findKey K (.string (strB k)) es).run P w = .ok r w ∧ r.map (·.2) = getE es k ∧ ∀ p, r = some p → p.1 < es.length ∧ ∃ e, es[p.1]? = some e ∧ e.key = .string (strB k) := by
  obtain ⟨r, h1, h2, h3⟩ := findNow_str hi k 0
  refine ⟨r, ?_, h2, fun p h => ?_⟩
  · simp [Instr.findKey, Sem.run_bind, run_underlying hK, Result.andThen, h1]
  · have := h3 p h; simpa using this

/-- A lookup. -/
theorem run_lookup_str (h : StrMap w b m) (hT : P.underlying T = some (.map K E)) (hK : P.underlying K = some .string) {z : Value} (hz : ∀ w, (zeroValue E).run P w = .ok z w) (k : List UInt8) :
    (Instr.lookup T (.map (some b)) (.string (strB k)) false).run P w = .ok ((m k).getD z) w := by
  obtain ⟨es, clk, hb, hg, hm⟩ := h
  obtain ⟨r, h1, h2, _⟩ := run_findKey_str (P := P) hK hg.int k w
  rw [hm] at h2
  unfold Instr.lookup
  simp only [Sem.run_bind, run_underlying hT, Result.andThen_ok, getObj, Sem.run, hb, Sem.run_pure, run_checkKey_str hK, h1]
  cases r with
  | none => simp [← h2, hz]
  | some p => simp [← h2]

theorem run_lookup_nilS (hT : P.underlying T = some (.map K E)) (hK : P.underlying K = some .string) {z : Value} (hz : ∀ w, (zeroValue E).run P w = .ok z w) (k : List UInt8) :
    (Instr.lookup T (.map none) (.string (strB k)) false).run P w = .ok z w := by
  unfold Instr.lookup
  simp only [Sem.run_bind, run_underlying hT, Result.andThen_ok, Sem.run_pure, run_checkKey_str hK]
  simp [Instr.findKey, run_underlying hK, Result.andThen, Instr.findNow, hz]

def updS (m : List UInt8 → Option Value) (k : List UInt8) (v : Value) : List UInt8 → Option Value := fun j => if j = k then some v else m j

theorem getE_none {es : List MapEntry} {k : List UInt8} (h : getE es k = none) : k ∉ keysOf es := by
  induction es with
  | nil => simp [keysOf]
  | cons e r ih =>
    unfold getE at h
    split at h
    · cases h
    · rename_i hne
      unfold keysOf
      rw [List.filterMap_cons]
      cases hk : keyS e with
      | none => exact ih h
      | some j =>
        simp only [List.mem_cons, not_or]
        exact ⟨fun e' => hne (by rw [hk, e']), ih h⟩

theorem getE_append (es : List MapEntry) (k j : List UInt8) (v : Value) (c : Nat) : getE (es ++ [{ key := .string (strB k), val := v, born := c }]) j = match getE es j with | some u => some u | none => if k = j then some v else none := by
  induction es with
  | nil => simp [getE, keyS, strB]
  | cons e r ih =>
    simp only [List.cons_append, getE]
    split
    · rfl
    · exact ih

theorem keysOf_set {es : List MapEntry} {i : Nat} {e e' : MapEntry} (h : es[i]? = some e) (hk : keyS e' = keyS e) : keysOf (es.set i e') = keysOf es := by
  induction es generalizing i with
  | nil => simp at h
  | cons x r ih =>
    cases i with
    | zero => simp at h; subst h; simp [keysOf, List.filterMap_cons, hk]
    | succ i => simp at h; simp only [List.set_cons_succ, keysOf, List.filterMap_cons]; have := ih h; unfold keysOf at this; rw [this]

theorem getE_set {es : List MapEntry} (hn : (keysOf es).Nodup) {i : Nat} {e e' : MapEntry} {k : List UInt8} {v : Value} (h : es[i]? = some e) (hk : keyS e = some k) (hk' : keyS e' = some k) (hv : e'.val = v) (j : List UInt8) :
    getE (es.set i e') j = if j = k then some v else getE es j := by
  induction es generalizing i with
  | nil => simp at h
  | cons x r ih =>
    have hn' : (keysOf r).Nodup := by
      simp only [keysOf, List.filterMap_cons] at hn
      split at hn
      · exact hn
      · exact (List.nodup_cons.1 hn).2
    cases i with
    | zero =>
      simp at h; subst h
      simp only [List.set_cons_zero, getE, hk', hk, hv]
      by_cases hjk : j = k
      · simp [hjk]
      · simp [hjk, Ne.symm hjk]
    | succ i =>
      simp at h
      have hmem : k ∈ keysOf r := by
        simp only [keysOf, List.mem_filterMap]; exact ⟨e, List.mem_of_getElem? h, hk⟩
      simp only [List.set_cons_succ, getE, ih hn' h]
      split
      · rename_i hq
        have : j ≠ k := fun ejk => by
          simp only [keysOf, List.filterMap_cons, hq] at hn
          exact (List.nodup_cons.1 hn).1 (by rw [ejk]; exact hmem)
        simp [this]
      · rfl

theorem modify_toList (es : Array MapEntry) (i : Nat) (e : MapEntry) (f : MapEntry → MapEntry) (h : es[i]? = some e) : (es.modify i f).toList = es.toList.set i (f e) := by
  apply List.ext_getElem?
  intro n
  rw [List.getElem?_set, Array.getElem?_toList, Array.getElem?_modify]
  split
  · rename_i hn; subst hn; obtain ⟨hlt, he⟩ := Array.getElem?_eq_some_iff.1 h; simp [hlt, he]
  · simp

/-- A store. -/
theorem run_mapUpdate_str (h : StrMap w b m) (hT : P.underlying T = some (.map K E)) (hK : P.underlying K = some .string) (k : List UInt8) (v : Value) :
    ∃ w', (Instr.mapUpdate T (.map (some b)) (.string (strB k)) v).run P w = .ok () w' ∧ Touch (fun x => x = b) w w' ∧ StrMap w' b (updS m k v) ∧ w'.heap.size = w.heap.size := by
  obtain ⟨es, clk, hb, hg, hm⟩ := h
  obtain ⟨r, h1, h2, h3⟩ := run_findKey_str (P := P) hK hg.int k w
  rw [hm] at h2
  unfold Instr.mapUpdate
  simp only [Sem.run_bind, run_underlying hT, Result.andThen_ok, getObj, Sem.run, hb, Sem.run_pure, run_checkKey_str hK, h1]
  cases r with
  | none =>
    have hmk : m k = none := by simpa using h2.symm
    refine ⟨w.putObj b (.map (es.push { key := .string (strB k), val := v, born := clk }) (clk + 1)), ?_, (Touch.refl _ _).putObj (.inl (by exact rfl)) _, ⟨_, _, putObj_self hb, ?_, ?_⟩, by simp⟩
    · simp [setObj, Sem.run, hb, World.putObj]
    · refine ⟨?_, ?_, ?_, ?_⟩
      · intro e he
        rw [Array.toList_push] at he
        rcases List.mem_append.1 he with he | he
        · exact hg.int e he
        · cases List.mem_singleton.1 he; exact ⟨k, rfl⟩
      · have := getE_none ((hm k).trans hmk)
        simp only [Array.toList_push, keysOf, List.filterMap_append, List.filterMap_cons, List.filterMap_nil, keyS]
        rw [List.nodup_append]
        refine ⟨hg.keys, by simp, fun a ha c hc => ?_⟩
        simp only [List.mem_singleton] at hc
        subst hc; exact fun e => this (by rw [← e]; exact ha)
      · simp only [Array.toList_push, List.map_append, List.map_cons, List.map_nil]
        rw [List.nodup_append]
        refine ⟨hg.born, by simp, fun a ha c hc => ?_⟩
        simp only [List.mem_singleton] at hc
        obtain ⟨e, he, rfl⟩ := List.mem_map.1 ha
        have := hg.clock e he
        omega
      · intro e he
        simp only [Array.toList_push, List.mem_append, List.mem_singleton] at he
        rcases he with he | rfl
        · have := hg.clock e he; omega
        · simp
    · intro j
      rw [Array.toList_push, getE_append, hm]
      unfold updS
      by_cases hjk : j = k
      · subst hjk; simp [hmk]
      · simp only [hjk, Ne.symm hjk, if_false]
        cases m j <;> rfl
  | some p =>
    obtain ⟨i, u⟩ := p
    obtain ⟨hlt, e, he, hke⟩ := h3 _ rfl
    have hlt' : i < es.size := by simpa using hlt
    have he' : es[i]? = some e := by simpa using he
    have hkt : (Instr.keyThatStays (((es[i]?).map (·.key)).getD (.string (strB k))) (.string (strB k))).run P w = .ok (.string (strB k)) w := by
      simp only [he', Option.map_some, Option.getD_some, hke, Instr.keyThatStays]
      simp [Instr.sameBits, strB_eqb]
    refine ⟨w.putObj b (.map (es.modify i fun e => { e with key := .string (strB k), val := v }) clk), ?_, (Touch.refl _ _).putObj (.inl (by exact rfl)) _, ⟨_, _, putObj_self hb, ?_, ?_⟩, by simp⟩
    · simp only [Sem.run_bind, hkt, Result.andThen_ok]
      simp [setObj, Sem.run, hb, World.putObj]
    · rw [modify_toList es i e _ he']
      refine ⟨?_, ?_, ?_, ?_⟩
      · intro e' h'
        rcases List.mem_or_eq_of_mem_set h' with h' | rfl
        · exact hg.int e' h'
        · exact ⟨k, rfl⟩
      · rw [keysOf_set he (by simp [keyS, hke])]; exact hg.keys
      · rw [List.map_set]
        have : (es.toList.map (·.born)).set i e.born = es.toList.map (·.born) := by
          apply List.ext_getElem?
          intro n
          rw [List.getElem?_set]
          split
          · rename_i h; subst h; simp [he']; omega
          · rfl
        simp only [this]; exact hg.born
      · intro e' h'
        rcases List.mem_or_eq_of_mem_set h' with h' | rfl
        · exact hg.clock e' h'
        · exact hg.clock e (List.mem_of_getElem? he)
    · intro j
      rw [modify_toList es i e _ he', getE_set hg.keys he (keyS_of hke) rfl rfl, hm]
      rfl
end
theorem wpList_mapUpdate {P : Program} {w w' : World} {a : Act} {o : Oper} {ops : Array Oper} {rest : List Oper} {Q : Exit → Act → World → Prop} {t : TypeId} {x y z : Operand} {m k u : Value} (hg : o.guard = none) (ho : o.op = .mapUpdate t x y z) (hx : a.eval x = m) (hy : a.eval y = k) (hz : a.eval z = u)
    (hr : (Instr.mapUpdate t m k u).run P w = .ok () w') (h : wpList P ops Q rest (a.put o.dst undef) w') : wpList P ops Q (o :: rest) a w :=
  wpList_plain hg fun K hK => by unfold Oper.wp; rw [exec_mapUpdate ho hx hy hz hr]; exact hK _ _ h
end Go.Proofs.YtnkaegdnjfpliaaGreatDoor

/-! value.Once. -/
namespace Go.Proofs.YtnkaegdnjfpliaaGreatDoor
set_option linter.unusedSimpArgs false
set_option linter.unusedVariables false
open Go.RowKit

/-! ### Each once, by its text -/
def stepO (out : List V) (v : V) : List V := if textV v ∈ out.map textV then out else out ++ [v]
def onceL (l : List V) : List V := l.foldl stepO []
theorem onceL_snoc (l : List V) (v : V) : onceL (l ++ [v]) = stepO (onceL l) v := by unfold onceL; rw [List.foldl_append]; rfl
theorem fold_mem (t : List UInt8) : ∀ (l out : List V), t ∈ (l.foldl stepO out).map textV ↔ t ∈ out.map textV ∨ t ∈ l.map textV := by
  intro l
  induction l with
  | nil => intro out; simp
  | cons a r ih =>
    intro out
    rw [List.foldl_cons, ih]
    unfold stepO
    by_cases h : textV a ∈ out.map textV
    · rw [if_pos h, List.map_cons, List.mem_cons]
      constructor
      · rintro (h1 | h1)
        · exact .inl h1
        · exact .inr (.inr h1)
      · rintro (h1 | h1 | h1)
        · exact .inl h1
        · exact .inl (h1 ▸ h)
        · exact .inr h1
    · rw [if_neg h, List.map_append, List.mem_append, List.map_cons, List.map_nil, List.mem_singleton, List.map_cons, List.mem_cons]
      constructor
      · rintro ((h1 | h1) | h1)
        · exact .inl h1
        · exact .inr (.inl h1)
        · exact .inr (.inr h1)
      · rintro (h1 | h1 | h1)
        · exact .inl (.inl h1)
        · exact .inl (.inr h1)
        · exact .inr h1
theorem once_mem (l : List V) (t : List UInt8) : t ∈ (onceL l).map textV ↔ t ∈ l.map textV := by
  unfold onceL; rw [fold_mem]; simp
theorem once_length (l : List V) : (onceL l).length ≤ l.length := by
  have : ∀ (l out : List V), (l.foldl stepO out).length ≤ out.length + l.length := by
    intro l
    induction l with
    | nil => intro out; simp
    | cons a r ih =>
      intro out
      rw [List.foldl_cons]
      have h1 := ih (stepO out a)
      have h2 : (stepO out a).length ≤ out.length + 1 := by unfold stepO; split <;> simp
      simp only [List.length_cons]
      omega
  have := this l []
  simpa [onceL] using this
/-- How often a text was met. -/
def metN (l : List V) (t : List UInt8) : Nat := (l.map textV).count t
def metM (l : List V) : List UInt8 → Option Value := fun t => if metN l t = 0 then none else some (.int .i64 (metN l t : Int))
theorem metN_le (l : List V) (t : List UInt8) : metN l t ≤ l.length := by unfold metN; have := List.count_le_length (a := t) (l := l.map textV); simpa using this
theorem metN_zero (l : List V) (t : List UInt8) : metN l t = 0 ↔ t ∉ (onceL l).map textV := by
  rw [once_mem]; unfold metN; exact List.count_eq_zero
theorem metN_snoc (l : List V) (v : V) (t : List UInt8) : metN (l ++ [v]) t = metN l t + if t = textV v then 1 else 0 := by
  unfold metN
  rw [List.map_append, List.count_append, List.map_cons, List.map_nil, List.count_cons, List.count_nil]
  by_cases h : t = textV v
  · subst h; simp
  · have : (textV v == t) = false := by rw [beq_eq_false_iff_ne]; exact fun e => h e.symm
    simp [h, this]
theorem metM_snoc (l : List V) (v : V) : updS (metM l) (textV v) (.int .i64 ((metN l (textV v) : Int) + 1)) = metM (l ++ [v]) := by
  funext t
  unfold updS metM
  rw [metN_snoc]
  by_cases h : t = textV v
  · subst h; simp
  · simp [h]
theorem metM_get (l : List V) (t : List UInt8) : (metM l t).getD (.int .i64 0) = .int .i64 (metN l t : Int) := by
  unfold metM
  by_cases h : metN l t = 0
  · rw [if_pos h, h]; rfl
  · rw [if_neg h]; rfl
/-! ### What lies so far -/
/-- The first blocks of a world. -/
def Cut (W : World) (n : Nat) : World := { W with heap := W.heap.extract 0 n }
theorem Cut.size {W : World} {n : Nat} (h : n ≤ W.heap.size) : (Cut W n).heap.size = n := by simp [Cut]; omega
theorem Cut.below {W : World} {n : Nat} (h : n ≤ W.heap.size) : Below (Cut W n).heap.size (Cut W n) W := by
  refine ⟨rfl, rfl, rfl, by rw [Cut.size h]; exact h, fun b hb => ?_⟩
  rw [Cut.size h] at hb
  show W.heap[b]? = (W.heap.extract 0 n)[b]?
  rw [Array.getElem?_extract, if_pos (by omega), Nat.zero_add]
theorem CInv.recut {W W' : World} {n : Nat} {ov : Value} {m : List V} (hn : n ≤ W.heap.size) (h : CInv (Cut W n) W ov m) (hs : W.heap.size ≤ W'.heap.size) (hk : ∀ b, n ≤ b → b < W.heap.size → W'.heap[b]? = W.heap[b]?) : CInv (Cut W' n) W' ov m := by
  obtain ⟨xs, h1, h2, _⟩ := h
  rw [Cut.size hn] at h1 h2
  have e : (Cut W' n).heap.size = n := Cut.size (by omega)
  refine ⟨xs, ?_, ?_, Cut.below (by omega)⟩
  · rw [e]; exact h1.keep fun b hb hl => hk b hb hl
  · rw [e]; exact h2.keep fun b hb hl => hk b hb.1 hl
structure OInv (w : World) (mb : Nat) (W : World) (o : Value) (m : List V) : Prop where
  le : w.heap.size ≤ mb
  lt : mb < W.heap.size
  out : CInv (Cut W (mb + 1)) W o (onceL m)
  met : StrMap W mb (metM m)
  below : Below w.heap.size w W
theorem OInv.keep {w W W' : World} {mb : Nat} {o : Value} {m : List V} (h : OInv w mb W o m) (g : Below W.heap.size W W') : OInv w mb W' o m :=
  ⟨h.le, by have := h.lt; have := g.size; omega, h.out.recut h.lt g.size fun b _ hb => g.block b hb, h.met.grow g, below_trans h.below g⟩
theorem OInv.start {w w1 : World} (hb : Below w.heap.size w w1) : OInv w w1.heap.size (w1.alloc (.map #[] 0)) (.slice none 0 0) [] :=
  ⟨hb.size, by simp, CInv.start (Cut.below (by simp)), by
    have := StrMap.made w1
    exact this, below_trans hb (below_new _)⟩
theorem OInv.next {w w3 W2 : World} {mb : Nat} {o : Value} {m m' : List V} (hle : w.heap.size ≤ mb) (hlt : mb < w3.heap.size) (hc : CInv (Cut w3 (mb + 1)) W2 o m') (hm : StrMap w3 mb (metM m)) (hb : Below w.heap.size w w3) (e : onceL m = m') : OInv w mb W2 o m := by
  subst e
  obtain ⟨xs, h1, h2, h3⟩ := hc
  have hs : (Cut w3 (mb + 1)).heap.size = mb + 1 := Cut.size hlt
  rw [hs] at h1 h2 h3
  have hsz : mb + 1 ≤ W2.heap.size := by have := h3.size; rw [hs] at this; exact this
  have hcut : ∀ b, b < mb + 1 → W2.heap[b]? = w3.heap[b]? := fun b hb => by
    rw [h3.block b hb]
    show (w3.heap.extract 0 (mb + 1))[b]? = _
    rw [Array.getElem?_extract, if_pos (by omega), Nat.zero_add]
  refine ⟨hle, hsz, ⟨xs, ?_, ?_, Cut.below hsz⟩, hm.of_heap (hcut mb (by omega)), ⟨h3.os.trans hb.os, h3.tape.trans hb.tape, h3.output.trans hb.output, by omega, fun b hlt => (hcut b (by omega)).trans (hb.block b hlt)⟩⟩
  · rw [Cut.size hsz]; exact h1
  · rw [Cut.size hsz]; exact h2
set_option maxRecDepth 100000 in
set_option maxHeartbeats 4000000 in
theorem once_any {w : World} {p : Option Addr} {c : Nat} {l : List V} (hE : Env w) (hl : LRd w p c l) (hr : ∀ v ∈ l, rngV v) (ht : totVs l ≤ 1000000) :
    Calls Tryz.prog 49 #[.slice p l.length c] w fun e w' => ∃ vl, e = .returned vl ∧ LOwn w' (fun b => w.heap.size ≤ b) vl (if fineL l then onceL l else []) ∧ Below w.heap.size w w' := by
  have HF := Lib.hid (fine_any hE hl (by omega))
  have hlen := totVs_length l
  have z1 : (l.length : Int) ≤ 1000000 := by omega
  cases hf : fineL l with
  | false =>
    rw [hf] at HF
    clear hE hl hr ht hlen
    go_enter Tryz.func49, Tryz.ntmps49
    go_wp2_with (go_at_call 62; refine HF.out.mono ?_; rintro e w1 ⟨rfl, hb⟩; have HB := Lib.hid hb; clear hb)
    go_ret
    exact ⟨_, rfl, ⟨[], ⟨⟨rfl, .inl ⟨rfl, rfl⟩⟩, fun g hg => by simp [Value.ownBlock] at hg⟩, rfl⟩, HB.out⟩
  | true =>
    rw [hf] at HF
    have hmay := fineL_may hf
    have HV := Lib.hid (And.intro hl (And.intro hE (fun (v : V) (hv : v ∈ l) (W : World) (x : Array Value) => And.intro (tell_any v (hmay v hv) (hr v hv) (by have := totVs_mem hv; omega) W x) (And.intro (copy_any v (by have := totVs_mem hv; omega) W x) (text_len v (hr v hv))))))
    have HN := Lib.hid (show l.length ≤ 1000000 by omega)
    clear hE hl hr ht hlen hmay
    have hmm := @run_makeMap Tryz.prog
    go_enter Tryz.func49, Tryz.ntmps49
    go_wp2_with (go_at_call 62; refine HF.out.mono ?_; rintro e w1 ⟨rfl, hb⟩; have HS := Lib.hid (OInv.start hb); clear hb)
    go_loopw [4, 14] (fun o i W => ∃ j : Nat, j ≤ l.length ∧ i = .int .i64 (j : Int) ∧ Hid (OInv w w1.heap.size W o (l.take j))) (fun _ i _ => l.length - (intOf i).toNat)
    case atStart => exact ⟨0, Nat.zero_le _, rfl, HS⟩
    case round =>
      clear HS
      obtain ⟨j, hj, rfl, HJ⟩ := hrel
      by_cases hlt : j < l.length
      · have hlt1 : j + 1 ≤ l.length := hlt
        obtain ⟨g1, o1, pk1, ck1, pl1, cl1, rfl, ⟨b0, b1, b2, b3, b4, b5⟩, hv1⟩ := HV.out.1.at hlt
        have a0 := belowCell HJ.out.below (ltOf b0) b0
        have a1 := belowCell HJ.out.below (ltOf b1) b1
        have a2 := belowCell HJ.out.below (ltOf b2) b2
        have a3 := belowCell HJ.out.below (ltOf b3) b3
        have a4 := belowCell HJ.out.below (ltOf b4) b4
        have a5 := belowCell HJ.out.below (ltOf b5) b5
        clear b0 b1 b2 b3 b4 b5
        have hcall := HV.out.2.2 l[j] (List.getElem_mem hlt)
        have htk : l.take (j + 1) = l.take j ++ [l[j]] := List.take_succ_eq_append_getElem hlt
        have hml := metN_le (l.take j) (textV l[j])
        have hml2 : (l.take j).length ≤ 1000000 := by rw [List.length_take]; have := HN.out; omega
        have hz := metN_zero (l.take j) (textV l[j])
        have hol : (onceL (l.take j)).length ≤ 1000000 := by have := once_length (l.take j); omega
        generalize l[j] = s1 at *
        have HD := Lib.hid (And.intro htk (And.intro hcall (And.intro hv1 (And.intro HV.out.2.1 hol))))
        have zs : (strB (textV s1)).size = (textV s1).length := rfl
        clear hcall hv1 htk zs
        by_cases hc : metN (l.take j) (textV s1) = 0
        · have hst : onceL (l.take j ++ [s1]) = onceL (l.take j) ++ [s1] := by rw [onceL_snoc]; unfold stepO; rw [if_neg (hz.1 hc)]
          have HC := Lib.hid (And.intro hc hst)
          clear hc hst hz hml hml2 hol
          go_wp2_with (first
            | (go_at_call 67
               (
                 refine ((HD.out.2.1 _ _).1 (HD.out.2.2.2.1.b (below_trans HJ.out.below (below_new _))) (HD.out.2.2.1.below (below_trans HJ.out.below (below_new _)))).mono ?_
                 rintro e w2 ⟨rfl, hb⟩
                 have hb2 := below_trans (below_new _) hb
                 have hI := HJ.out.keep hb2
                 have hbox := belowBlk hb (by simp) (heap_alloc_new wr (.cells #[.int .i64 s1.kind, .bool s1.b, .int .i64 s1.n, .string (strB s1.text), .slice pk1 s1.keys.length ck1, .slice pl1 s1.list.length cl1] 26))
                 have hlk := run_lookup_str (P := Tryz.prog) (T := 98) hI.met Tryz.underlying98 Tryz.underlying9 (fun w => Tryz.zeroValue3 w) (textV s1)
                 rw [metM_get, HC.out.1] at hlk
                 obtain ⟨w3, hup, hT3, hM3, hz3⟩ := run_mapUpdate_str (P := Tryz.prog) (T := 98) hI.met Tryz.underlying98 Tryz.underlying9 (textV s1) (.int .i64 1)
                 have hM4 : StrMap w3 w1.heap.size (metM (l.take j ++ [s1])) := by
                   have := metM_snoc (l.take j) s1
                   rw [HC.out.1] at this
                   rw [← this]; exact hM3
                 have hlk2 := run_lookup_str (P := Tryz.prog) (T := 98) hM4 Tryz.underlying98 Tryz.underlying9 (fun w => Tryz.zeroValue3 w) (textV s1)
                 rw [metM_get, metN_snoc, HC.out.1] at hlk2
                 rw [if_pos rfl] at hlk2
                 have hne : wr.heap.size ≠ w1.heap.size := fun e => by have := HJ.out.lt; omega
                 have hbox3 := hT3.heap hbox hne
                 have hout := hI.out.recut hI.lt (by omega : w2.heap.size ≤ w3.heap.size) fun b h1 h2 => hT3.block b h2 (by omega)
                 have hb3 : Below w.heap.size w w3 := hT3.below hI.below (fun b h1 h2 => by have := hI.le; omega) hI.below.size
                 have H1 := Lib.hid hlk
                 have H2 := Lib.hid hup
                 have H3 := Lib.hid hlk2
                 have H4 := Lib.hid (get_val hbox3)
                 have HI := Lib.hid (And.intro hout (And.intro hM4 (And.intro hb3 (And.intro hI.le (show w1.heap.size < w3.heap.size by have := hI.lt; omega)))))
                 clear hb hb2 hI hbox hlk hup hT3 hM3 hz3 hM4 hlk2 hne hbox3 hout hb3))
            | (refine wpList_run rfl (exec_lookup rfl rfl rfl H1.out) ?_; simp only [Act.put, List.setIfInBounds_toArray, List.set_cons_zero, List.set_cons_succ])
            | (refine wpList_mapUpdate rfl rfl rfl rfl rfl H2.out ?_)
            | (refine wpList_run rfl (exec_lookup rfl rfl rfl H3.out) ?_; simp only [Act.put, List.setIfInBounds_toArray, List.set_cons_zero, List.set_cons_succ])
            | (refine wpList_load rfl _ _ _ rfl rfl H4.out ?_)
            | (go_at_call 51
               (
                 refine ((HD.out.2.1 _ _).2.1 (HD.out.2.2.1.below HI.out.2.2.1)).mono ?_
                 rintro e w4 ⟨x, rfl, hx, hb⟩
                 obtain ⟨v', W2, ha, hO⟩ := HI.out.1.step (Nat.le_refl _) hb hx HD.out.2.2.2.2 24
                 obtain ⟨vk, vl, rfl, _⟩ := hx.open
                 have Ha := Lib.hid ha
                 have HO := Lib.hid hO
                 clear ha hO hx hb))
            | (refine wpList_append rfl rfl rfl rfl Ha.out ?_))
          go_roundw
          case rel => exact ⟨j + 1, hlt1, by go_num, Lib.hid (OInv.next HI.out.2.2.2.1 HI.out.2.2.2.2 HO.out (by rw [HD.out.1]; exact HI.out.2.1) HI.out.2.2.1 (by rw [HD.out.1]; exact HC.out.2))⟩
          case measure => simp [intOf]; omega
        · have hst : onceL (l.take j ++ [s1]) = onceL (l.take j) := by
            rw [onceL_snoc]; unfold stepO
            by_cases hin : textV s1 ∈ (onceL (l.take j)).map textV
            · rw [if_pos hin]
            · exact absurd (hz.2 hin) hc
          have HC := Lib.hid hst
          generalize hcn : metN (l.take j) (textV s1) = cn at *
          have hN : (cn : Int) + 1 ≤ 1000001 := by omega
          have hq : ((cn : Int) + 1 == 1) = false := by rw [beq_eq_false_iff_ne]; omega
          have hq2 : ¬ (cn : Int) = 0 := by omega
          have HCN := Lib.hid hcn
          clear hcn hst hz hml hml2 hol
          go_wp2_with (first
            | (go_at_call 67
               (
                 refine ((HD.out.2.1 _ _).1 (HD.out.2.2.2.1.b (below_trans HJ.out.below (below_new _))) (HD.out.2.2.1.below (below_trans HJ.out.below (below_new _)))).mono ?_
                 rintro e w2 ⟨rfl, hb⟩
                 have hb2 := below_trans (below_new _) hb
                 have hI := HJ.out.keep hb2
                 have hlk := run_lookup_str (P := Tryz.prog) (T := 98) hI.met Tryz.underlying98 Tryz.underlying9 (fun w => Tryz.zeroValue3 w) (textV s1)
                 rw [metM_get, HCN.out] at hlk
                 obtain ⟨w3, hup, hT3, hM3, hz3⟩ := run_mapUpdate_str (P := Tryz.prog) (T := 98) hI.met Tryz.underlying98 Tryz.underlying9 (textV s1) (.int .i64 ((cn : Int) + 1))
                 have hM4 : StrMap w3 w1.heap.size (metM (l.take j ++ [s1])) := by
                   have := metM_snoc (l.take j) s1
                   rw [HCN.out] at this
                   rw [← this]; exact hM3
                 have hlk2 := run_lookup_str (P := Tryz.prog) (T := 98) hM4 Tryz.underlying98 Tryz.underlying9 (fun w => Tryz.zeroValue3 w) (textV s1)
                 rw [metM_get, metN_snoc, HCN.out, if_pos rfl] at hlk2
                 have hout := hI.out.recut hI.lt (by omega : w2.heap.size ≤ w3.heap.size) fun b h1 h2 => hT3.block b h2 (by omega)
                 have hb3 : Below w.heap.size w w3 := hT3.below hI.below (fun b h1 h2 => by have := hI.le; omega) hI.below.size
                 have hlk3 : (Instr.lookup 98 (.map (some w1.heap.size)) (.string (strB (textV s1))) false).run Tryz.prog w3 = .ok (.int .i64 ((cn : Int) + 1)) w3 := by
                   rw [hlk2]; simp
                 have H1 := Lib.hid hlk
                 have H2 := Lib.hid hup
                 have H3 := Lib.hid hlk3
                 have HI := Lib.hid (And.intro hout (And.intro hM4 (And.intro hb3 (And.intro hI.le (show w1.heap.size < w3.heap.size by have := hI.lt; omega)))))
                 clear hb hb2 hI hlk hup hT3 hM3 hz3 hM4 hlk2 hlk3 hout hb3))
            | (refine wpList_run rfl (exec_lookup rfl rfl rfl H1.out) ?_; simp only [Act.put, List.setIfInBounds_toArray, List.set_cons_zero, List.set_cons_succ])
            | (refine wpList_mapUpdate rfl rfl rfl rfl rfl H2.out ?_)
            | (refine wpList_run rfl (exec_lookup rfl rfl rfl H3.out) ?_; simp only [Act.put, List.setIfInBounds_toArray, List.set_cons_zero, List.set_cons_succ]))
          go_roundw
          case rel => exact ⟨j + 1, hlt1, by go_num, Lib.hid (by rw [HD.out.1]; exact ⟨HI.out.2.2.2.1, HI.out.2.2.2.2, by rw [HC.out]; exact HI.out.1, HI.out.2.1, HI.out.2.2.1⟩)⟩
          case measure => simp [intOf]; omega
      · obtain rfl : j = l.length := by omega
        go_wp2
        go_ret
        have h := HJ.out
        rw [List.take_length] at h
        refine ⟨_, rfl, ?_, h.below⟩
        have := h.out.own
        rw [Cut.size h.lt] at this
        exact this.imp fun b _ hb => by have := h.le; omega
end Go.Proofs.YtnkaegdnjfpliaaGreatDoor

/-! Values in order, plain: one order, counts, each once. -/
namespace Go.Proofs.YtnkaegdnjfpliaaGreatDoor
set_option linter.unusedSimpArgs false
set_option linter.unusedVariables false
open Go.RowKit

/-- Two rising orders of the same values are one. -/
theorem sorted_one {u : List UInt8 → Bool} : ∀ {p q : List V}, p.Perm q → p.Pairwise (fun a b => cmpV a b ≤ 0) → q.Pairwise (fun a b => cmpV a b ≤ 0) → (∀ v ∈ p, mayV u v = true) → p = q
  | [], q, h, _, _, _ => (List.nil_perm.1 h).symm
  | a :: p, [], h, _, _, _ => by have := h.length_eq; simp at this
  | a :: p, b :: q, h, h1, h2, hm => by
    rw [List.pairwise_cons] at h1 h2
    have hab : a = b := by
      by_cases e : a = b
      · exact e
      · have ha : a ∈ q := by
          rcases List.mem_cons.1 (h.mem_iff.1 (List.mem_cons_self (a := a) (l := p))) with c | c
          · exact absurd c e
          · exact c
        have hb : b ∈ p := by
          rcases List.mem_cons.1 (h.mem_iff.2 (List.mem_cons_self (a := b) (l := q))) with c | c
          · exact absurd c.symm e
          · exact c
        have k1 := h1.1 b hb
        have k2 := h2.1 a ha
        have k3 := (ord_cmpV a).anti b
        exact cmpV_zero a (hm a (by simp)) b (hm b (by simp [hb])) (by omega)
    subst hab
    rw [sorted_one (List.Perm.cons_inv h) h1.2 h2.2 fun v hv => hm v (by simp [hv])]
/-- How many stand at one place with a value. -/
def cntV (x : V) (m : List V) : Nat := m.countP fun v => decide (cmpV v x = 0)
theorem cntV_le (x : V) (m : List V) : cntV x m ≤ m.length := List.countP_le_length
theorem cntV_take (x : V) (m : List V) {q : Nat} (hq : q < m.length) : cntV x (m.take (q + 1)) = cntV x (m.take q) + if decide (cmpV m[q] x = 0) = true then 1 else 0 := by
  unfold cntV
  rw [List.take_succ_eq_append_getElem hq, List.countP_append]
  simp [List.countP_cons]
theorem cntV_perm (x : V) {m n : List V} (h : m.Perm n) : cntV x m = cntV x n := h.countP_eq _
theorem cntV_pos {x : V} {m : List V} (h : x ∈ m) : 0 < cntV x m := by
  unfold cntV
  exact List.countP_pos_iff.2 ⟨x, h, by simp [(ord_cmpV x).self]⟩
theorem once_nodup (l : List V) : ((onceL l).map textV).Nodup := by
  have : ∀ (l out : List V), (out.map textV).Nodup → ((l.foldl stepO out).map textV).Nodup := by
    intro l
    induction l with
    | nil => intro out h; exact h
    | cons a r ih =>
      intro out h
      rw [List.foldl_cons]
      refine ih _ ?_
      unfold stepO
      by_cases e : textV a ∈ out.map textV
      · rw [if_pos e]; exact h
      · rw [if_neg e, List.map_append, List.nodup_append]
        refine ⟨h, by simp, fun x hx y hy e2 => ?_⟩
        have : y = textV a := by simpa using hy
        exact e (by rw [← this, ← e2]; exact hx)
  exact this l [] (by simp)
theorem nodup_le {α : Type} [DecidableEq α] : ∀ {a b : List α}, a.Nodup → (∀ x ∈ a, x ∈ b) → a.length ≤ b.length
  | [], b, _, _ => Nat.zero_le _
  | x :: r, b, hn, hs => by
    rw [List.nodup_cons] at hn
    have hx := hs x (by simp)
    have h := nodup_le (a := r) (b := b.erase x) hn.2 fun y hy => (List.mem_erase_of_ne (fun e => hn.1 (by rw [← e]; exact hy))).2 (hs y (by simp [hy]))
    rw [List.length_erase_of_mem hx] at h
    have := List.length_pos_of_mem hx
    simp only [List.length_cons]; omega
theorem once_perm {l m : List V} (h : l.Perm m) : (onceL l).length = (onceL m).length := by
  have h1 : ∀ t, t ∈ (onceL l).map textV ↔ t ∈ (onceL m).map textV := fun t => by
    rw [once_mem, once_mem]; exact (h.map textV).mem_iff
  have a := nodup_le (once_nodup l) fun t ht => (h1 t).1 ht
  have b := nodup_le (once_nodup m) fun t ht => (h1 t).2 ht
  simp only [List.length_map] at a b
  omega
theorem totVs_perm {l m : List V} (h : l.Perm m) : totVs l = totVs m := by
  induction h with
  | nil => rfl
  | cons x _ ih => rw [totVs_cons, totVs_cons, ih]
  | swap x y l => rw [totVs_cons, totVs_cons, totVs_cons, totVs_cons]; omega
  | trans _ _ a b => exact a.trans b
theorem fineL_perm {l m : List V} (h : l.Perm m) : fineL l = fineL m := by
  have e : ∀ {l m : List V}, l.Perm m → fineL l = true → fineL m = true := fun h g => by
    unfold fineL at *
    exact List.all_eq_true.2 fun x hx => List.all_eq_true.1 g x (h.mem_iff.2 hx)
  cases a : fineL l with
  | true => exact (e h a).symm
  | false =>
    cases b : fineL m with
    | true => rw [e h.symm b] at a; cases a
    | false => rfl
/-- Six cells are loaded as a value. -/
theorem load_six {W : World} {g o : Nat} {x : Array Value} (h : Six W g o x) : (loadVar 26 ⟨g, o, none⟩).run Tryz.prog W = .ok (.agg x) W := by
  obtain ⟨c0, c1, c2, c3, c4, c5, rfl, h0, h1, h2, h3, h4, h5⟩ := h
  exact get_six h0 h1 h2 h3 h4 h5
/-- Two elements of rows, while other memory is laid. -/
structure TwoE (W0 : World) (g1 o1 : Nat) (x1 : Array Value) (g2 o2 : Nat) (x2 : Array Value) (W : World) : Prop where
  one : Six W g1 o1 x1
  two : Six W g2 o2 x2
  b : Below W0.heap.size W0 W
theorem TwoE.keep {W0 W W' : World} {g1 o1 g2 o2 : Nat} {x1 x2 : Array Value} (h : TwoE W0 g1 o1 x1 g2 o2 x2 W) (g : Below W.heap.size W W') : TwoE W0 g1 o1 x1 g2 o2 x2 W' := ⟨h.one.below g, h.two.below g, below_trans h.b g⟩
theorem TwoE.start {W : World} {g1 o1 g2 o2 : Nat} {x1 x2 : Array Value} (h1 : Six W g1 o1 x1) (h2 : Six W g2 o2 x2) : TwoE W g1 o1 x1 g2 o2 x2 W.drew := ⟨h1.below (Below.refl _ _).drew, h2.below (Below.refl _ _).drew, (Below.refl _ _).drew⟩
end Go.Proofs.YtnkaegdnjfpliaaGreatDoor

/-! Bytes in memory, and the smallest functions on them. -/
namespace Go.Proofs.YtnkaegdnjfpliaaGreatDoor
set_option linter.unusedSimpArgs false
set_option linter.unusedVariables false
open Go.RowKit

/-- A byte as a value. -/
def Bv (b : UInt8) : Value := .int .u8 (b.toNat : Int)

/-- A value reads as these bytes: a slice of them. -/
def RdB (w : World) (v : Value) (l : List UInt8) : Prop :=
  ∃ a cap, v = .slice a l.length cap ∧ (l.length ≤ cap ∧ cap ≤ maxLen ∧ (a = none → cap = 0)) ∧ (∀ ad, a = some ad → (l ≠ [] → ad.spot = none) ∧ ∀ i b, l[i]? = some b → w.cell? ⟨ad.block, ad.off + i, none⟩ = some (.int .u8 (b.toNat : Int)))

theorem RdB.below {w w' : World} {v : Value} {l : List UInt8} (h : RdB w v l) (hb : Below w.heap.size w w') : RdB w' v l := by
  obtain ⟨a, cap, rfl, h1, h2⟩ := h
  refine ⟨a, cap, rfl, h1, fun ad had => ⟨(h2 ad had).1, fun i b hi => ?_⟩⟩
  have h3 := (h2 ad had).2 i b hi
  exact (hb.cell (p := ⟨ad.block, ad.off + i, none⟩) (World.block_lt_of_cell? w _ h3)).trans h3

theorem RdB.at {w : World} {ad : Addr} {n c : Nat} {l : List UInt8} (h : RdB w (.slice (some ad) n c) l) (i : Nat) (b : UInt8) (hi : l[i]? = some b) : w.cell? (ad.add i) = some (.int .u8 (b.toNat : Int)) := by
  obtain ⟨a', cap, heq, h1, h2⟩ := h
  cases heq
  have hs := (h2 ad rfl).1 (fun e => by rw [e] at hi; simp at hi)
  have hc := (h2 ad rfl).2 i b hi
  obtain ⟨x, o, sp⟩ := ad
  simp only at hs; subst hs
  have ha : (⟨x, o, none⟩ : Addr).add i = ⟨x, o + i, none⟩ := by unfold Addr.add; split <;> simp_all
  rw [ha]; exact hc
/-! Pieces of slices and strings, as run equations. -/
section
variable {P : Program} {t e : TypeId} {s : Nat}
theorem run_slice_gen (ht : P.underlying t = some (.slice e)) (hs : ∀ w, (sizeOf e).run P w = .ok s w) (a : Option Addr) (len cap : Nat) (lo hi : Option Int) (l h : Nat)
    (hlo : ∀ i, lo = some i → i = (l : Int)) (hlo' : lo = none → l = 0) (hhi : ∀ i, hi = some i → i = (h : Int)) (hhi' : hi = none → h = len) (h1 : l ≤ h) (h2 : h ≤ cap) (W : World) :
    (Instr.slice t (.slice a len cap) (lo.map (.int .i64)) (hi.map (.int .i64)) none).run P W = .ok (.slice (if cap = l then a else a.map (·.add (l * s))) (h - l) (cap - l)) W := by
  have hb : (Instr.sliceBounds true len cap (lo.map (.int .i64)) (hi.map (.int .i64)) none).run P W = .ok (l, h, cap) W := by
    have e1 : ∀ (x y : Nat) (code : BoundsCode), x ≤ y → (Instr.sliceBound (.int .i64 (x : Int)) y code).run P W = .ok x W := fun x y code hxy => by
      simp [Instr.sliceBound, asIntOf, Sem.run_bind, hxy]
    cases lo with
    | none =>
      obtain rfl := hlo' rfl
      cases hi with
      | none => obtain rfl := hhi' rfl; simp [Instr.sliceBounds]
      | some i => obtain rfl := hhi i rfl; simp [Instr.sliceBounds, Sem.run_bind, e1 h cap _ h2]
    | some j =>
      obtain rfl := hlo j rfl
      cases hi with
      | none => obtain rfl := hhi' rfl; simp [Instr.sliceBounds, Sem.run_bind, e1 l h _ h1]
      | some i => obtain rfl := hhi i rfl; simp [Instr.sliceBounds, Sem.run_bind, e1 h cap _ h2, e1 l h _ h1]
  simp only [Instr.slice, Sem.run_bind, run_underlying ht, Result.andThen_ok, hb, hs, Sem.run_pure]
theorem run_sliceAt_gen (ht : P.underlying t = some (.slice e)) (x : Value) (lo hi mx : Option Value) (W : World) : (Instr.sliceAt t x lo hi mx).run P W = (Instr.slice t x lo hi mx).run P W := by
  simp [Instr.sliceAt, run_underlying ht]
end

/-- What slices.Backward hands out. -/
def backs (l : List UInt8) (k : Nat) : List (UInt8 × Nat) := (List.range k).map fun j => (l.getD (l.length - 1 - j) 0, l.length - 1 - j)
theorem backs_succ (l : List UInt8) (k : Nat) : backs l (k + 1) = backs l k ++ [(l.getD (l.length - 1 - k) 0, l.length - 1 - k)] := by simp [backs, List.range_succ]

theorem u8_lt (b : UInt8) : (b.toNat : Int) < 256 := by have := b.toNat_lt; omega

attribute [local go_sem] Oper.semAt_some

/-- A number out of bytes, the lowest first. -/
def leNat (l : List UInt8) : Nat := l.foldr (fun b n => b.toNat + 256 * n) 0
theorem leNat_lt (l : List UInt8) : leNat l < 256 ^ l.length := by
  induction l with
  | nil => simp [leNat]
  | cons b l ih =>
    have := b.toNat_lt
    simp only [leNat, List.foldr_cons, List.length_cons, Nat.pow_succ] at *
    omega
theorem leNat_drop (l : List UInt8) (k : Nat) (hk : k < l.length) : leNat (l.drop (l.length - (k + 1))) = (l.getD (l.length - 1 - k) 0).toNat + 256 * leNat (l.drop (l.length - k)) := by
  have h1 : l.length - (k + 1) < l.length := by omega
  rw [List.drop_eq_getElem_cons h1]
  have h2 : l.length - (k + 1) + 1 = l.length - k := by omega
  have h3 : l.length - 1 - k = l.length - (k + 1) := by omega
  simp [leNat, h2, h3, h1]

theorem or_step (A b : Nat) (hA : 256 * A + b < 18446744073709551616) (hb : b < 256) :
    bits .or .u64 (IntKind.u64.wrap ((A : Int) * 256)) (IntKind.u64.wrap (b : Int)) = ((b + 256 * A : Nat) : Int) := by
  have w1 : IntKind.u64.wrap ((A : Int) * 256) = ((A * 256 : Nat) : Int) := by simp [IntKind.wrap, IntKind.signed, IntKind.bits]; omega
  have w2 : IntKind.u64.wrap (b : Int) = (b : Int) := by simp [IntKind.wrap, IntKind.signed, IntKind.bits]; omega
  rw [w1, w2, bits_or_u64_nat _ _ (by omega) (by omega)]
  have h := Nat.two_pow_add_eq_or_of_lt (i := 8) (b := b) (by simpa using hb) A
  have h2 : 2 ^ 8 * A = A * 256 := by omega
  rw [h2] at h
  rw [← h]; congr 1; omega

end Go.Proofs.YtnkaegdnjfpliaaGreatDoor

/-! Rows of one's own whose values lie below, and pieces of them appended to others (the document's Map). -/
namespace Go.Proofs.YtnkaegdnjfpliaaGreatDoor
set_option linter.unusedSimpArgs false
set_option linter.unusedVariables false
open Go.RowKit

/-- A row of one's own from block n0 on, of values that were readable at w. -/
def RowV (w : World) (n0 : Nat) (W : World) (v : Value) (l : List V) : Prop := ∃ xs, OwnsP W (fun b => n0 ≤ b) 26 6 v l.length (xs.flatMap Array.toList) ∧ VRs w l xs
/-- A piece of such a row, or of one that came in. -/
def PieceV (w W : World) (p : Option Addr) (m : List V) : Prop := (p = none → m = []) ∧ ∃ ys, VRs w m ys ∧ ∀ ad, p = some ad → ∀ (j : Nat) (u : Value), (ys.flatMap Array.toList)[j]? = some u → W.cell? (ad.add j) = some u
theorem RowV.start (w : World) (n0 : Nat) (W : World) : RowV w n0 W (.slice none 0 0) [] := ⟨[], ⟨⟨rfl, .inl ⟨rfl, rfl⟩⟩, fun g hg => by simp [Value.ownBlock] at hg⟩, VRs.nil w⟩
theorem RowV.below {w W W' : World} {n0 : Nat} {v : Value} {l : List V} (h : RowV w n0 W v l) (g : Below W.heap.size W W') : RowV w n0 W' v l := by
  obtain ⟨xs, h1, h2⟩ := h
  exact ⟨xs, h1.keep fun b _ hb => g.block b hb, h2⟩
theorem RowV.mono {w W : World} {n0 n1 : Nat} {v : Value} {l : List V} (h : RowV w n0 W v l) (g : n1 ≤ n0) : RowV w n1 W v l := by
  obtain ⟨xs, h1, h2⟩ := h
  exact ⟨xs, h1.imp fun b _ hb => Nat.le_trans g hb, h2⟩
theorem RowV.slice {w W : World} {n0 : Nat} {v : Value} {l : List V} (h : RowV w n0 W v l) : ∃ p c, v = .slice p l.length c := by obtain ⟨_, h, _⟩ := h; exact slices_of h
theorem RowV.rd {w W : World} {n0 : Nat} {v : Value} {l : List V} (h : RowV w n0 W v l) (h0 : w.heap.size ≤ n0) (hb : Below w.heap.size w W) (hn : l.length ≤ 1000000) : ∃ p c, v = .slice p l.length c ∧ LRd W p c l := by
  obtain ⟨xs, h1, h2⟩ := h
  exact AInv.rd (w := w) ⟨xs, h1.imp fun b _ hb => Nat.le_trans h0 hb, h2, hb⟩ hn
theorem VRs.six6 {w : World} {l : List V} {xs : List (Array Value)} (h : VRs w l xs) : ∀ x ∈ xs, x.size = 6 := fun x hx => by obtain ⟨v, hv⟩ := h.six x hx; exact hv.size6
/-- A piece is appended. -/
theorem RowV.step {w W : World} {n0 : Nat} {v : Value} {l m : List V} {p : Option Addr} {c : Nat} (h : RowV w n0 W v l) (hm : PieceV w W p m) (h0 : n0 ≤ W.heap.size) (hn : l.length + m.length ≤ 1000000) (hc : p = none → c = 0) (ty : TypeId) :
    ∃ v' W', (Builtin.append_ #[24, 24] ty #[v, .slice p m.length c]).run Tryz.prog W = .ok v' W' ∧ RowV w n0 W' v' (l ++ m) ∧ Below n0 W W' := by
  obtain ⟨xs, h1, h2⟩ := h
  obtain ⟨i, i1, i2, i3, i4⟩ := info_val
  obtain ⟨hnil, ys, hy, hcell⟩ := hm
  have hy6 := hy.six6
  cases p with
  | none =>
    have hl := hnil rfl
    subst hl
    have hc0 := hc rfl
    subst hc0
    refine ⟨v, W, append_law_nil (P := Tryz.prog) (w := W) 24 ty 26 i 6 Tryz.underlying24 i1 i3 v l.length _ h1.1, ?_, Below.refl _ _⟩
    rw [List.append_nil]
    exact ⟨xs, h1, h2⟩
  | some ad =>
    obtain ⟨v', W2, a1, a2, a3, a4, a5⟩ := append_law (P := Tryz.prog) (w := W) 24 ty 26 i _ 6 88 Tryz.underlying24 i1 i2 i3 i4 rfl v l.length _ h1.1 ad m.length c (ys.flatMap Array.toList)
      (by rw [flatA_len hy6, hy.1]) (fun j u hu => hcell ad rfl j u hu) (fun u hu => by
        obtain ⟨x, hx, hu⟩ := List.mem_flatMap.1 hu
        obtain ⟨v, hv⟩ := hy.six x hx
        exact hv.ones u hu) (by unfold maxLen; omega) (by omega)
    refine ⟨v', W2, a1, ⟨xs ++ ys, ⟨?_, fun g hg => ?_⟩, h2.append hy⟩, a3.toBelow h0 (fun b hb e => by have := h1.2 b e; omega)⟩
    · rw [List.flatMap_append, List.length_append]; exact a2
    · rcases a4 with e | e
      · exact h1.2 g (e.symm.trans hg)
      · rw [e] at hg; cases hg; exact h0
/-- One value out of a box. -/
theorem PieceV.one {w W : World} {v : V} {x : Array Value} {g : Nat} (hv : VRd w v x) (hg : W.heap[g]? = some (.cells x 26 (0, 0))) : PieceV w W (some ⟨g, 0, none⟩) [v] := by
  refine ⟨(fun h => by cases h), [x], ⟨rfl, fun j u hu => ?_⟩, fun ad had j u hu => ?_⟩
  · cases j with
    | zero => obtain rfl : v = u := by simpa using hu
              exact ⟨x, rfl, hv⟩
    | succ j => simp at hu
  · cases had
    rw [addr_add, Nat.zero_add]
    exact cellOf (o := j) hg (by simpa using hu)
theorem flat_take {xs : List (Array Value)} (h6 : ∀ x ∈ xs, x.size = 6) (m : Nat) : (xs.take m).flatMap Array.toList = (xs.flatMap Array.toList).take (m * 6) := by
  induction xs generalizing m with
  | nil => simp
  | cons a r ih =>
    cases m with
    | zero => simp
    | succ m =>
      have ha := h6 a (by simp)
      rw [List.take_succ_cons, List.flatMap_cons, List.flatMap_cons, ih (fun x hx => h6 x (by simp [hx])), List.take_append]
      have hl : a.toList.length = 6 := by simpa using ha
      rw [hl, List.take_of_length_le (l := a.toList) (by omega), show (m + 1) * 6 - 6 = m * 6 by omega]
theorem flat_drop {xs : List (Array Value)} (h6 : ∀ x ∈ xs, x.size = 6) (m : Nat) : (xs.drop m).flatMap Array.toList = (xs.flatMap Array.toList).drop (m * 6) := by
  induction xs generalizing m with
  | nil => simp
  | cons a r ih =>
    cases m with
    | zero => simp
    | succ m =>
      have ha := h6 a (by simp)
      rw [List.drop_succ_cons, List.flatMap_cons, ih (fun x hx => h6 x (by simp [hx])), List.drop_append]
      have hl : a.toList.length = 6 := by simpa using ha
      rw [hl, List.drop_of_length_le (l := a.toList) (by omega), show (m + 1) * 6 - 6 = m * 6 by omega, List.nil_append]
theorem VRs.take {w : World} {l : List V} {xs : List (Array Value)} (h : VRs w l xs) (m : Nat) : VRs w (l.take m) (xs.take m) := by
  refine ⟨by simp [h.1], fun j v hv => ?_⟩
  rw [List.getElem?_take] at hv ⊢
  by_cases hj : j < m
  · rw [if_pos hj] at hv ⊢; exact h.2 j v hv
  · rw [if_neg hj] at hv; cases hv
theorem VRs.drop {w : World} {l : List V} {xs : List (Array Value)} (h : VRs w l xs) (m : Nat) : VRs w (l.drop m) (xs.drop m) := by
  refine ⟨by simp [h.1], fun j v hv => ?_⟩
  rw [List.getElem?_drop] at hv ⊢
  exact h.2 _ v hv
/-- The first m values of such a row. -/
theorem RowV.low {w W : World} {n0 : Nat} {v : Value} {l : List V} (h : RowV w n0 W v l) {m : Nat} (hm : m ≤ l.length) : ∃ p c, (∀ W, (Instr.slice 24 v none (some (.int .i64 (m : Int))) none).run Tryz.prog W = .ok (.slice p m c) W) ∧ PieceV w W p (l.take m) ∧ (p = none → c = 0) := by
  obtain ⟨xs, h1, h2⟩ := h
  have h6 := h2.six6
  rcases h1.1.2 with ⟨rfl, h0⟩ | ⟨g, cap, cur, rfl, _, hg, hnc, hcm, _⟩
  · obtain rfl : m = 0 := by omega
    have e : l = [] := List.eq_nil_of_length_eq_zero h0
    subst e
    exact ⟨none, 0, fun W => by simp [go_sem], ⟨fun _ => rfl, [], VRs.nil w, fun ad h => by cases h⟩, fun _ => rfl⟩
  · have hc := fun j u => h1.1.cells (g := g) rfl j u
    refine ⟨some ⟨g, 0, none⟩, cap, fun W => ?_, ⟨(fun h => by cases h), xs.take m, h2.take m, fun ad had j u hu => ?_⟩, (fun h => by cases h)⟩
    · have h1 : (m : Int) ≤ cap := by omega
      simp [go_sem, h1, addr_add]
    · cases had
      rw [flat_take h6, List.getElem?_take] at hu
      by_cases hj : j < m * 6
      · rw [if_pos hj] at hu
        have := hc j u hu
        simpa [addr_add] using this
      · rw [if_neg hj] at hu; cases hu
/-- The values from place m on. -/
theorem RowV.high {w W : World} {n0 : Nat} {v : Value} {l : List V} (h : RowV w n0 W v l) {m : Nat} (hm : m ≤ l.length) : ∃ p c, (∀ W, (Instr.slice 24 v (some (.int .i64 (m : Int))) none none).run Tryz.prog W = .ok (.slice p (l.length - m) c) W) ∧ PieceV w W p (l.drop m) ∧ (p = none → c = 0) := by
  obtain ⟨xs, h1, h2⟩ := h
  have h6 := h2.six6
  rcases h1.1.2 with ⟨rfl, h0⟩ | ⟨g, cap, cur, rfl, _, hg, hnc, hcm, _⟩
  · obtain rfl : m = 0 := by omega
    have e : l = [] := List.eq_nil_of_length_eq_zero h0
    subst e
    exact ⟨none, 0, fun W => by simp [go_sem], ⟨fun _ => rfl, [], VRs.nil w, fun ad h => by cases h⟩, fun _ => rfl⟩
  · have hc := fun j u => h1.1.cells (g := g) rfl j u
    refine ⟨_, _, fun W => run_slice_gen (s := 6) Tryz.underlying24 (fun w => by simp [go_sem]) (some ⟨g, 0, none⟩) l.length cap (some (m : Int)) none m l.length (fun i h => by cases h; rfl) (fun h => by cases h) (fun i h => by cases h) (fun _ => rfl) hm hnc W, ?_, ?_⟩
    · refine ⟨fun h => ?_, xs.drop m, h2.drop m, fun ad had j u hu => ?_⟩
      · split at h <;> cases h
      · rw [flat_drop h6, List.getElem?_drop] at hu
        have := hc _ u hu
        have hne : ¬ cap = m := by
          intro e
          have hlen := (List.getElem?_eq_some_iff.1 hu).1
          rw [flatA_len h6, h2.1] at hlen
          omega
        rw [if_neg hne] at had
        cases had
        simpa [addr_add] using this
    · intro h; split at h <;> cases h
/-- The first m keys of a row of one's own. -/
theorem keys_low {W : World} {P : Nat → Prop} {v : Value} {l : List (List UInt8)} (h : OwnsP W P 9 1 v l.length (l.map strV)) (h1 : l.length ≤ 140737488355328) (h2 : ∀ s ∈ l, s.length ≤ 140737488355328) {m : Nat} (hm : m ≤ l.length) : ∃ p c, (∀ W, (Instr.slice 23 v none (some (.int .i64 (m : Int))) none).run Tryz.prog W = .ok (.slice p (l.take m).length c) W) ∧ RdS W p c (l.take m) := by
  have hlt : (l.take m).length = m := by simp; omega
  rcases h.1.2 with ⟨rfl, h0⟩ | ⟨g, cap, cur, rfl, _, hg, hnc, hcm, _⟩
  · obtain rfl : m = 0 := by omega
    exact ⟨none, 0, fun W => by simp [go_sem], by simp, by simp, fun _ => rfl, by simp, fun ad h => by cases h⟩
  · have hc := fun j u => h.1.cells (g := g) rfl j u
    unfold maxLen at hcm
    refine ⟨some ⟨g, 0, none⟩, cap, fun W => ?_, by omega, by omega, (fun h => by cases h), fun s hs => h2 s (List.mem_of_mem_take hs), fun ad had => ?_⟩
    · rw [hlt]
      have h1 : (m : Int) ≤ cap := by omega
      simp [go_sem, h1, addr_add]
    · cases had
      refine ⟨fun _ => rfl, fun i s hs => ?_⟩
      rw [List.getElem?_take] at hs
      by_cases hi : i < m
      · rw [if_pos hi] at hs
        have := hc i (strV s) (by simp [hs])
        rw [addr_add] at this
        simpa [strV] using this
      · rw [if_neg hi] at hs; cases hs
/-- The keys from place m on. -/
theorem keys_high {W : World} {P : Nat → Prop} {v : Value} {l : List (List UInt8)} (h : OwnsP W P 9 1 v l.length (l.map strV)) (h1 : l.length ≤ 140737488355328) (h2 : ∀ s ∈ l, s.length ≤ 140737488355328) {m : Nat} (hm : m ≤ l.length) : ∃ p c, (∀ W, (Instr.slice 23 v (some (.int .i64 (m : Int))) none none).run Tryz.prog W = .ok (.slice p (l.drop m).length c) W) ∧ RdS W p c (l.drop m) := by
  have hlt : (l.drop m).length = l.length - m := by simp
  rcases h.1.2 with ⟨rfl, h0⟩ | ⟨g, cap, cur, rfl, _, hg, hnc, hcm, _⟩
  · obtain rfl : m = 0 := by omega
    have e : l = [] := List.eq_nil_of_length_eq_zero h0
    subst e
    exact ⟨none, 0, fun W => by simp [go_sem], by simp, by simp, fun _ => rfl, by simp, fun ad h => by cases h⟩
  · have hc := fun j u => h.1.cells (g := g) rfl j u
    unfold maxLen at hcm
    refine ⟨_, _, fun W => (run_slice_gen (s := 1) Tryz.underlying23 (fun w => by simp [go_sem]) (some ⟨g, 0, none⟩) l.length cap (some (m : Int)) none m l.length (fun i h => by cases h; rfl) (fun h => by cases h) (fun i h => by cases h) (fun _ => rfl) hm hnc W).trans (by rw [hlt]), by omega, by omega, (fun h => by split at h <;> cases h), fun s hs => h2 s (List.mem_of_mem_drop hs), fun ad had => ?_⟩
    refine ⟨fun hne => ?_, fun i s hs => ?_⟩
    · split at had
      · cases had; rfl
      · cases had
        show ((⟨g, 0, none⟩ : Addr).add (m * 1)).spot = none
        rw [addr_add]
    · rw [List.getElem?_drop] at hs
      have hlen := (List.getElem?_eq_some_iff.1 hs).1
      rw [if_neg (by omega)] at had
      cases had
      have := hc (m + i) (strV s) (by simp [hs])
      rw [addr_add] at this
      simpa [strV, addr_add] using this
/-- A piece of keys is appended. -/
theorem keys_step {W : World} {n0 : Nat} {v : Value} {l m : List (List UInt8)} {p : Option Addr} {c : Nat} (h : OwnsP W (fun b => n0 ≤ b) 9 1 v l.length (l.map strV)) (hm : RdS W p c m) (hn : l.length + m.length ≤ 1000000) (h0 : n0 ≤ W.heap.size) (ty : TypeId) :
    ∃ v' W', (Builtin.append_ #[23, 23] ty #[v, .slice p m.length c]).run Tryz.prog W = .ok v' W' ∧ OwnsP W' (fun b => n0 ≤ b) 9 1 v' (l ++ m).length ((l ++ m).map strV) ∧ Below n0 W W' := by
  obtain ⟨v', W', a1, a2, a3, a4, a5⟩ := append_keys (w := W) h hm hn h0 ty
  exact ⟨v', W', a1, a2, a3.toBelow h0 (fun b hb e => by have := h.2 b e; omega)⟩
theorem keys_nil (W : World) (P : Nat → Prop) : OwnsP W P 9 1 (.slice none 0 0) ([] : List (List UInt8)).length (([] : List (List UInt8)).map strV) := ⟨⟨rfl, .inl ⟨rfl, rfl⟩⟩, fun g hg => by simp [Value.ownBlock] at hg⟩
end Go.Proofs.YtnkaegdnjfpliaaGreatDoor

/-! The law ValueSorted. Printed by gen_sortl.py. -/
namespace Go.Proofs.YtnkaegdnjfpliaaGreatDoor
set_option linter.unusedSimpArgs false
set_option linter.unusedVariables false
open Go.RowKit

theorem sorted_fine {w : World} {p : Option Addr} {c n : Nat} {l : List V} (hE : Env w) (hl : LRd w p c l) (hn : l.length = n) (ht : totVs l ≤ 900000) (hf : fineL l = true) :
    Calls Tryz.prog 55 #[.slice p n c] w fun e w' => ∃ pa ca la, e = .returned (.slice pa n ca) ∧ LRd w' pa ca la ∧ la.Perm l ∧ la.Pairwise (fun a b => cmpV a b ≤ 0) ∧ Below w.heap.size w w' := by
  subst hn
  refine (sorted_any hE hl ht).mono ?_
  rintro e w' ⟨hb, vl, l', rfl, ho, h⟩
  rcases h with ⟨_, hp, hs⟩ | ⟨h, _⟩
  · obtain ⟨pa, ca, rfl, hr⟩ := ho.own.rd (by rw [totVs_perm hp]; exact ht)
    exact ⟨pa, ca, l', by rw [hp.length_eq], hr, hp, hs, hb⟩
  · rw [h] at hf; cases hf
theorem once_fine {w : World} {p : Option Addr} {c n N : Nat} {l : List V} (hE : Env w) (hl : LRd w p c l) (hn : l.length = n) (hr : ∀ v ∈ l, rngV v) (ht : totVs l ≤ 900000) (hf : fineL l = true) (hN : (onceL l).length = N) :
    Calls Tryz.prog 49 #[.slice p n c] w fun e w' => ∃ po co, e = .returned (.slice po N co) ∧ Below w.heap.size w w' := by
  subst hn
  refine (once_any hE hl hr (by omega)).mono ?_
  rintro e w' ⟨vl, rfl, ho, hb⟩
  rw [hf, if_pos rfl] at ho
  obtain ⟨xs, h1, _⟩ := ho
  obtain ⟨po, co, rfl⟩ := slices_of h1
  exact ⟨po, co, by rw [hN], hb⟩
/-- What was turned about so far. -/
def TnI (w W : World) (o : Value) (l : List V) (j : Nat) : Prop := RowV w w.heap.size W o ((l.drop j).reverse) ∧ Below w.heap.size w W ∧ ∀ v ∈ l.drop j, okV v = true
theorem TnI.step {w wr w2 : World} {ov : Value} {l : List V} {m : Nat} {v : V} (h : TnI w wr ov l (m + 1)) (hd : l.drop m = v :: l.drop (m + 1)) (hn : l.length ≤ 60) (hb : Below wr.heap.size wr w2) {x : Array Value} (hv : VRd w v x) (hok : okV v = true) :
    ∃ v' W2, (Builtin.append_ #[24, 24] 24 #[ov, .slice (some ⟨w2.heap.size, 0, none⟩) 1 1]).run Tryz.prog (w2.alloc (.cells x 26)) = .ok v' W2 ∧ TnI w W2 v' l m := by
  obtain ⟨h1, h2, h3⟩ := h
  have h1 : RowV w w.heap.size wr ov (l.drop (m + 1)).reverse := h1
  have hbn := below_new (w := w2) (.cells x 26)
  have hlen : (l.drop (m + 1)).reverse.length + [v].length ≤ 1000000 := by rw [List.length_reverse, List.length_drop]; simp; omega
  obtain ⟨v', W2, ha, hrow, hlo⟩ := ((h1.below hb).below hbn).step (PieceV.one hv (heap_alloc_new w2 (.cells x 26))) (Nat.le_trans h2.size (Nat.le_trans hb.size hbn.size)) hlen (fun h => by cases h) 24
  refine ⟨v', W2, ha, ?_, (below_trans (below_trans h2 hb) hbn).trans hlo, fun u hu => ?_⟩
  · rw [hd, List.reverse_cons]; exact hrow
  · rw [hd] at hu
    rcases List.mem_cons.1 hu with e | hu
    · rw [e]; exact hok
    · exact h3 u hu
set_option maxRecDepth 100000 in
set_option maxHeartbeats 8000000 in
theorem sorted_law {w : World} {p : Option Addr} {c : Nat} {l : List V} (hE : Env w) (hl : LRd w p c l) (hr : rngVs l) :
    Calls Tryz.prog 13 #[.slice p l.length c] w fun e w' => e = .returned (.bool true) ∧ Below w.heap.size w w' := by
  have z1 : (l.length : Int) ≤ 140737488355328 := by have := hl.1.2.1; omega
  have HWK := Lib.hid (fun (W : World) (hb : Below w.heap.size w W) => (works_any (hE.b hb)).mono (R' := fun e w' => e = .returned (.bool true) ∧ Below w.heap.size w w') fun _ _ h => ⟨h.1, below_trans hb h.2⟩)
  by_cases g1 : 60 < l.length
  · have g1' : (60 : Int) < l.length := by omega
    clear hE hl hr
    go_enter Tryz.func13, Tryz.ntmps13
    go_wp2_with (go_at_call 16; refine (HWK.out _ (Below.refl _ _)).mono ?_; rintro e w9 ⟨rfl, hb⟩; have HB := Lib.hid hb; clear hb)
    go_ret
    exact ⟨rfl, HB.out⟩
  · have g1' : ¬ (60 : Int) < l.length := by omega
    have HSM := Lib.hid (small_any hl)
    by_cases hs : totVs l ≤ 2000
    · rw [decide_eq_true hs] at HSM
      have HE := Lib.hid hE
      have HL := Lib.hid hl
      have HR := Lib.hid (rngVs_iff.1 hr)
      have HS := Lib.hid hs
      clear hE hl hr hs
      go_enter Tryz.func13, Tryz.ntmps13
      go_wp2_with (go_at_call 15; refine HSM.out.mono ?_; rintro e w1 ⟨rfl, hb⟩; have HB := Lib.hid hb; clear hb HSM)
      have HT0 : Hid (TnI w w1 (.slice none 0 0) l l.length) := Lib.hid ⟨by rw [List.drop_length]; exact RowV.start _ _ _, HB.out, by simp⟩
      go_loopw [3, 4] (fun o i wr => ∃ (x : Int) (j : Nat) (ov : Value), x + 1 = (j : Int) ∧ i = .int .i64 x ∧ j ≤ l.length ∧ ov = o ∧ Hid (TnI w wr ov l j)) (fun _ i _ => (intOf i + 1).toNat)
      case atStart => exact ⟨(l.length : Int) - 1, l.length, _, by omega, rfl, Nat.le_refl _, rfl, HT0⟩
      case round =>
        clear HT0 HB
        obtain ⟨x, j, ov, hx, rfl, hj, rfl, HT⟩ := hrel
        by_cases hneg : x < 0
        · obtain rfl : j = 0 := by omega
          have hneg' : ¬ 0 ≤ x := by omega
          obtain ⟨hrow, hbw, hok⟩ := HT.out
          rw [List.drop_zero] at hrow hok
          have hf : fineL l = true := List.all_eq_true.2 hok
          obtain ⟨pt, ct, e1, hlt⟩ := hrow.rd (Nat.le_refl _) hbw (by rw [List.length_reverse]; omega)
          rw [List.length_reverse] at e1
          subst e1
          have HB := Lib.hid hbw
          have HF := Lib.hid (And.intro hf hok)
          have HT2 := Lib.hid hlt
          clear hrow hbw hok hf HT hj hlt hx
          generalize wr = W0 at *
          have HS1 := Lib.hid (fun (W : World) (hb : Below w.heap.size w W) => sorted_fine (HE.out.b hb) (HL.out.below hb) rfl (by have := HS.out; omega) HF.out.1)
          have HS2 := Lib.hid (fun (W : World) (hb : Below W0.heap.size W0 W) => sorted_fine (HE.out.b (below_trans HB.out hb)) (HT2.out.below hb) (List.length_reverse) (by rw [totVs_perm (List.reverse_perm l)]; have := HS.out; omega) (by rw [fineL_perm (List.reverse_perm l)]; exact HF.out.1))
          go_wp2_with (first
            | (go_at_call 55
               (
                 refine (HS1.out _ HB.out).mono ?_
                 rintro e w5 ⟨pa, ca, la, rfl, hla, hpa, hsa, hb5⟩
                 have HA5 := Lib.hid (And.intro hla (And.intro hpa (And.intro hsa (below_trans HB.out hb5))))
                 have HB5 := Lib.hid hb5
                 clear HS1 hla hpa hsa hb5))
            | (go_at_call 55
               (
                 refine (HS2.out _ HB5.out).mono ?_
                 rintro e w6 ⟨pb, cb, lb, rfl, hlb, hpb, hsb, hb6⟩
                 have HA6 := Lib.hid (And.intro hlb (And.intro hpb (And.intro hsb hb6)))
                 clear HS2 hlb hpb hsb hb6)))
          obtain ⟨hla, hpa, hsa, hb5⟩ := HA5.out
          obtain ⟨hlb, hpb, hsb, hb6⟩ := HA6.out
          replace hla := hla.below hb6
          have hmay : ∀ v ∈ la, mayV Lib.validD v = true := fun v hv => fineL_may HF.out.1 v (hpa.mem_iff.1 hv)
          have hee : la = lb := sorted_one (hpa.trans ((List.reverse_perm l).symm.trans hpb.symm)) hsa hsb hmay
          have hlb' : LRd w6 pb cb la := by rw [hee]; exact hlb
          have HLA := Lib.hid hla
          have HLB := Lib.hid hlb'
          have HP := Lib.hid (And.intro hpa (And.intro hsa hpa.length_eq))
          have HW6 := Lib.hid (below_trans hb5 hb6)
          have HSA := Lib.hid (fun (W : World) (hb : Below w.heap.size w W) (v1 v2 : V) (x1 x2 : Array Value) (h1 : v1 ∈ l) (h2 : v2 ∈ l) (k1 : VRd W v1 x1) (k2 : VRd W v2 x2) =>
            (same_any (HE.out.b hb) k1 k2 (by have := totVs_mem h1; have := totVs_mem h2; have := HS.out; omega)).mono (R' := fun e w' => e = .returned (.bool (decide (cmpV v1 v2 = 0))) ∧ Below W.heap.size W w') (fun e w' h => by rw [HF.out.2 v1 h1, HF.out.2 v2 h2] at h; exact h))
          have HCM := Lib.hid (fun (W : World) (hb : Below w.heap.size w W) (v1 v2 : V) (x1 x2 : Array Value) (h1 : v1 ∈ l) (h2 : v2 ∈ l) (k1 : VRd W v1 x1) (k2 : VRd W v2 x2) =>
            (comparePub_any (HE.out.b hb) k1 k2 (by have := totVs_mem h1; have := totVs_mem h2; have := HS.out; omega)).mono (R' := fun e w' => e = .returned (.int .i64 (cmpV v1 v2)) ∧ Below W.heap.size W w') (fun e w' h => by rw [HF.out.2 v1 h1, HF.out.2 v2 h2] at h; exact h))
          clear hla hlb hlb' hpa hpb hsa hsb hmay hee HT2 hb5 hb6 HA5 HA6 HB5
          go_loopw [7] (fun i W => ∃ j : Nat, j ≤ l.length ∧ i = .int .i64 (j : Int) ∧ Hid (Below w6.heap.size w6 W)) (fun i _ => l.length - (intOf i).toNat)
          case atStart => exact ⟨0, Nat.zero_le _, rfl, Lib.hid (Below.refl _ _)⟩
          case round =>
            obtain ⟨j, hj, rfl, HBj⟩ := hrel
            by_cases hjl : j < l.length
            · have hj1 : j + 1 ≤ l.length := hjl
              have hja : j < la.length := by rw [HP.out.2.2]; exact hjl
              obtain ⟨ga, oa, xa, ea, a6, av⟩ := HLA.out.get hja
              subst ea
              obtain ⟨gb, ob, xb, eb, b6, bv⟩ := HLB.out.get hja
              subst eb
              obtain ⟨s, hs⟩ : ∃ s, s = la[j] := ⟨_, rfl⟩
              rw [← hs] at av bv
              have hsl : s ∈ l := HP.out.1.mem_iff.1 (by rw [hs]; exact List.getElem_mem hja)
              have HV := Lib.hid (And.intro (And.intro hsl hs) (And.intro (And.intro a6 b6) (And.intro av bv)))
              clear hsl hs a6 b6 av bv
              go_wp2
              generalize wr = Wj at *
              go_loopw [8, 9, 10] (fun n m k W => ∃ q : Nat, q ≤ l.length ∧ k = .int .i64 (q : Int) ∧ n = .int .i64 ((cntV s (l.take q) : Nat) : Int) ∧ m = .int .i64 ((cntV s (la.take q) : Nat) : Int) ∧ Hid (Below Wj.heap.size Wj W)) (fun _ _ k _ => l.length - (intOf k).toNat)
              case atStart => exact ⟨0, Nat.zero_le _, rfl, by simp [cntV], by simp [cntV], Lib.hid (Below.refl _ _)⟩
              case round =>
                obtain ⟨q, hq, rfl, rfl, rfl, HBi⟩ := hrel
                have hbk : Below w6.heap.size w6 wr := below_trans HBj.out HBi.out
                by_cases hql : q < l.length
                · have hq1 : q + 1 ≤ l.length := hql
                  have hqa : q < la.length := by rw [HP.out.2.2]; exact hql
                  obtain ⟨gl, ol, xl, el, l6, lv⟩ := HL.out.get hql
                  subst el
                  obtain ⟨gk, ok, xk, ek, k6, kv⟩ := HLA.out.get hqa
                  cases ek
                  have c1 := cntV_take s l hql
                  have c2 := cntV_take s la hqa
                  have n1 := cntV_le s (l.take q)
                  have n2 := cntV_le s (la.take q)
                  rw [List.length_take] at n1 n2
                  have HQ1 := Lib.hid (fun (W : World) (hb : Below wr.heap.size wr W) => HSA.out W (below_trans HW6.out (below_trans hbk hb)) l[q] s xl xa (List.getElem_mem hql) HV.out.1.1 (lv.below (below_trans HW6.out (below_trans hbk hb))) (HV.out.2.2.1.below (below_trans hbk hb)))
                  have HQ2 := Lib.hid (fun (W : World) (hb : Below wr.heap.size wr W) => HSA.out W (below_trans HW6.out (below_trans hbk hb)) la[q] s xk xa (HP.out.1.mem_iff.1 (List.getElem_mem hqa)) HV.out.1.1 (kv.below (below_trans hbk hb)) (HV.out.2.2.1.below (below_trans hbk hb)))
                  generalize decide (cmpV l[q] s = 0) = b1 at *
                  generalize decide (cmpV la[q] s = 0) = b2 at *
                  generalize cntV s (l.take q) = m1 at *
                  generalize cntV s (la.take q) = m2 at *
                  have n1' : (m1 : Int) ≤ 60 := by omega
                  have n2' : (m2 : Int) ≤ 60 := by omega
                  have C1 := Lib.hid c1
                  have C2 := Lib.hid c2
                  have H6 := Lib.hid (And.intro (l6.below (below_trans HW6.out hbk)) (And.intro (HV.out.2.1.1.below hbk) (k6.below hbk)))
                  clear c1 c2 n1 n2 l6 k6 lv kv hqa
                  go_wp2
                  have hU := TwoE.start H6.out.1 H6.out.2.1
                  refine plain_region_draws (fun W => TwoE wr gl (ol + q * 6) xl ga (oa + j * 6) xa W) (by kernel_rfl) hU (fun hU => ?_)
                  refine take 0 72 (v := .slice (some ⟨gl, ol, none⟩) l.length c) rfl rfl (by kernel_rfl) (by kernel_rfl) (by kernel_rfl) rfl (fun W hW => exec_move rfl rfl) (by assumption) ?_
                  simp only [Act.put, List.setIfInBounds_toArray, List.set_cons_zero, List.set_cons_succ]
                  refine take 1 73 (v := .int .i64 (q : Int)) rfl rfl (by kernel_rfl) (by kernel_rfl) (by kernel_rfl) rfl (fun W hW => exec_move rfl rfl) (by assumption) ?_
                  simp only [Act.put, List.setIfInBounds_toArray, List.set_cons_zero, List.set_cons_succ]
                  refine take 2 74 (v := .pointer (some ⟨gl, ol + q * 6, none⟩)) rfl rfl (by kernel_rfl) (by kernel_rfl) (by kernel_rfl) rfl (fun W hW => exec_indexAddr rfl rfl rfl (ia_vals _ _ _ _ _ hql W)) (by assumption) ?_
                  simp only [Act.put, List.setIfInBounds_toArray, List.set_cons_zero, List.set_cons_succ]
                  refine take 3 75 (v := .agg xl) rfl rfl (by kernel_rfl) (by kernel_rfl) (by kernel_rfl) rfl (fun W hW => exec_load rfl rfl (load_six hW.one)) (by assumption) ?_
                  simp only [Act.put, List.setIfInBounds_toArray, List.set_cons_zero, List.set_cons_succ]
                  refine take 4 76 (v := .slice (some ⟨ga, oa, none⟩) l.length ca) rfl rfl (by kernel_rfl) (by kernel_rfl) (by kernel_rfl) rfl (fun W hW => exec_move rfl rfl) (by assumption) ?_
                  simp only [Act.put, List.setIfInBounds_toArray, List.set_cons_zero, List.set_cons_succ]
                  refine take 5 77 (v := .int .i64 (j : Int)) rfl rfl (by kernel_rfl) (by kernel_rfl) (by kernel_rfl) rfl (fun W hW => exec_move rfl rfl) (by assumption) ?_
                  simp only [Act.put, List.setIfInBounds_toArray, List.set_cons_zero, List.set_cons_succ]
                  refine take 6 78 (v := .pointer (some ⟨ga, oa + j * 6, none⟩)) rfl rfl (by kernel_rfl) (by kernel_rfl) (by kernel_rfl) rfl (fun W hW => exec_indexAddr rfl rfl rfl (ia_vals _ _ _ _ _ hjl W)) (by assumption) ?_
                  simp only [Act.put, List.setIfInBounds_toArray, List.set_cons_zero, List.set_cons_succ]
                  refine take 7 79 (v := .agg xa) rfl rfl (by kernel_rfl) (by kernel_rfl) (by kernel_rfl) rfl (fun W hW => exec_load rfl rfl (load_six hW.two)) (by assumption) ?_
                  simp only [Act.put, List.setIfInBounds_toArray, List.set_cons_zero, List.set_cons_succ]
                  refine onlyCall 8 80 rfl rfl (by kernel_rfl) rfl (exec_call [.agg xl, .agg xa] rfl rfl Tryz.func21 (by kernel_rfl) (by kernel_rfl)) ?_
                  refine (HQ1.out _ hU.b).mono ?_
                  rintro e w5 ⟨rfl, hb5⟩
                  replace hU := hU.keep hb5
                  refine ⟨_, rfl, .inr (by assumption), ?_⟩
                  simp only [Act.put, List.setIfInBounds_toArray, List.set_cons_zero, List.set_cons_succ]
                  refine done (by kernel_rfl) ?_ _
                  have HB1 := Lib.hid hU.b
                  clear hU hb5
                  cases b1
                  all_goals
                    go_wp2
                    have hU := TwoE.start (H6.out.2.2.below HB1.out) (H6.out.2.1.below HB1.out)
                    refine plain_region_draws (fun W => TwoE w5 ga (oa + q * 6) xk ga (oa + j * 6) xa W) (by kernel_rfl) hU (fun hU => ?_)
                    refine take 0 83 (v := .slice (some ⟨ga, oa, none⟩) l.length ca) rfl rfl (by kernel_rfl) (by kernel_rfl) (by kernel_rfl) rfl (fun W hW => exec_move rfl rfl) (by assumption) ?_
                    simp only [Act.put, List.setIfInBounds_toArray, List.set_cons_zero, List.set_cons_succ]
                    refine take 1 84 (v := .int .i64 (q : Int)) rfl rfl (by kernel_rfl) (by kernel_rfl) (by kernel_rfl) rfl (fun W hW => exec_move rfl rfl) (by assumption) ?_
                    simp only [Act.put, List.setIfInBounds_toArray, List.set_cons_zero, List.set_cons_succ]
                    refine take 2 85 (v := .pointer (some ⟨ga, oa + q * 6, none⟩)) rfl rfl (by kernel_rfl) (by kernel_rfl) (by kernel_rfl) rfl (fun W hW => exec_indexAddr rfl rfl rfl (ia_vals _ _ _ _ _ hql W)) (by assumption) ?_
                    simp only [Act.put, List.setIfInBounds_toArray, List.set_cons_zero, List.set_cons_succ]
                    refine take 3 86 (v := .agg xk) rfl rfl (by kernel_rfl) (by kernel_rfl) (by kernel_rfl) rfl (fun W hW => exec_load rfl rfl (load_six hW.one)) (by assumption) ?_
                    simp only [Act.put, List.setIfInBounds_toArray, List.set_cons_zero, List.set_cons_succ]
                    refine take 4 87 (v := .slice (some ⟨ga, oa, none⟩) l.length ca) rfl rfl (by kernel_rfl) (by kernel_rfl) (by kernel_rfl) rfl (fun W hW => exec_move rfl rfl) (by assumption) ?_
                    simp only [Act.put, List.setIfInBounds_toArray, List.set_cons_zero, List.set_cons_succ]
                    refine take 5 88 (v := .int .i64 (j : Int)) rfl rfl (by kernel_rfl) (by kernel_rfl) (by kernel_rfl) rfl (fun W hW => exec_move rfl rfl) (by assumption) ?_
                    simp only [Act.put, List.setIfInBounds_toArray, List.set_cons_zero, List.set_cons_succ]
                    refine take 6 89 (v := .pointer (some ⟨ga, oa + j * 6, none⟩)) rfl rfl (by kernel_rfl) (by kernel_rfl) (by kernel_rfl) rfl (fun W hW => exec_indexAddr rfl rfl rfl (ia_vals _ _ _ _ _ hjl W)) (by assumption) ?_
                    simp only [Act.put, List.setIfInBounds_toArray, List.set_cons_zero, List.set_cons_succ]
                    refine take 7 90 (v := .agg xa) rfl rfl (by kernel_rfl) (by kernel_rfl) (by kernel_rfl) rfl (fun W hW => exec_load rfl rfl (load_six hW.two)) (by assumption) ?_
                    simp only [Act.put, List.setIfInBounds_toArray, List.set_cons_zero, List.set_cons_succ]
                    refine onlyCall 8 91 rfl rfl (by kernel_rfl) rfl (exec_call [.agg xk, .agg xa] rfl rfl Tryz.func21 (by kernel_rfl) (by kernel_rfl)) ?_
                    refine (HQ2.out _ (below_trans HB1.out hU.b)).mono ?_
                    rintro e w7 ⟨rfl, hb7⟩
                    replace hU := hU.keep hb7
                    refine ⟨_, rfl, .inr (by assumption), ?_⟩
                    simp only [Act.put, List.setIfInBounds_toArray, List.set_cons_zero, List.set_cons_succ]
                    refine done (by kernel_rfl) ?_ _
                    have HB2 := Lib.hid (below_trans HB1.out hU.b)
                    clear hU hb7
                    cases b2
                    all_goals
                      go_wp2
                      go_roundw
                      case rel => exact ⟨q + 1, hq1, by go_num, congrArg (Value.int .i64) (by have := C1.out; simp at this; omega), congrArg (Value.int .i64) (by have := C2.out; simp at this; omega), Lib.hid (below_trans HBi.out HB2.out)⟩
                      case measure => simp [intOf]; omega
                · obtain rfl : q = l.length := by omega
                  have e1 : l.take l.length = l := List.take_length
                  have e2 : la.take l.length = la := by rw [← HP.out.2.2]; exact List.take_length
                  have e3 : cntV s la = cntV s l := cntV_perm s HP.out.1
                  have hN : 0 < cntV s l := cntV_pos HV.out.1.1
                  have hN2 := cntV_le s l
                  rw [e1, e2, e3]
                  clear e1 e2 e3
                  generalize cntV s l = N at *
                  have eNN : ∀ W : World, (binOp .neq 3 (.int .i64 (N : Int)) (.int .i64 (N : Int))).run Tryz.prog W = .ok (.bool false) W := fun W => by simp [go_sem]
                  have eN0 : ∀ W : World, (binOp .eql 3 (.int .i64 (N : Int)) (.int .i64 0)).run Tryz.prog W = .ok (.bool false) W := fun W => by simp [go_sem]; omega
                  have hb5' : Below w.heap.size w wr := below_trans HW6.out hbk
                  have HS5 := Lib.hid (fun (W : World) (hb : Below wr.heap.size wr W) => HSA.out W (below_trans hb5' hb) s s xa xb HV.out.1.1 HV.out.1.1 (HV.out.2.2.1.below (below_trans hbk hb)) (HV.out.2.2.2.below (below_trans hbk hb)))
                  rw [show decide (cmpV s s = 0) = true by simp [(ord_cmpV s).self]] at HS5
                  have hU := TwoE.start (HV.out.2.1.1.below hbk) (HV.out.2.1.2.below hbk)
                  have HBE := Lib.hid hbk
                  by_cases hj0 : j = 0
                  · have eJ : ∀ W : World, (binOp .gtr 3 (.int .i64 (j : Int)) (.int .i64 0)).run Tryz.prog W = .ok (.bool false) W := fun W => by simp [go_sem, hj0]
                    clear hj0 hN hN2 hbk hb5'
                    go_wp2
                    refine plain_region_draws (fun W => TwoE wr ga (oa + j * 6) xa gb (ob + j * 6) xb W) (by kernel_rfl) hU (fun hU => ?_)
                    refine take 0 94 (v := .int .i64 (N : Int)) rfl rfl (by kernel_rfl) (by kernel_rfl) (by kernel_rfl) rfl (fun W hW => exec_move rfl rfl) (by assumption) ?_
                    simp only [Act.put, List.setIfInBounds_toArray, List.set_cons_zero, List.set_cons_succ]
                    refine take 1 95 (v := .int .i64 (N : Int)) rfl rfl (by kernel_rfl) (by kernel_rfl) (by kernel_rfl) rfl (fun W hW => exec_move rfl rfl) (by assumption) ?_
                    simp only [Act.put, List.setIfInBounds_toArray, List.set_cons_zero, List.set_cons_succ]
                    refine take 2 96 (v := .bool false) rfl rfl (by kernel_rfl) (by kernel_rfl) (by kernel_rfl) rfl (fun W hW => exec_bini rfl rfl rfl (eNN W)) (by assumption) ?_
                    simp only [Act.put, List.setIfInBounds_toArray, List.set_cons_zero, List.set_cons_succ]
                    refine take 3 97 (v := .bool false) rfl rfl (by kernel_rfl) (by kernel_rfl) (by kernel_rfl) rfl (fun W hW => exec_move rfl rfl) (by assumption) ?_
                    simp only [Act.put, List.setIfInBounds_toArray, List.set_cons_zero, List.set_cons_succ]
                    refine take 4 98 (v := .int .i64 (N : Int)) rfl rfl (by kernel_rfl) (by kernel_rfl) (by kernel_rfl) rfl (fun W hW => exec_move rfl rfl) (by assumption) ?_
                    simp only [Act.put, List.setIfInBounds_toArray, List.set_cons_zero, List.set_cons_succ]
                    refine take 5 99 (v := .bool false) rfl rfl (by kernel_rfl) (by kernel_rfl) (by kernel_rfl) rfl (fun W hW => exec_bini rfl rfl rfl (eN0 W)) (by assumption) ?_
                    simp only [Act.put, List.setIfInBounds_toArray, List.set_cons_zero, List.set_cons_succ]
                    refine take 6 100 (v := .bool false) rfl rfl (by kernel_rfl) (by kernel_rfl) (by kernel_rfl) rfl (fun W hW => rfl) (by assumption) ?_
                    simp only [Act.put, List.setIfInBounds_toArray, List.set_cons_zero, List.set_cons_succ]
                    refine take 7 101 (v := .bool false) rfl rfl (by kernel_rfl) (by kernel_rfl) (by kernel_rfl) rfl (fun W hW => exec_move rfl rfl) (by assumption) ?_
                    simp only [Act.put, List.setIfInBounds_toArray, List.set_cons_zero, List.set_cons_succ]
                    refine take 8 102 (v := .slice (some ⟨ga, oa, none⟩) l.length ca) rfl rfl (by kernel_rfl) (by kernel_rfl) (by kernel_rfl) rfl (fun W hW => exec_move rfl rfl) (by assumption) ?_
                    simp only [Act.put, List.setIfInBounds_toArray, List.set_cons_zero, List.set_cons_succ]
                    refine take 9 103 (v := .int .i64 (j : Int)) rfl rfl (by kernel_rfl) (by kernel_rfl) (by kernel_rfl) rfl (fun W hW => exec_move rfl rfl) (by assumption) ?_
                    simp only [Act.put, List.setIfInBounds_toArray, List.set_cons_zero, List.set_cons_succ]
                    refine take 10 104 (v := .pointer (some ⟨ga, oa + j * 6, none⟩)) rfl rfl (by kernel_rfl) (by kernel_rfl) (by kernel_rfl) rfl (fun W hW => exec_indexAddr rfl rfl rfl (ia_vals _ _ _ _ _ hjl W)) (by assumption) ?_
                    simp only [Act.put, List.setIfInBounds_toArray, List.set_cons_zero, List.set_cons_succ]
                    refine take 11 105 (v := .agg xa) rfl rfl (by kernel_rfl) (by kernel_rfl) (by kernel_rfl) rfl (fun W hW => exec_load rfl rfl (load_six hW.one)) (by assumption) ?_
                    simp only [Act.put, List.setIfInBounds_toArray, List.set_cons_zero, List.set_cons_succ]
                    refine take 12 106 (v := .slice (some ⟨gb, ob, none⟩) l.length cb) rfl rfl (by kernel_rfl) (by kernel_rfl) (by kernel_rfl) rfl (fun W hW => exec_move rfl rfl) (by assumption) ?_
                    simp only [Act.put, List.setIfInBounds_toArray, List.set_cons_zero, List.set_cons_succ]
                    refine take 13 107 (v := .int .i64 (j : Int)) rfl rfl (by kernel_rfl) (by kernel_rfl) (by kernel_rfl) rfl (fun W hW => exec_move rfl rfl) (by assumption) ?_
                    simp only [Act.put, List.setIfInBounds_toArray, List.set_cons_zero, List.set_cons_succ]
                    refine take 14 108 (v := .pointer (some ⟨gb, ob + j * 6, none⟩)) rfl rfl (by kernel_rfl) (by kernel_rfl) (by kernel_rfl) rfl (fun W hW => exec_indexAddr rfl rfl rfl (ia_vals _ _ _ _ _ hjl W)) (by assumption) ?_
                    simp only [Act.put, List.setIfInBounds_toArray, List.set_cons_zero, List.set_cons_succ]
                    refine take 15 109 (v := .agg xb) rfl rfl (by kernel_rfl) (by kernel_rfl) (by kernel_rfl) rfl (fun W hW => exec_load rfl rfl (load_six hW.two)) (by assumption) ?_
                    simp only [Act.put, List.setIfInBounds_toArray, List.set_cons_zero, List.set_cons_succ]
                    refine onlyCall 16 110 rfl rfl (by kernel_rfl) rfl (exec_call [.agg xa, .agg xb] rfl rfl Tryz.func21 (by kernel_rfl) (by kernel_rfl)) ?_
                    refine (HS5.out _ hU.b).mono ?_
                    rintro e w5 ⟨rfl, hb5⟩
                    replace hU := hU.keep hb5
                    refine ⟨_, rfl, .inr (by assumption), ?_⟩
                    simp only [Act.put, List.setIfInBounds_toArray, List.set_cons_zero, List.set_cons_succ]
                    refine take 17 111 (v := .bool false) rfl rfl (by kernel_rfl) (by kernel_rfl) (by kernel_rfl) rfl (fun W hW => exec_unot (b := true) rfl rfl) (by assumption) ?_
                    simp only [Act.put, List.setIfInBounds_toArray, List.set_cons_zero, List.set_cons_succ]
                    refine take 18 112 (v := .bool false) rfl rfl (by kernel_rfl) (by kernel_rfl) (by kernel_rfl) rfl (fun W hW => rfl) (by assumption) ?_
                    simp only [Act.put, List.setIfInBounds_toArray, List.set_cons_zero, List.set_cons_succ]
                    refine take 19 113 (v := .bool false) rfl rfl (by kernel_rfl) (by kernel_rfl) (by kernel_rfl) rfl (fun W hW => exec_move rfl rfl) (by assumption) ?_
                    simp only [Act.put, List.setIfInBounds_toArray, List.set_cons_zero, List.set_cons_succ]
                    refine take 20 114 (v := .int .i64 (j : Int)) rfl rfl (by kernel_rfl) (by kernel_rfl) (by kernel_rfl) rfl (fun W hW => exec_move rfl rfl) (by assumption) ?_
                    simp only [Act.put, List.setIfInBounds_toArray, List.set_cons_zero, List.set_cons_succ]
                    refine take 21 115 (v := .bool false) rfl rfl (by kernel_rfl) (by kernel_rfl) (by kernel_rfl) rfl (fun W hW => exec_bini rfl rfl rfl (eJ W)) (by assumption) ?_
                    simp only [Act.put, List.setIfInBounds_toArray, List.set_cons_zero, List.set_cons_succ]
                    refine take 22 116 (v := .bool false) rfl rfl (by kernel_rfl) (by kernel_rfl) (by kernel_rfl) rfl (fun W hW => exec_move rfl rfl) (by assumption) ?_
                    simp only [Act.put, List.setIfInBounds_toArray, List.set_cons_zero, List.set_cons_succ]
                    refine takeNot 23 117 rfl rfl (by kernel_rfl) (by kernel_rfl) (by kernel_rfl) rfl (by assumption) ?_
                    simp only [Act.put, List.setIfInBounds_toArray, List.set_cons_zero, List.set_cons_succ]
                    refine takeNot 24 118 rfl rfl (by kernel_rfl) (by kernel_rfl) (by kernel_rfl) rfl (by assumption) ?_
                    simp only [Act.put, List.setIfInBounds_toArray, List.set_cons_zero, List.set_cons_succ]
                    refine takeNot 25 119 rfl rfl (by kernel_rfl) (by kernel_rfl) (by kernel_rfl) rfl (by assumption) ?_
                    simp only [Act.put, List.setIfInBounds_toArray, List.set_cons_zero, List.set_cons_succ]
                    refine takeNot 26 120 rfl rfl (by kernel_rfl) (by kernel_rfl) (by kernel_rfl) rfl (by assumption) ?_
                    simp only [Act.put, List.setIfInBounds_toArray, List.set_cons_zero, List.set_cons_succ]
                    refine takeNot 27 121 rfl rfl (by kernel_rfl) (by kernel_rfl) (by kernel_rfl) rfl (by assumption) ?_
                    simp only [Act.put, List.setIfInBounds_toArray, List.set_cons_zero, List.set_cons_succ]
                    refine takeNot 28 122 rfl rfl (by kernel_rfl) (by kernel_rfl) (by kernel_rfl) rfl (by assumption) ?_
                    simp only [Act.put, List.setIfInBounds_toArray, List.set_cons_zero, List.set_cons_succ]
                    refine takeNot 29 123 rfl rfl (by kernel_rfl) (by kernel_rfl) (by kernel_rfl) rfl (by assumption) ?_
                    simp only [Act.put, List.setIfInBounds_toArray, List.set_cons_zero, List.set_cons_succ]
                    refine takeNot 30 124 rfl rfl (by kernel_rfl) (by kernel_rfl) (by kernel_rfl) rfl (by assumption) ?_
                    simp only [Act.put, List.setIfInBounds_toArray, List.set_cons_zero, List.set_cons_succ]
                    refine takeNot 31 125 rfl rfl (by kernel_rfl) (by kernel_rfl) (by kernel_rfl) rfl (by assumption) ?_
                    simp only [Act.put, List.setIfInBounds_toArray, List.set_cons_zero, List.set_cons_succ]
                    refine takeNot 32 126 rfl rfl (by kernel_rfl) (by kernel_rfl) (by kernel_rfl) rfl (by assumption) ?_
                    simp only [Act.put, List.setIfInBounds_toArray, List.set_cons_zero, List.set_cons_succ]
                    refine takeNot 33 127 rfl rfl (by kernel_rfl) (by kernel_rfl) (by kernel_rfl) rfl (by assumption) ?_
                    simp only [Act.put, List.setIfInBounds_toArray, List.set_cons_zero, List.set_cons_succ]
                    refine take 34 128 (v := .bool false) rfl rfl (by kernel_rfl) (by kernel_rfl) (by kernel_rfl) rfl (fun W hW => rfl) (by assumption) ?_
                    simp only [Act.put, List.setIfInBounds_toArray, List.set_cons_zero, List.set_cons_succ]
                    refine take 35 129 (v := .bool false) rfl rfl (by kernel_rfl) (by kernel_rfl) (by kernel_rfl) rfl (fun W hW => rfl) (by assumption) ?_
                    simp only [Act.put, List.setIfInBounds_toArray, List.set_cons_zero, List.set_cons_succ]
                    refine done (by kernel_rfl) ?_ _
                    have HB2 := Lib.hid (below_trans HBE.out hU.b)
                    clear hU hb5 eNN eN0 eJ
                    go_wp2
                    go_roundw
                    case rel => exact ⟨j + 1, hj1, by go_num, HB2⟩
                    case measure => simp [intOf]; omega
                  · obtain ⟨m, hm⟩ : ∃ m : Nat, j = m + 1 := ⟨j - 1, by omega⟩
                    have hml : m < l.length := by omega
                    have hma : m < la.length := by omega
                    obtain ⟨gm, om, xm, em, h6m, mv⟩ := HLA.out.get hma
                    cases em
                    have eJ : ∀ W : World, (binOp .gtr 3 (.int .i64 (j : Int)) (.int .i64 0)).run Tryz.prog W = .ok (.bool true) W := fun W => by simp [go_sem]; omega
                    have eM : ∀ W : World, (binOp .sub 3 (.int .i64 (j : Int)) (.int .i64 1)).run Tryz.prog W = .ok (.int .i64 (m : Int)) W := fun W => by
                      have : (j : Int) - 1 = (m : Int) := by omega
                      have h2 : IntKind.i64.wrap ((j : Int) - 1) = (m : Int) := by rw [this]; simp [IntKind.wrap, IntKind.bits, IntKind.signed]; omega
                      simp [go_sem, h2]
                    have hC : cmpV la[m] s ≤ 0 := by
                      rw [HV.out.1.2]
                      exact List.pairwise_iff_getElem.1 HP.out.2.1 m j hma hja (by omega)
                    have HC5 := Lib.hid (fun (W : World) (hb : Below wr.heap.size wr W) => HCM.out W (below_trans hb5' hb) la[m] s xm xa (HP.out.1.mem_iff.1 (List.getElem_mem hma)) HV.out.1.1 (mv.below (below_trans hbk hb)) (HV.out.2.2.1.below (below_trans hbk hb)))
                    generalize cmpV la[m] s = C at *
                    have eC : ∀ W : World, (binOp .gtr 3 (.int .i64 C) (.int .i64 0)).run Tryz.prog W = .ok (.bool false) W := fun W => by simp [go_sem]; omega
                    have h6m := h6m.below hbk
                    clear hj0 hN hN2 hbk hb5' hm mv hC
                    go_wp2
                    refine plain_region_draws (fun W => TwoE wr ga (oa + j * 6) xa gb (ob + j * 6) xb W) (by kernel_rfl) hU (fun hU => ?_)
                    refine take 0 94 (v := .int .i64 (N : Int)) rfl rfl (by kernel_rfl) (by kernel_rfl) (by kernel_rfl) rfl (fun W hW => exec_move rfl rfl) (by assumption) ?_
                    simp only [Act.put, List.setIfInBounds_toArray, List.set_cons_zero, List.set_cons_succ]
                    refine take 1 95 (v := .int .i64 (N : Int)) rfl rfl (by kernel_rfl) (by kernel_rfl) (by kernel_rfl) rfl (fun W hW => exec_move rfl rfl) (by assumption) ?_
                    simp only [Act.put, List.setIfInBounds_toArray, List.set_cons_zero, List.set_cons_succ]
                    refine take 2 96 (v := .bool false) rfl rfl (by kernel_rfl) (by kernel_rfl) (by kernel_rfl) rfl (fun W hW => exec_bini rfl rfl rfl (eNN W)) (by assumption) ?_
                    simp only [Act.put, List.setIfInBounds_toArray, List.set_cons_zero, List.set_cons_succ]
                    refine take 3 97 (v := .bool false) rfl rfl (by kernel_rfl) (by kernel_rfl) (by kernel_rfl) rfl (fun W hW => exec_move rfl rfl) (by assumption) ?_
                    simp only [Act.put, List.setIfInBounds_toArray, List.set_cons_zero, List.set_cons_succ]
                    refine take 4 98 (v := .int .i64 (N : Int)) rfl rfl (by kernel_rfl) (by kernel_rfl) (by kernel_rfl) rfl (fun W hW => exec_move rfl rfl) (by assumption) ?_
                    simp only [Act.put, List.setIfInBounds_toArray, List.set_cons_zero, List.set_cons_succ]
                    refine take 5 99 (v := .bool false) rfl rfl (by kernel_rfl) (by kernel_rfl) (by kernel_rfl) rfl (fun W hW => exec_bini rfl rfl rfl (eN0 W)) (by assumption) ?_
                    simp only [Act.put, List.setIfInBounds_toArray, List.set_cons_zero, List.set_cons_succ]
                    refine take 6 100 (v := .bool false) rfl rfl (by kernel_rfl) (by kernel_rfl) (by kernel_rfl) rfl (fun W hW => rfl) (by assumption) ?_
                    simp only [Act.put, List.setIfInBounds_toArray, List.set_cons_zero, List.set_cons_succ]
                    refine take 7 101 (v := .bool false) rfl rfl (by kernel_rfl) (by kernel_rfl) (by kernel_rfl) rfl (fun W hW => exec_move rfl rfl) (by assumption) ?_
                    simp only [Act.put, List.setIfInBounds_toArray, List.set_cons_zero, List.set_cons_succ]
                    refine take 8 102 (v := .slice (some ⟨ga, oa, none⟩) l.length ca) rfl rfl (by kernel_rfl) (by kernel_rfl) (by kernel_rfl) rfl (fun W hW => exec_move rfl rfl) (by assumption) ?_
                    simp only [Act.put, List.setIfInBounds_toArray, List.set_cons_zero, List.set_cons_succ]
                    refine take 9 103 (v := .int .i64 (j : Int)) rfl rfl (by kernel_rfl) (by kernel_rfl) (by kernel_rfl) rfl (fun W hW => exec_move rfl rfl) (by assumption) ?_
                    simp only [Act.put, List.setIfInBounds_toArray, List.set_cons_zero, List.set_cons_succ]
                    refine take 10 104 (v := .pointer (some ⟨ga, oa + j * 6, none⟩)) rfl rfl (by kernel_rfl) (by kernel_rfl) (by kernel_rfl) rfl (fun W hW => exec_indexAddr rfl rfl rfl (ia_vals _ _ _ _ _ hjl W)) (by assumption) ?_
                    simp only [Act.put, List.setIfInBounds_toArray, List.set_cons_zero, List.set_cons_succ]
                    refine take 11 105 (v := .agg xa) rfl rfl (by kernel_rfl) (by kernel_rfl) (by kernel_rfl) rfl (fun W hW => exec_load rfl rfl (load_six hW.one)) (by assumption) ?_
                    simp only [Act.put, List.setIfInBounds_toArray, List.set_cons_zero, List.set_cons_succ]
                    refine take 12 106 (v := .slice (some ⟨gb, ob, none⟩) l.length cb) rfl rfl (by kernel_rfl) (by kernel_rfl) (by kernel_rfl) rfl (fun W hW => exec_move rfl rfl) (by assumption) ?_
                    simp only [Act.put, List.setIfInBounds_toArray, List.set_cons_zero, List.set_cons_succ]
                    refine take 13 107 (v := .int .i64 (j : Int)) rfl rfl (by kernel_rfl) (by kernel_rfl) (by kernel_rfl) rfl (fun W hW => exec_move rfl rfl) (by assumption) ?_
                    simp only [Act.put, List.setIfInBounds_toArray, List.set_cons_zero, List.set_cons_succ]
                    refine take 14 108 (v := .pointer (some ⟨gb, ob + j * 6, none⟩)) rfl rfl (by kernel_rfl) (by kernel_rfl) (by kernel_rfl) rfl (fun W hW => exec_indexAddr rfl rfl rfl (ia_vals _ _ _ _ _ hjl W)) (by assumption) ?_
                    simp only [Act.put, List.setIfInBounds_toArray, List.set_cons_zero, List.set_cons_succ]
                    refine take 15 109 (v := .agg xb) rfl rfl (by kernel_rfl) (by kernel_rfl) (by kernel_rfl) rfl (fun W hW => exec_load rfl rfl (load_six hW.two)) (by assumption) ?_
                    simp only [Act.put, List.setIfInBounds_toArray, List.set_cons_zero, List.set_cons_succ]
                    refine onlyCall 16 110 rfl rfl (by kernel_rfl) rfl (exec_call [.agg xa, .agg xb] rfl rfl Tryz.func21 (by kernel_rfl) (by kernel_rfl)) ?_
                    refine (HS5.out _ hU.b).mono ?_
                    rintro e w5 ⟨rfl, hb5⟩
                    replace hU := hU.keep hb5
                    refine ⟨_, rfl, .inr (by assumption), ?_⟩
                    simp only [Act.put, List.setIfInBounds_toArray, List.set_cons_zero, List.set_cons_succ]
                    refine take 17 111 (v := .bool false) rfl rfl (by kernel_rfl) (by kernel_rfl) (by kernel_rfl) rfl (fun W hW => exec_unot (b := true) rfl rfl) (by assumption) ?_
                    simp only [Act.put, List.setIfInBounds_toArray, List.set_cons_zero, List.set_cons_succ]
                    refine take 18 112 (v := .bool false) rfl rfl (by kernel_rfl) (by kernel_rfl) (by kernel_rfl) rfl (fun W hW => rfl) (by assumption) ?_
                    simp only [Act.put, List.setIfInBounds_toArray, List.set_cons_zero, List.set_cons_succ]
                    refine take 19 113 (v := .bool false) rfl rfl (by kernel_rfl) (by kernel_rfl) (by kernel_rfl) rfl (fun W hW => exec_move rfl rfl) (by assumption) ?_
                    simp only [Act.put, List.setIfInBounds_toArray, List.set_cons_zero, List.set_cons_succ]
                    refine take 20 114 (v := .int .i64 (j : Int)) rfl rfl (by kernel_rfl) (by kernel_rfl) (by kernel_rfl) rfl (fun W hW => exec_move rfl rfl) (by assumption) ?_
                    simp only [Act.put, List.setIfInBounds_toArray, List.set_cons_zero, List.set_cons_succ]
                    refine take 21 115 (v := .bool true) rfl rfl (by kernel_rfl) (by kernel_rfl) (by kernel_rfl) rfl (fun W hW => exec_bini rfl rfl rfl (eJ W)) (by assumption) ?_
                    simp only [Act.put, List.setIfInBounds_toArray, List.set_cons_zero, List.set_cons_succ]
                    refine take 22 116 (v := .bool true) rfl rfl (by kernel_rfl) (by kernel_rfl) (by kernel_rfl) rfl (fun W hW => exec_move rfl rfl) (by assumption) ?_
                    simp only [Act.put, List.setIfInBounds_toArray, List.set_cons_zero, List.set_cons_succ]
                    refine take 23 117 (v := .slice (some ⟨ga, oa, none⟩) l.length ca) rfl rfl (by kernel_rfl) (by kernel_rfl) (by kernel_rfl) rfl (fun W hW => exec_move rfl rfl) (by assumption) ?_
                    simp only [Act.put, List.setIfInBounds_toArray, List.set_cons_zero, List.set_cons_succ]
                    refine take 24 118 (v := .int .i64 (j : Int)) rfl rfl (by kernel_rfl) (by kernel_rfl) (by kernel_rfl) rfl (fun W hW => exec_move rfl rfl) (by assumption) ?_
                    simp only [Act.put, List.setIfInBounds_toArray, List.set_cons_zero, List.set_cons_succ]
                    refine take 25 119 (v := .int .i64 (m : Int)) rfl rfl (by kernel_rfl) (by kernel_rfl) (by kernel_rfl) rfl (fun W hW => exec_bini rfl rfl rfl (eM W)) (by assumption) ?_
                    simp only [Act.put, List.setIfInBounds_toArray, List.set_cons_zero, List.set_cons_succ]
                    refine take 26 120 (v := .pointer (some ⟨ga, oa + m * 6, none⟩)) rfl rfl (by kernel_rfl) (by kernel_rfl) (by kernel_rfl) rfl (fun W hW => exec_indexAddr rfl rfl rfl (ia_vals _ _ _ _ _ hml W)) (by assumption) ?_
                    simp only [Act.put, List.setIfInBounds_toArray, List.set_cons_zero, List.set_cons_succ]
                    refine take 27 121 (v := .agg xm) rfl rfl (by kernel_rfl) (by kernel_rfl) (by kernel_rfl) rfl (fun W hW => exec_load rfl rfl (load_six (h6m.below hW.b))) (by assumption) ?_
                    simp only [Act.put, List.setIfInBounds_toArray, List.set_cons_zero, List.set_cons_succ]
                    refine take 28 122 (v := .slice (some ⟨ga, oa, none⟩) l.length ca) rfl rfl (by kernel_rfl) (by kernel_rfl) (by kernel_rfl) rfl (fun W hW => exec_move rfl rfl) (by assumption) ?_
                    simp only [Act.put, List.setIfInBounds_toArray, List.set_cons_zero, List.set_cons_succ]
                    refine take 29 123 (v := .int .i64 (j : Int)) rfl rfl (by kernel_rfl) (by kernel_rfl) (by kernel_rfl) rfl (fun W hW => exec_move rfl rfl) (by assumption) ?_
                    simp only [Act.put, List.setIfInBounds_toArray, List.set_cons_zero, List.set_cons_succ]
                    refine take 30 124 (v := .pointer (some ⟨ga, oa + j * 6, none⟩)) rfl rfl (by kernel_rfl) (by kernel_rfl) (by kernel_rfl) rfl (fun W hW => exec_indexAddr rfl rfl rfl (ia_vals _ _ _ _ _ hjl W)) (by assumption) ?_
                    simp only [Act.put, List.setIfInBounds_toArray, List.set_cons_zero, List.set_cons_succ]
                    refine take 31 125 (v := .agg xa) rfl rfl (by kernel_rfl) (by kernel_rfl) (by kernel_rfl) rfl (fun W hW => exec_load rfl rfl (load_six hW.one)) (by assumption) ?_
                    simp only [Act.put, List.setIfInBounds_toArray, List.set_cons_zero, List.set_cons_succ]
                    refine onlyCall 32 126 rfl rfl (by kernel_rfl) rfl (exec_call [.agg xm, .agg xa] rfl rfl Tryz.func20 (by kernel_rfl) (by kernel_rfl)) ?_
                    refine (HC5.out _ hU.b).mono ?_
                    rintro e w5 ⟨rfl, hb5⟩
                    replace hU := hU.keep hb5
                    refine ⟨_, rfl, .inr (by assumption), ?_⟩
                    simp only [Act.put, List.setIfInBounds_toArray, List.set_cons_zero, List.set_cons_succ]
                    refine take 33 127 (v := .bool false) rfl rfl (by kernel_rfl) (by kernel_rfl) (by kernel_rfl) rfl (fun W hW => exec_bini rfl rfl rfl (eC W)) (by assumption) ?_
                    simp only [Act.put, List.setIfInBounds_toArray, List.set_cons_zero, List.set_cons_succ]
                    refine take 34 128 (v := .bool false) rfl rfl (by kernel_rfl) (by kernel_rfl) (by kernel_rfl) rfl (fun W hW => rfl) (by assumption) ?_
                    simp only [Act.put, List.setIfInBounds_toArray, List.set_cons_zero, List.set_cons_succ]
                    refine take 35 129 (v := .bool false) rfl rfl (by kernel_rfl) (by kernel_rfl) (by kernel_rfl) rfl (fun W hW => rfl) (by assumption) ?_
                    simp only [Act.put, List.setIfInBounds_toArray, List.set_cons_zero, List.set_cons_succ]
                    refine done (by kernel_rfl) ?_ _
                    have HB2 := Lib.hid (below_trans HBE.out hU.b)
                    clear hU hb5 eNN eN0 eJ eM eC h6m
                    go_wp2
                    go_roundw
                    case rel => exact ⟨j + 1, hj1, by go_num, HB2⟩
                    case measure => simp [intOf]; omega
            · obtain rfl : j = l.length := by omega
              have hU : Below wr.heap.size wr wr.drew := (Below.refl _ _).drew
              have hbk : Below w6.heap.size w6 wr := HBj.out
              have HO1 := Lib.hid (fun (W : World) (hb : Below wr.heap.size wr W) => once_fine (N := (onceL l).length) (HE.out.b (below_trans HW6.out (below_trans hbk hb))) (HL.out.below (below_trans HW6.out (below_trans hbk hb))) rfl HR.out (by have := HS.out; omega) HF.out.1 rfl)
              have HO2 := Lib.hid (fun (W : World) (hb : Below wr.heap.size wr W) => once_fine (N := (onceL l).length) (HE.out.b (below_trans HW6.out (below_trans hbk hb))) (HLA.out.below (below_trans hbk hb)) HP.out.2.2 (fun v hv => HR.out v (HP.out.1.mem_iff.1 hv)) (by rw [totVs_perm HP.out.1]; have := HS.out; omega) (by rw [fineL_perm HP.out.1]; exact HF.out.1) (once_perm HP.out.1))
              generalize (onceL l).length = N at *
              have HBE := Lib.hid (below_trans HW6.out hbk)
              clear hbk hU
              go_wp2_with (first
                | (go_at_call 49
                   (
                     refine (HO1.out _ (Below.refl _ _)).mono ?_
                     rintro e w7 ⟨po, co, rfl, hb7⟩
                     have HB7 := Lib.hid hb7
                     clear HO1 hb7))
                | (go_at_call 49
                   (
                     refine (HO2.out _ HB7.out).mono ?_
                     rintro e w8 ⟨pq, cq, rfl, hb8⟩
                     have HB8 := Lib.hid (below_trans HBE.out (below_trans HB7.out hb8))
                     clear HO2 hb8))
                | (go_at_call 16; refine (HWK.out _ HB8.out).mono ?_; rintro e w9 ⟨rfl, hb⟩; have HB := Lib.hid hb; clear hb))
              go_ret
              exact ⟨rfl, HB.out⟩
        · obtain ⟨m, rfl⟩ : ∃ m : Nat, x = (m : Int) := ⟨x.toNat, by omega⟩
          obtain rfl : j = m + 1 := by omega
          have hlt : m < l.length := by omega
          have hml : m ≤ l.length := by omega
          obtain ⟨g1, o1, pk1, ck1, pl1, cl1, rfl, ⟨b0, b1, b2, b3, b4, b5⟩, hv1⟩ := HL.out.at hlt
          have hbw := HT.out.2.1
          have a0 := belowCell hbw (ltOf b0) b0
          have a1 := belowCell hbw (ltOf b1) b1
          have a2 := belowCell hbw (ltOf b2) b2
          have a3 := belowCell hbw (ltOf b3) b3
          have a4 := belowCell hbw (ltOf b4) b4
          have a5 := belowCell hbw (ltOf b5) b5
          have hdc : l.drop m = l[m] :: l.drop (m + 1) := List.drop_eq_getElem_cons hlt
          have hc := check_ok (HE.out.b hbw) (hv1.below hbw) (by have := totVs_mem (List.getElem_mem hlt); have := HS.out; omega)
          have hokv : okV l[m] = (checkV Lib.validD l[m] == 0) := rfl
          generalize checkV Lib.validD l[m] = E at *
          generalize l[m] = s1 at *
          have HD := Lib.hid (And.intro hdc (And.intro (show l.length ≤ 60 by omega) (And.intro hv1 hokv)))
          have HC := Lib.hid hc
          clear b0 b1 b2 b3 b4 b5 hdc hc hv1 hbw hx hneg hokv
          by_cases e : E = 0
          · have d : (E != 0) = false := by simp [e]
            have HEE := Lib.hid e
            clear e
            go_wp2_with (first
              | (go_at_call 45
                 (
                   refine HC.out.mono ?_
                   rintro e w2 ⟨rfl, hb⟩
                   have c0 := belowCell hb (ltOf a0) a0
                   have c1 := belowCell hb (ltOf a1) a1
                   have c2 := belowCell hb (ltOf a2) a2
                   have c3 := belowCell hb (ltOf a3) a3
                   have c4 := belowCell hb (ltOf a4) a4
                   have c5 := belowCell hb (ltOf a5) a5
                   obtain ⟨v', W2, ha, hN⟩ := HT.out.step HD.out.1 HD.out.2.1 hb HD.out.2.2.1 (by rw [HD.out.2.2.2, HEE.out]; rfl)
                   have HN := Lib.hid hN
                   have Ha := Lib.hid ha
                   clear ha hN hb a0 a1 a2 a3 a4 a5 HC))
              | (go_at_call 33; refine (num_any _ _).mono ?_; rintro e w' ⟨rfl, rfl⟩)
              | (refine wpList_append rfl rfl rfl rfl Ha.out ?_))
            go_roundw
            case rel => exact ⟨(m : Int) - 1, m, v', by omega, by go_num, hml, rfl, HN⟩
            case measure => simp [intOf]
          · have d : (E != 0) = true := by simpa using e
            clear e
            go_wp2_with (first
              | (go_at_call 45; refine HC.out.mono ?_; rintro e w2 ⟨rfl, hb⟩; have HB := Lib.hid (below_trans HT.out.2.1 hb); clear hb HC a0 a1 a2 a3 a4 a5)
              | (go_at_call 33; refine (num_any _ _).mono ?_; rintro e w' ⟨rfl, rfl⟩)
              | (go_at_call 16; refine (HWK.out _ HB.out).mono ?_; rintro e w9 ⟨rfl, hb⟩; have HB2 := Lib.hid hb; clear hb))
            go_ret
            exact ⟨rfl, HB2.out⟩
    · rw [decide_eq_false hs] at HSM
      clear hE hl hr hs
      go_enter Tryz.func13, Tryz.ntmps13
      go_wp2_with (first
        | (go_at_call 15; refine HSM.out.mono ?_; rintro e w1 ⟨rfl, hb⟩; have HB0 := Lib.hid hb; clear hb HSM)
        | (go_at_call 16; refine (HWK.out _ HB0.out).mono ?_; rintro e w9 ⟨rfl, hb⟩; have HB := Lib.hid hb; clear hb))
      go_ret
      exact ⟨rfl, HB.out⟩
end Go.Proofs.YtnkaegdnjfpliaaGreatDoor

/-! ValueSorted: for every row of values the law returns true, and the arguments read as they did. The listed tables of Go's library read as the program's text lays them. -/
namespace Go.Proofs.YtnkaegdnjfpliaaGreatDoor
set_option linter.unusedSimpArgs false
set_option linter.unusedVariables false
open Go.ChangeShapes Go.WideShapes Go.ChangeAt Go.RowKit Go.Joins

set_option maxRecDepth 100000 in
theorem valueSorted_lifted (os : Os) (started : os.Started) (H : Type) (enc : TypeId × Value → H) :
    ReturnsInHanded {} Tryz.checked os 13 .any (fun w args => (Rows.valueSortedSpec.pre enc Tryz.prog Tryz.f13 [] false w args ∧ laidMetH Tryz.prog LD w) ∧ sizedMet enc Tryz.prog Tryz.f13 (OpenSpec.ofChange Rows.valueSortedSpec) false w args)
      (Rows.valueSortedSpec.post enc Tryz.prog Tryz.f13 false true false false) := by
  refine returns_tied started (by kernel_rfl) Tryz.func13 #[.slice none 0 0] (by kernel_rfl) (by kernel_rfl) (by kernel_rfl) (wit_shape _ _) (wit_laid _ _) ?_
  intro W base args ds gs before hval0 hW hz hE
  have hval : ∀ (j : Nat) t v, Tryz.f13.params[j]? = some t → args[j]? = some v → Value.okWide Tryz.prog W .any base t v := hval0
  have hW' := hW
  obtain ⟨p, q, hA0, hV, rfl, hfz, hnd⟩ := hW
  have hA : DataW.TrodAll enc Tryz.prog W 0 (fun _ => true) true Tryz.f13.params.toList args.toList ds p := hA0
  rw [Tryz.params13] at hA hval
  obtain ⟨v0, vs0, d0, ds0, p0, q0, hargs, rfl, rfl, h0, r0⟩ := trodAll_cons hA
  obtain ⟨rfl, rfl, rfl⟩ := trodAll_nil r0
  obtain ⟨rfl, rfl⟩ := trodVars_none hV
  obtain rfl : args = #[v0] := by cases args; simp_all
  rw [Tryz.params13] at hz
  have z0 := fits_one hz
  obtain ⟨b0, c0, a0, rfl, hx0, hr0⟩ := vals_in (hval 0 24 v0 rfl rfl) h0 z0
  clear hA0 hval0
  refine (sorted_law hE hx0 hr0).mono fun e W' ⟨he, hg⟩ => ?_
  subst he
  exact ⟨_, rfl, law_post laidT (by decide +kernel) Tryz.underlying4 (by kernel_rfl) rfl hW' rfl hg⟩
theorem valueSorted_row : Rows.ValueSortedSaid :=
  OpenClaim.holds_of_wide 13 Tryz.f13 rfl rfl rfl rfl rfl rfl rfl ⟨rfl, rfl, rfl, rfl, rfl⟩ rfl rfl rfl rfl rfl (by kernel_rfl) Tryz.func13 (by kernel_rfl)
    (of_decide_eq_true (by kernel_rfl)) (by unfold Func.isWrapper; first | (rw [if_pos (by decide +kernel)]; kernel_rfl) | (rw [if_neg (by decide +kernel)]; exact ⟨rfl, rfl⟩))
    (fun os started H enc _ => valueSorted_lifted os started H enc)
theorem sorted_law_holds : Rows.ValueSortedCardSaid :=
  Claim7.holds_tied_plain_at .later [] [.data, .data, .data, .data, .pinned] true (true, "541050135a4ae63573153b942905868de3e811d8a5bb89e3a2a615778747f658") true
    valueSorted_row (fun _ h => by cases h) (by kernel_rfl) (fun _ h => by cases h) valueSorted_row_tie rfl ⟨rfl, rfl⟩ (by kernel_rfl) rfl
    (fun f fn hf hfn => by
      obtain rfl : f = 13 := Option.some.inj ((show Tryz.prog.funcNamed "lattice/latticelaw01.ValueSorted" = some 13 by kernel_rfl).symm.trans hf) |>.symm
      obtain rfl : fn = Tryz.f13 := (Option.some.inj (Tryz.func13.symm.trans hfn)).symm
      exact ⟨by kernel_rfl, fun j t ht => by
        rw [Tryz.params13] at ht
        have hm : t ∈ [24] := by simpa using Array.mem_of_getElem? ht
        have hall : ([24].all fun u => !Tryz.prog.wantsStandIn u) = true := by kernel_rfl
        exact (show Tryz.prog.wantsStandIn t = false by simpa using List.all_eq_true.1 hall t hm)⟩)
    (by kernel_rfl)
#print axioms sorted_law_holds
end Go.Proofs.YtnkaegdnjfpliaaGreatDoor
