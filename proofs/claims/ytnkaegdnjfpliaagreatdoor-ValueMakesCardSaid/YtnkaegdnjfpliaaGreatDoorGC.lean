/- Texts that the proofs of this layer share. -/
import Derived.Test.YtnkaegdnjfpliaaGreatDoorGB
import Derived.RecoverIn
import Derived.Test.YtnkaegdnjfpliaaGreatDoorGA
import Derived.Lib.ItoaLen
import Derived.Lib.AppendIntMem
import Derived.Test.YtnkaegdnjfpliaaGreatDoorRows
import Derived.Below
import Derived.ChangeSame
import Derived.WalkKit
import Derived.ProofKit
import Derived.OpenShut
import Derived.Carry
import Derived.Lib.SmallJoins
import Derived.Deep.Slices
import Derived.SliceStrings
import Derived.Lib.LaidU8
import Derived.Shelf.Vars
import Derived.Lay
import Derived.LaidMore
import Derived.HandedShaped
import Derived.Stop.Joined
/-! value.Check. -/
namespace Go.Proofs.YtnkaegdnjfpliaaGreatDoor
set_option linter.unusedSimpArgs false
set_option linter.unusedVariables false
open Go.RowKit

/-- What is given up with. -/
abbrev greatV : Value := .iface 93 (.agg #[])
/-- The deferred closure, in a frame that returns: it turns nothing. -/
theorem caught_idle (q : Addr) (w : World) :
    CallsDIn FW 0 Tryz.prog 84 #[.pointer (some q)] .returning w fun e u' w' => e = .returned (.tuple #[]) ∧ u' = .returning ∧ w' = w := by
  have hnil : ∀ w : World, (binOp BinOp.eql 20 .nilIface .nilIface).run Tryz.prog w = .ok (.bool true) w := fun _ => by kernel_rfl
  refine callsDIn_of_wpSIn Tryz.func84 rfl trivial fun c₀ cs hu => ?_
  apply wpSIn_seq
  apply wpSIn_region
  simp [wpOpsSIn, go_sem, recoverD, hu, Tryz.ntmps84, Exit.thenS]
  have e : (#[.pointer (some q)] ++ (Array.replicate 9 undef).setIfInBounds 3 Value.nilIface : Array Value) = #[.pointer (some q), undef, undef, undef, .nilIface, undef, undef, undef, undef, undef] := rfl
  rw [e]
  clear e
  refine wpSIn_of_wpIn rfl ((wpIn_wide (n := 0)).2 ?_)
  have HU := Lib.hid hu
  clear hu
  go_wp2
  refine ⟨rfl, .returning, ?_, _, results_none rfl _ _ _, rfl, rfl, rfl⟩
  have hu := HU.out
  cases c₀
  simp_all
theorem put_errno {w : World} {ad : Addr} {n : Int} {u : Value} (hc : w.cell? ad = some u) (hf : w.frozen? ad = false) : (storeVar 34 ad (.int .i64 n)).run Tryz.prog w = .ok () (w.setCell ad (.int .i64 n)) := by
  simp [storeVar, go_sem, hc, hf]
set_option maxRecDepth 100000 in
set_option maxHeartbeats 1000000 in
/-- .. in one that was given up: too great. -/
theorem caught_great {w : World} {Q : Nat} {z : Int} (hq : w.heap[Q]? = some (.cells #[.int .i64 z] 34 (0, 0))) :
    CallsDIn FW 0 Tryz.prog 84 #[.pointer (some ⟨Q, 0, none⟩)] (.panicking [{ v := greatV, recovered := false }]) w fun e u' w' =>
      e = .returned (.tuple #[]) ∧ u' = .panicking [{ v := greatV, recovered := true }] ∧ w'.heap[Q]? = some (.cells #[.int .i64 3] 34 (0, 0)) ∧ Touch (fun x => x = Q) w w' := by
  have hnil : ∀ w : World, (binOp BinOp.eql 20 greatV .nilIface).run Tryz.prog w = .ok (.bool false) w := fun _ => by rfl
  have hta : ∀ w : World, (Instr.typeAssert greatV 20 93 true).run Tryz.prog w = .ok (.tuple #[.agg #[], .bool true]) w := fun _ => by rfl
  have hB : Below w.heap.size w (w.alloc (.cells #[] 93)) := below_new _
  have hQ := (Array.getElem?_eq_some_iff.1 hq).1
  have hq1 := belowBlk hB hQ hq
  have hcell := box_set (k := 0) (.int .i64 3) hq1
  have hT : Touch (fun x => x = Q) w ((w.alloc (.cells #[] 93)).setCell ⟨Q, 0, none⟩ (.int .i64 3)) := ((Touch.refl _ _).alloc _).setCell (.inl (by exact rfl)) _
  have HS := Lib.hid (put_errno (n := 3) (cellOf (o := 0) hq1 rfl) (freeOf (o := 0) hq1))
  have HF := Lib.hid (And.intro hcell hT)
  clear hB hQ hq1 hcell hT hq
  refine callsDIn_of_wpSIn Tryz.func84 rfl trivial fun c₀ cs hu => ?_
  apply wpSIn_seq
  apply wpSIn_region
  simp [wpOpsSIn, go_sem, recoverD, hu, Tryz.ntmps84, Exit.thenS]
  have e : (#[.pointer (some ⟨Q, 0, none⟩)] ++ (Array.replicate 9 undef).setIfInBounds 3 greatV : Array Value) = #[.pointer (some ⟨Q, 0, none⟩), undef, undef, undef, greatV, undef, undef, undef, undef, undef] := rfl
  rw [e]
  clear e
  refine wpSIn_of_wpIn rfl ((wpIn_wide (n := 0)).2 ?_)
  have HU := Lib.hid hu
  clear hu
  go_wp2_with (refine wpList_store rfl _ _ _ _ rfl rfl rfl HS.out ?_)
  refine ⟨rfl, .panicking [{ v := greatV, recovered := true }], ?_, _, results_none rfl _ _ _, rfl, rfl, HF.out⟩
  rfl

theorem all_any (x : Array Value) (c0 c1 c2 c3 c4 c5 : Value) (hx : x = #[c0, c1, c2, c3, c4, c5]) (w : World) : Calls Tryz.prog 85 #[.agg x] w fun e w' => e = .returned (.func (.func 112) #[] #[.pointer (some ⟨w.heap.size, 0, none⟩)]) ∧ w' = w.alloc (.cells x 26) := by
  subst hx
  go_enter Tryz.func85, Tryz.ntmps85
  go_wp2
  go_ret
  exact ⟨rfl, rfl⟩
/-- A function that deferred a closure and holds one range over a function leaves. -/
theorem leave_two {P : Program} {fn : Func} {tmps : Array Value} {R : Ending → World → Prop} {D : Nat} {W : World} {u : FrameMode} {f : FuncId} {fv : Fn} {cap dargs args : Array Value} (hu : u ≠ .run) (h : W.heap[D]? = some (.deferred (some [])))
    (hi : (invoke (.fn fv cap) dargs).run P (W.putObj D (.deferred none)) = .ok (.enter f args) (W.putObj D (.deferred none)))
    (hc : CallsDIn FW 0 P f args u (W.putObj D (.deferred none)) fun e u' w' => e = .returned (.tuple #[]) ∧ settle u' = .returning ∧ ∃ v, (results fn tmps).run P w' = .ok v w' ∧ R (.returned v) w') :
    LeavesInM FW 0 P fn tmps R [{ target := .collected D, args := #[] }, { target := .fn fv cap, args := dargs }] u W := by
  refine ⟨hu, .inl ⟨D, _, rfl, run_takeD h, hu, .inr ⟨fun h => by simp [Fence.wide] at h, fv, cap, f, args, rfl, hi, fun _ _ => trivial, hc.mono ?_⟩⟩⟩
  rintro e u' w' ⟨rfl, h1, v, h2, h3⟩
  show LeavesInM FW 0 P fn tmps R [] (settle u') w'
  rw [h1]
  exact ⟨v, h2, h3⟩

/-! What the loop sums up. -/
def ownB (v : V) : Nat := v.text.length + (v.keys.map List.length).sum
def sumB (pre : List (Nat × V)) : Nat := (pre.map fun e => ownB e.2).sum
def overB (pre : List (Nat × V)) : Bool := pre.any (fun e => decide (64 < e.1)) || pre.any (fun e => decide (65536 < e.2.list.length)) || decide (1048576 < sumB pre)
def allB (pre : List (Nat × V)) : Bool := pre.all fun e => oneV Lib.validD e.2
theorem sumB_snoc (pre : List (Nat × V)) (e : Nat × V) : sumB (pre ++ [e]) = sumB pre + ownB e.2 := by unfold sumB; rw [List.map_append, List.sum_append]; simp
theorem sumB_append (a b : List (Nat × V)) : sumB (a ++ b) = sumB a + sumB b := by unfold sumB; rw [List.map_append, List.sum_append]
theorem overB_snoc (pre : List (Nat × V)) (e : Nat × V) : overB (pre ++ [e]) = (overB pre || decide (64 < e.1) || decide (65536 < e.2.list.length) || decide (1048576 < sumB pre + ownB e.2)) := by
  unfold overB
  rw [sumB_snoc, List.any_append, List.any_append]
  have h : (decide (1048576 < sumB pre) || decide (1048576 < sumB pre + ownB e.2)) = decide (1048576 < sumB pre + ownB e.2) := by
    by_cases h : 1048576 < sumB pre
    · have : 1048576 < sumB pre + ownB e.2 := by omega
      simp [h, this]
    · simp [h]
  generalize decide (1048576 < sumB pre) = a at *
  generalize decide (1048576 < sumB pre + ownB e.2) = b at *
  simp only [List.any_cons, List.any_nil, Bool.or_false]
  generalize pre.any _ = c
  generalize pre.any _ = c'
  generalize decide (64 < e.1) = f
  generalize decide (65536 < _) = g
  cases a <;> cases b <;> cases c <;> cases c' <;> cases f <;> cases g <;> simp_all
theorem sums_pre : ∀ v : V, ∀ d, sumB (preV d v) = bytesV v ∧ allB (preV d v) = mayV Lib.validD v ∧ (∀ K, (preV d v).any (fun e => decide (K < e.1)) = decide (K + 1 < d + deepV v)) ∧ (∀ K, (preV d v).any (fun e => decide (K < e.2.list.length)) = decide (K < longV v)) := by
  refine V.ind fun k b n t ks l ih => ?_
  intro d
  have hl : ∀ (m : List V), (∀ v ∈ m, v ∈ l) → ∀ d, sumB (preVs d m) = bytesVs m ∧ allB (preVs d m) = mayVs Lib.validD m ∧ (∀ K, (preVs d m).any (fun e => decide (K < e.1)) = decide (m ≠ [] ∧ K + 1 < d + deepVs m)) ∧ (∀ K, (preVs d m).any (fun e => decide (K < e.2.list.length)) = decide (K < longVs m)) := by
    intro m
    induction m with
    | nil => intro _ d; exact ⟨rfl, rfl, fun K => by simp [preVs], fun K => by simp [preVs, longVs]⟩
    | cons a r ihr =>
      intro hm d
      obtain ⟨h1, h2, h3, h4⟩ := ih a (hm a (by simp)) d
      obtain ⟨g1, g2, g3, g4⟩ := ihr (fun v hv => hm v (by simp [hv])) d
      have hd : 1 ≤ deepV a := by cases a; rw [deepV]; omega
      refine ⟨by rw [preVs, sumB_append, h1, g1, bytesVs], ?_, fun K => ?_, fun K => ?_⟩
      · unfold allB at *; rw [preVs, List.all_append, h2, g2, mayVs]
      · rw [preVs, List.any_append, h3, g3, deepVs, Bool.eq_iff_iff]
        simp only [Bool.or_eq_true, decide_eq_true_eq]
        constructor
        · rintro (h | ⟨_, h⟩)
          · exact ⟨by simp, by have := Nat.le_max_left (deepV a) (deepVs r); omega⟩
          · exact ⟨by simp, by have := Nat.le_max_right (deepV a) (deepVs r); omega⟩
        · rintro ⟨_, h⟩
          rcases Nat.le_total (deepV a) (deepVs r) with e | e
          · rw [Nat.max_eq_right e] at h
            refine .inr ⟨fun e0 => ?_, h⟩
            subst e0; rw [deepVs] at e; omega
          · rw [Nat.max_eq_left e] at h; exact .inl h
      · rw [preVs, List.any_append, h4, g4, longVs, Bool.eq_iff_iff]
        simp only [Bool.or_eq_true, decide_eq_true_eq]
        omega
  obtain ⟨g1, g2, g3, g4⟩ := hl l (fun v hv => hv) (d + 1)
  refine ⟨?_, ?_, fun K => ?_, fun K => ?_⟩
  · rw [preV, bytesV, ← g1]; unfold sumB; simp [ownB, V.text, V.keys]
  · rw [preV, mayV, ← g2]; rfl
  · rw [preV, List.any_cons, g3, deepV, Bool.eq_iff_iff]
    simp only [Bool.or_eq_true, decide_eq_true_eq]
    constructor
    · rintro (h | ⟨_, h⟩) <;> omega
    · intro h
      by_cases hK : K < d
      · exact .inl hK
      · refine .inr ⟨fun e0 => ?_, by omega⟩
        subst e0; rw [deepVs] at h; omega
  · rw [preV, List.any_cons, g4, longV, Bool.eq_iff_iff]
    simp only [Bool.or_eq_true, decide_eq_true_eq]
    show (K < l.length ∨ K < longVs l) ↔ K < max l.length (longVs l)
    omega
theorem overB_pre (v : V) : overB (preV 1 v) = (decide (64 < deepV v) || decide (1048576 < bytesV v) || decide (65536 < longV v)) := by
  obtain ⟨h1, _, h3, h4⟩ := sums_pre v 1
  unfold overB
  rw [h1, h3, h4]
  have e : decide (64 + 1 < 1 + deepV v) = decide (64 < deepV v) := by rw [decide_eq_decide]; omega
  rw [e, Bool.or_assoc, Bool.or_assoc, Bool.or_comm (decide (65536 < longV v))]
theorem checkV_eq (v : V) : checkV Lib.validD v = if allB (preV 1 v) then (if overB (preV 1 v) then 3 else 0) else 110 := by
  unfold checkV; rw [overB_pre, (sums_pre v 1).2.1]

/-- Check's own blocks: what it answers, how many bytes, whether it is too great. -/
structure MidC (w : World) (B : Nat) (x : Array Value) (n : Nat) (ov : Bool) (W : World) : Prop where
  below : Below w.heap.size w W
  box : W.heap[B]? = some (.cells x 26 (0, 0))
  res : W.heap[w.heap.size + 1]? = some (.cells #[.int .i64 0] 34 (0, 0))
  sum : W.heap[w.heap.size + 2]? = some (.cells #[.int .i64 (n : Int)] 3 (0, 0))
  over : W.heap[w.heap.size + 3]? = some (.cells #[.bool ov] 4 (0, 0))
theorem MidC.touch {w W W' : World} {B : Nat} {x : Array Value} {n : Nat} {ov : Bool} {S : Nat → Prop} (h : MidC w B x n ov W) (g : Touch S W W') (h1 : ∀ b, b ≤ w.heap.size + 4 → ¬ S b) (hB : ¬ S B) : MidC w B x n ov W' :=
  ⟨g.below h.below (fun b hb => h1 b (by omega)) h.below.size, g.heap h.box hB, g.heap h.res (h1 _ (by omega)), g.heap h.sum (h1 _ (by omega)), g.heap h.over (h1 _ (by omega))⟩
theorem MidC.setSum {w W : World} {B : Nat} {x : Array Value} {n : Nat} {ov : Bool} (h : MidC w B x n ov W) (hB : w.heap.size + 4 ≤ B) (m : Nat) : MidC w B x m ov (W.setCell ⟨w.heap.size + 2, 0, none⟩ (.int .i64 (m : Int))) := by
  have o : ∀ b, b ≠ w.heap.size + 2 → (W.setCell ⟨w.heap.size + 2, 0, none⟩ (.int .i64 (m : Int))).heap[b]? = W.heap[b]? := fun b hb => Below.heap_setCell _ _ _ _ hb
  exact ⟨belowSet h.below (by omega) _, (o _ (by omega)).trans h.box, (o _ (by omega)).trans h.res, box_set _ h.sum, (o _ (by omega)).trans h.over⟩
theorem MidC.setOver {w W : World} {B : Nat} {x : Array Value} {n : Nat} {ov : Bool} (h : MidC w B x n ov W) (hB : w.heap.size + 4 ≤ B) (m : Bool) : MidC w B x n m (W.setCell ⟨w.heap.size + 3, 0, none⟩ (.bool m)) := by
  have o : ∀ b, b ≠ w.heap.size + 3 → (W.setCell ⟨w.heap.size + 3, 0, none⟩ (.bool m)).heap[b]? = W.heap[b]? := fun b hb => Below.heap_setCell _ _ _ _ hb
  exact ⟨belowSet h.below (by omega) _, (o _ (by omega)).trans h.box, (o _ (by omega)).trans h.res, (o _ (by omega)).trans h.sum, box_set _ h.over⟩
theorem put_n {w : World} {ad : Addr} {n : Int} {u : Value} (hc : w.cell? ad = some u) (hf : w.frozen? ad = false) : (storeVar 3 ad (.int .i64 n)).run Tryz.prog w = .ok () (w.setCell ad (.int .i64 n)) := by
  simp [storeVar, go_sem, hc, hf]
theorem put_b {w : World} {ad : Addr} {n : Bool} {u : Value} (hc : w.cell? ad = some u) (hf : w.frozen? ad = false) : (storeVar 4 ad (.bool n)).run Tryz.prog w = .ok () (w.setCell ad (.bool n)) := by
  simp [storeVar, go_sem, hc, hf]
/-- Which blocks a round turns. -/
def SC (w : World) (b : Nat) : Prop := b = w.heap.size + 1 ∨ b = w.heap.size + 2 ∨ b = w.heap.size + 3
theorem bytes_tot : ∀ v : V, bytesV v ≤ totV v := by
  refine V.ind fun k b n t ks l ih => ?_
  have hl : ∀ m : List V, (∀ v ∈ m, v ∈ l) → bytesVs m ≤ totVs m := by
    intro m
    induction m with
    | nil => intro _; simp [bytesVs]
    | cons a r ihr => intro hm; rw [bytesVs, totVs_cons]; have := ih a (hm a (by simp)); have := ihr (fun v hv => hm v (by simp [hv])); omega
  rw [bytesV, totV_mk]
  have := hl l (fun v hv => hv)
  omega
set_option maxRecDepth 100000 in
set_option maxHeartbeats 4000000 in
theorem check_ok {v : V} {w : World} {x : Array Value} (hE : Env w) (hx : VRd w v x) (ht : totV v ≤ 1099511627776) :
    Calls Tryz.prog 45 #[.agg x] w fun e w' => e = .returned (.int .i64 (checkV Lib.validD v)) ∧ Below w.heap.size w w' := by
  have hC := checkV_eq v
  have hbt := bytes_tot v
  have hsb := (sums_pre v 1).1
  have hx0 := hx
  obtain ⟨pk, ck, pl, cl, rfl, _, hk1, hl1⟩ := hx.open
  have HX := Lib.hid hx0
  have HE := Lib.hid hE
  have HC := Lib.hid hC
  clear hk1 hl1 hx hx0 hE hC
  refine calls_of_wp_marks Tryz.func45 rfl ?_
  simp only [Tryz.ntmps45, List.size_toArray, List.length_cons, List.length_nil, Nat.reduceAdd, Nat.reduceSub, Array.replicate_succ, Array.replicate_zero, List.push_toArray, List.append_toArray, List.nil_append, List.cons_append]
  go_wp2_with (go_at_call 85; refine (all_any _ _ _ _ _ _ _ rfl _).mono ?_; rintro e w' ⟨rfl, rfl⟩)
  generalize hw1 : ((((w.alloc _).alloc _).alloc _).alloc _).alloc _ = W1
  have hM : MidC w (w.heap.size + 4) #[.int .i64 v.kind, .bool v.b, .int .i64 v.n, .string (strB v.text), .slice pk v.keys.length ck, .slice pl v.list.length cl] 0 false W1 := by
    rw [← hw1]
    refine ⟨((((below_new _).alloc (by simp) _).alloc (by simp; omega) _).alloc (by simp; omega) _).alloc (by simp; omega) _, ?_, ?_, ?_, ?_⟩ <;>
    · simp only [heap_get_alloc, World.size_alloc]; repeat (first | rfl | rw [if_pos (by omega)] | rw [if_neg (by omega)])
  have hs1 : W1.heap.size = w.heap.size + 5 := by rw [← hw1]; simp
  clear hw1
  refine wp_rangeA (gf := 112) (gfn := Tryz.f112) (lb := #[.pointer (some ⟨w.heap.size + 4, 0, none⟩)]) rfl Tryz.func112 rfl rfl
    (iter_all (w0 := w) (w.heap.size + 4) HX.out (by omega)) (fun _ => rfl)
    (fun pre W => MidC w (w.heap.size + 4) #[.int .i64 v.kind, .bool v.b, .int .i64 v.n, .string (strB v.text), .slice pk v.keys.length ck, .slice pl v.list.length cl] (sumB (pre.map dv)) (overB (pre.map dv)) W ∧ allB (pre.map dv) = true)
    (fun c W => c = .ret ∧ Below w.heap.size w W ∧ W.heap[w.heap.size + 1]? = some (.cells #[.int .i64 110] 34 (0, 0)) ∧ allB (preV 1 v) = false)
    (SC w) (fun b hb => by unfold SC at hb; omega) ?h0 ?hpre ?hkeep ?hput ?hputx ?hround ?hdone ?hstop
  case h0 =>
    intro W hB' hsz
    exact ⟨hM.touch (Touch.of_below hB' (S := fun b => W1.heap.size ≤ b) (fun b _ hb => hb)) (fun b hb => by omega) (by omega), rfl⟩
  case hpre => exact fun pre W h => ⟨h.1.below, h.1.box⟩
  case hkeep => exact fun pre W W' h hs hk => ⟨h.1.touch hk (fun b hb => by omega) (by omega), h.2⟩
  case hput =>
    intro pre W o h
    have hp : Touch (fun b => b = W1.heap.size + 1) W (W.putObj (W1.heap.size + 1) o) := (Touch.refl _ _).putObj (.inl (by exact rfl)) o
    exact ⟨h.1.touch hp (fun b hb => by omega) (by omega), h.2⟩
  case hputx =>
    rintro c W o ⟨h1, h2, h3, h4⟩
    have hp : Touch (fun b => b = W1.heap.size + 1) W (W.putObj (W1.heap.size + 1) o) := (Touch.refl _ _).putObj (.inl (by exact rfl)) o
    exact ⟨h1, below_putObj h2 (by omega), hp.heap h3 (by omega), h4⟩
  case hround =>
    rintro r0 r' pre ⟨d, s1, x1⟩ W hok ⟨hI, hgood⟩ hsz hl
    have hv1 : VRd w s1 x1 := hok.2 _ (List.mem_append_right _ (List.mem_singleton.2 rfl))
    obtain ⟨rest, hrest⟩ := hok.1
    rw [List.map_append] at hrest
    have hrest2 : preV 1 v = (pre.map dv ++ [(d, s1)]) ++ rest := hrest
    have hsum : sumB (pre.map dv) + ownB s1 ≤ 1099511627776 := by
      rw [hrest2, sumB_append, sumB_snoc] at hsb
      simp only at hsb
      omega
    have hmem : (d, s1) ∈ preV 1 v := by rw [hrest2]; simp
    have hdv : (pre ++ [((d, s1, x1) : Yd)]).map dv = pre.map dv ++ [(d, s1)] := by rw [List.map_append]; rfl
    have hov := overB_snoc (pre.map dv) (d, s1)
    have hsn := sumB_snoc (pre.map dv) (d, s1)
    have hal : allB (pre.map dv ++ [(d, s1)]) = oneV Lib.validD s1 := by unfold allB at *; rw [List.all_append, hgood]; simp
    have hbad : oneV Lib.validD s1 = false → allB (preV 1 v) = false := fun h => by
      unfold allB
      rw [List.all_eq_false]
      exact ⟨_, hmem, by simp [h]⟩
    have hcall := fun (W' : World) (hb : Below w.heap.size w W') => may_any (HE.out.b hb) (hv1.below hb)
    obtain ⟨pk1, ck1, pl1, cl1, rfl, htx, hk1, hl1⟩ := hv1.open
    rw [hdv]
    simp only at hov hsn
    generalize oneV Lib.validD s1 = on at *
    have HD := Lib.hid (And.intro hov (And.intro hsn (And.intro hal (And.intro hbad (And.intro hcall (And.intro hk1 hsum))))))
    clear hv1 hrest hrest2 hmem hdv hov hsn hal hbad hcall hsb hbt hM hok
    generalize sumB (pre.map dv) = sm at *
    generalize overB (pre.map dv) = ob at *
    generalize sumB (pre.map dv ++ [(d, s1)]) = sm' at *
    generalize overB (pre.map dv ++ [(d, s1)]) = ob' at *
    generalize allB (pre.map dv ++ [(d, s1)]) = al' at *
    simp only [encY]
    refine wpIn_seq_k (fun K1 hK1 => ?_)
    refine round_region (by kernel_rfl) ?_
    go_wp2
    refine hK1 _ _ ?_
    refine round_region (by kernel_rfl) ?_
    go_wp2
    have hA := below_new (w := W) (.cells #[.int .i64 s1.kind, .bool s1.b, .int .i64 s1.n, .string (strB s1.text), .slice pk1 s1.keys.length ck1, .slice pl1 s1.list.length cl1] 26)
    have hAn := heap_alloc_new W (.cells #[.int .i64 s1.kind, .bool s1.b, .int .i64 s1.n, .string (strB s1.text), .slice pk1 s1.keys.length ck1, .slice pl1 s1.list.length cl1] 26)
    have hllt := (Array.getElem?_eq_some_iff.1 hl).1
    refine ⟨Touch.of_below hA (fun b h1 h2 => absurd h1 (by omega)), belowBlk hA hllt hl, fun w₂ hw2 => ?_⟩
    have hp : Touch (fun b => b = W1.heap.size + 1) (W.alloc (.cells #[.int .i64 s1.kind, .bool s1.b, .int .i64 s1.n, .string (strB s1.text), .slice pk1 s1.keys.length ck1, .slice pl1 s1.list.length cl1] 26)) w₂ := by rw [hw2]; exact (Touch.refl _ _).putObj (.inl (by exact rfl)) _
    have hI2 := (hI.touch (Touch.of_below hA (S := fun _ => False) (fun b h1 h2 => absurd h1 (by omega))) (fun _ _ h => h) (fun h => h)).touch hp (fun b hb => by omega) (by omega)
    have h6 := hp.heap hAn (by omega)
    have hlt6 : w.heap.size + 5 < W.heap.size := by omega
    clear hw2 hp hA hAn hI hl hllt
    generalize W.heap.size = b6 at *
    have H6 := Lib.hid (get_val h6)
    have HI := Lib.hid (And.intro hI2 (And.intro h6 (And.intro hlt6 hs1)))
    clear hI2 h6 hlt6 hs1 hsz hgood
    refine wpIn_block ?_
    refine wpIn_seq_k (fun K2 hK2 => ?_)
    refine wpIn_seq_k (fun K3 hK3 => ?_)
    refine round_region (by kernel_rfl) ?_
    go_wp2_with (first
      | (refine wpList_load rfl _ _ _ rfl rfl H6.out ?_)
      | (go_at_call 86
         (
           refine (HD.out.2.2.2.2.1 _ HI.out.1.below).mono ?_
           rintro e w3 ⟨rfl, hb3⟩
           have HB3 := Lib.hid hb3
           clear hb3)))
    refine hK3 _ _ ?_
    have hT3 : Touch (SC w) w₂ w3 := Touch.of_below HB3.out (fun b h1 h2 => absurd h1 (by omega))
    have hI3 := HI.out.1.touch (S := fun _ => False) (Touch.of_below HB3.out (fun b h1 h2 => absurd h1 (by omega))) (fun _ _ h => h) (fun h => h)
    have h63 := belowBlk HB3.out (Array.getElem?_eq_some_iff.1 HI.out.2.1).1 HI.out.2.1
    clear HB3 H6
    cases on with
    | false =>
      have hst := put_errno (n := 110) (cellOf (o := 0) hI3.res rfl) (freeOf (o := 0) hI3.res)
      have hcell := box_set (k := 0) (.int .i64 110) hI3.res
      have hT4 : Touch (SC w) w₂ (w3.setCell ⟨w.heap.size + 1, 0, none⟩ (.int .i64 110)) := hT3.setCell (.inl (.inl rfl)) _
      have hb4 := belowSet (b := w.heap.size + 1) (o := 0) hI3.below (by omega) (.int .i64 110)
      generalize w3.setCell ⟨w.heap.size + 1, 0, none⟩ (.int .i64 110) = w4 at *
      have HS := Lib.hid hst
      have HF := Lib.hid (And.intro hT4 (And.intro hb4 hcell))
      clear hst hcell hT4 hb4 hT3 hI3 h63
      refine wpIn_cond_true rfl ?_
      refine wpIn_seq_k (fun K4 hK4 => ?_)
      refine round_region (by kernel_rfl) ?_
      go_wp2_with (refine wpList_store rfl _ _ _ _ rfl rfl rfl HS.out ?_)
      refine hK4 _ _ ?_
      refine wpIn_ret ?_
      exact ⟨HF.out.1, rfl, HF.out.2.1, HF.out.2.2, HD.out.2.2.2.1 (by simp)⟩
    | true =>
      refine wpIn_cond_false rfl ?_
      refine wpIn_skip ?_
      refine hK2 _ _ ?_
      have hsz1 : (strB s1.text).size = s1.text.length := rfl
      have q3 := cellOf (o := 0) hI3.sum rfl
      have q63 := cellOf (o := 3) h63 rfl
      have hst := put_n (n := (sm : Int) + (s1.text.length : Int)) (cellOf (o := 0) hI3.sum rfl) (freeOf (o := 0) hI3.sum)
      have hI4 := hI3.setSum (by omega) (sm + s1.text.length)
      rw [Int.natCast_add] at hI4
      have hT4 : Touch (SC w) w₂ (w3.setCell ⟨w.heap.size + 2, 0, none⟩ (.int .i64 ((sm : Int) + (s1.text.length : Int)))) := hT3.setCell (.inl (.inr (.inl rfl))) _
      have h64 := (Below.heap_setCell w3 ⟨w.heap.size + 2, 0, none⟩ (.int .i64 ((sm : Int) + (s1.text.length : Int))) b6 (by show b6 ≠ w.heap.size + 2; have := HI.out.2.2.1; omega)).trans h63
      generalize w3.setCell ⟨w.heap.size + 2, 0, none⟩ (.int .i64 ((sm : Int) + (s1.text.length : Int))) = w4 at *
      have hown : ownB s1 = s1.text.length + (s1.keys.map List.length).sum := rfl
      have hsum2 := HD.out.2.2.2.2.2.2
      have z3 : (sm : Int) + (s1.text.length : Int) ≤ 1099511627776 := by omega
      have q64 := cellOf (o := 4) h64 rfl
      have HS := Lib.hid hst
      have HI4 := Lib.hid (And.intro hI4 (And.intro h64 hT4))
      clear hst hI4 h64 hT4 hT3 hI3 h63 hown hsum2 q64
      refine wpIn_seq_k (fun K4 hK4 => ?_)
      refine round_region (by kernel_rfl) ?_
      go_wp2_with (refine wpList_store rfl _ _ _ _ rfl rfl rfl HS.out ?_)
      refine hK4 _ _ ?_
      refine wpIn_seq_k (fun K5 hK5 => ?_)
      refine wpIn_seq_k (fun K6 hK6 => ?_)
      refine round_region (by kernel_rfl) ?_
      clear q3 q63
      have q64 := cellOf (o := 4) HI4.out.2.1 rfl
      go_wp2
      refine hK6 _ _ ?_
      refine wpIn_block ?_
      have z1 : (s1.keys.length : Int) ≤ 140737488355328 := by have := HD.out.2.2.2.2.2.1.1; have := HD.out.2.2.2.2.2.1.2.1; omega
      gi_loopw [25] (fun i W5 => ∃ j : Nat, j ≤ s1.keys.length ∧ i = .int .i64 (j : Int) ∧ Hid (MidC w (w.heap.size + 4) #[.int .i64 v.kind, .bool v.b, .int .i64 v.n, .string (strB v.text), .slice pk v.keys.length ck, .slice pl v.list.length cl] (sm + s1.text.length + ((s1.keys.take j).map List.length).sum) ob W5 ∧ W5.heap[b6]? = some (.cells #[.int .i64 s1.kind, .bool s1.b, .int .i64 s1.n, .string (strB s1.text), .slice pk1 s1.keys.length ck1, .slice pl1 s1.list.length cl1] 26 (0, 0)) ∧ Touch (SC w) w₂ W5)) (fun i _ => s1.keys.length - (intOf i).toNat)
      case atStart => exact ⟨0, Nat.zero_le _, rfl, Lib.hid ⟨by rw [List.take_zero, List.map_nil, List.sum_nil, Nat.add_zero]; exact HI4.out.1, HI4.out.2.1, HI4.out.2.2⟩⟩
      case round =>
        obtain ⟨j, hj, rfl, HJ⟩ := hrel
        clear q64 hsz1 z3 HS HI4
        by_cases hlt : j < s1.keys.length
        · have hlt1 : j + 1 ≤ s1.keys.length := hlt
          refine wpIn_seq_k (fun K7 hK7 => ?_)
          refine round_region (by kernel_rfl) ?_
          go_wp2
          refine hK7 _ _ ?_
          refine wpIn_seq_k (fun K8 hK8 => ?_)
          refine wpIn_cond_true rfl ?_
          refine wpIn_skip ?_
          refine hK8 _ _ ?_
          refine wpIn_seq_k (fun K9 hK9 => ?_)
          refine wpIn_block ?_
          obtain ⟨hI5, h65, hT5⟩ := HJ.out
          obtain ⟨bk, ok, rfl, q0, hsl⟩ := (HD.out.2.2.2.2.2.1.below hI5.below).get hlt
          have hge : ((s1.keys.take (j + 1)).map List.length).sum = ((s1.keys.take j).map List.length).sum + s1.keys[j].length := by
            rw [List.take_succ_eq_append_getElem hlt, List.map_append, List.sum_append]; simp
          have hle : ((s1.keys.take (j + 1)).map List.length).sum ≤ (s1.keys.map List.length).sum := by
            have e : s1.keys.take (j + 1) ++ s1.keys.drop (j + 1) = s1.keys := List.take_append_drop _ _
            have := congrArg (fun l : List (List UInt8) => (l.map List.length).sum) e
            simp only [List.map_append, List.sum_append] at this
            omega
          have hown : ownB s1 = s1.text.length + (s1.keys.map List.length).sum := rfl
          have hsum2 := HD.out.2.2.2.2.2.2
          rw [hge] at hle
          generalize s1.keys[j] = kk at *
          generalize hsj : sm + s1.text.length + ((s1.keys.take j).map List.length).sum = sj at *
          have z3 : (sj : Int) + (kk.length : Int) ≤ 1099511627776 := by omega
          have hszk : (strB kk).size = kk.length := rfl
          have q3 := cellOf (o := 0) hI5.sum rfl
          have hst := put_n (n := (sj : Int) + (kk.length : Int)) (cellOf (o := 0) hI5.sum rfl) (freeOf (o := 0) hI5.sum)
          have hI6 := hI5.setSum (by omega) (sj + kk.length)
          rw [Int.natCast_add] at hI6
          have hT6 : Touch (SC w) w₂ (wr.setCell ⟨w.heap.size + 2, 0, none⟩ (.int .i64 ((sj : Int) + (kk.length : Int)))) := hT5.setCell (.inl (.inr (.inl rfl))) _
          have h66 := (Below.heap_setCell wr ⟨w.heap.size + 2, 0, none⟩ (.int .i64 ((sj : Int) + (kk.length : Int))) b6 (by show b6 ≠ w.heap.size + 2; have := HI.out.2.2.1; omega)).trans h65
          generalize wr.setCell ⟨w.heap.size + 2, 0, none⟩ (.int .i64 ((sj : Int) + (kk.length : Int))) = w6 at *
          have hfin : sj + kk.length = sm + s1.text.length + ((s1.keys.take (j + 1)).map List.length).sum := by omega
          rw [hfin] at hI6
          have HS := Lib.hid hst
          have HF := Lib.hid (And.intro hI6 (And.intro h66 hT6))
          clear hst hI5 hI6 hT5 hT6 h65 h66 hge hle hown hsum2 hfin hsj HJ
          refine wpIn_seq_k (fun K10 hK10 => ?_)
          refine round_region (by kernel_rfl) ?_
          go_wp2
          refine hK10 _ _ ?_
          refine round_region (by kernel_rfl) ?_
          go_wp2_with (refine wpList_store rfl _ _ _ _ rfl rfl rfl HS.out ?_)
          refine hK9 _ _ ?_
          refine round_region (by kernel_rfl) ?_
          go_wp2
          refine ⟨?_, by simp [intOf]; omega⟩
          repeat apply Exists.intro
          exact ⟨⟨j + 1, hlt1, by go_num, HF⟩, rfl⟩
        · obtain rfl : j = s1.keys.length := by omega
          refine wpIn_seq_k (fun K7 hK7 => ?_)
          refine round_region (by kernel_rfl) ?_
          go_wp2
          refine hK7 _ _ ?_
          refine wpIn_seq_k (fun K8 hK8 => ?_)
          refine wpIn_cond_false rfl ?_
          refine wpIn_exit ?_
          refine hK5 _ _ ?_
          obtain ⟨hI5, h65, hT5⟩ := HJ.out
          rw [List.take_length] at hI5
          have hsm : sm + s1.text.length + (s1.keys.map List.length).sum = sm' := by have := HD.out.2.1; unfold ownB at this; omega
          rw [hsm] at hI5
          have hov := HD.out.1
          rw [← HD.out.2.1] at hov
          have z5 : (sm' : Int) ≤ 1099511627776 := by have := HD.out.2.1; have := HD.out.2.2.2.2.2.2; omega
          have q4 := cellOf (o := 0) hI5.over rfl
          have q65 := cellOf (o := 5) h65 rfl
          have q3 := cellOf (o := 0) hI5.sum rfl
          cases ob with
          | true =>
            have hob' : ob' = true := by rw [hov]; simp
            have hst := put_b (n := true) (cellOf (o := 0) hI5.over rfl) (freeOf (o := 0) hI5.over)
            have hI6 := hI5.setOver (by omega) true
            have hT6 : Touch (SC w) w₂ (wr.setCell ⟨w.heap.size + 3, 0, none⟩ (.bool true)) := hT5.setCell (.inl (.inr (.inr rfl))) _
            generalize wr.setCell ⟨w.heap.size + 3, 0, none⟩ (.bool true) = w6 at *
            have HSt := Lib.hid hst
            have HF := Lib.hid (And.intro hT6 (And.intro hI6 hob'))
            clear hst hI5 hI6 hT5 hT6 h65 HJ hov hob' hsm
            refine round_region (by kernel_rfl) ?_
            go_wp2_with (refine wpList_store rfl _ _ _ _ rfl rfl rfl HSt.out ?_)
            exact ⟨HF.out.1, by rw [HF.out.2.2]; exact HF.out.2.1, HD.out.2.2.1⟩
          | false =>
            by_cases hd : 64 < d
            · have hd1 : (64 : Int) < (d : Int) := by omega
              have hob' : ob' = true := by rw [hov]; simp [hd]
              have hst := put_b (n := true) (cellOf (o := 0) hI5.over rfl) (freeOf (o := 0) hI5.over)
              have hI6 := hI5.setOver (by omega) true
              have hT6 : Touch (SC w) w₂ (wr.setCell ⟨w.heap.size + 3, 0, none⟩ (.bool true)) := hT5.setCell (.inl (.inr (.inr rfl))) _
              generalize wr.setCell ⟨w.heap.size + 3, 0, none⟩ (.bool true) = w6 at *
              have HSt := Lib.hid hst
              have HF := Lib.hid (And.intro hT6 (And.intro hI6 hob'))
              clear hst hI5 hI6 hT5 hT6 h65 HJ hov hob' hsm
              refine round_region (by kernel_rfl) ?_
              go_wp2_with (refine wpList_store rfl _ _ _ _ rfl rfl rfl HSt.out ?_)
              exact ⟨HF.out.1, by rw [HF.out.2.2]; exact HF.out.2.1, HD.out.2.2.1⟩
            by_cases hll : 65536 < s1.list.length
            · have hl1 : (65536 : Int) < (s1.list.length : Int) := by omega
              have hob' : ob' = true := by rw [hov]; simp [hll]
              have hst := put_b (n := true) (cellOf (o := 0) hI5.over rfl) (freeOf (o := 0) hI5.over)
              have hI6 := hI5.setOver (by omega) true
              have hT6 : Touch (SC w) w₂ (wr.setCell ⟨w.heap.size + 3, 0, none⟩ (.bool true)) := hT5.setCell (.inl (.inr (.inr rfl))) _
              generalize wr.setCell ⟨w.heap.size + 3, 0, none⟩ (.bool true) = w6 at *
              have HSt := Lib.hid hst
              have HF := Lib.hid (And.intro hT6 (And.intro hI6 hob'))
              clear hst hI5 hI6 hT5 hT6 h65 HJ hov hob' hsm
              refine round_region (by kernel_rfl) ?_
              go_wp2_with (refine wpList_store rfl _ _ _ _ rfl rfl rfl HSt.out ?_)
              exact ⟨HF.out.1, by rw [HF.out.2.2]; exact HF.out.2.1, HD.out.2.2.1⟩
            by_cases hbb : 1048576 < sm'
            · have hb1 : (1048576 : Int) < (sm' : Int) := by omega
              have hob' : ob' = true := by rw [hov]; simp [hbb]
              have hst := put_b (n := true) (cellOf (o := 0) hI5.over rfl) (freeOf (o := 0) hI5.over)
              have hI6 := hI5.setOver (by omega) true
              have hT6 : Touch (SC w) w₂ (wr.setCell ⟨w.heap.size + 3, 0, none⟩ (.bool true)) := hT5.setCell (.inl (.inr (.inr rfl))) _
              generalize wr.setCell ⟨w.heap.size + 3, 0, none⟩ (.bool true) = w6 at *
              have HSt := Lib.hid hst
              have HF := Lib.hid (And.intro hT6 (And.intro hI6 hob'))
              clear hst hI5 hI6 hT5 hT6 h65 HJ hov hob' hsm
              refine round_region (by kernel_rfl) ?_
              go_wp2_with (refine wpList_store rfl _ _ _ _ rfl rfl rfl HSt.out ?_)
              exact ⟨HF.out.1, by rw [HF.out.2.2]; exact HF.out.2.1, HD.out.2.2.1⟩
            · have hob' : ob' = false := by rw [hov]; simp [hd, hll, hbb]
              have hd1 : decide ((64 : Int) < (d : Int)) = false := by rw [decide_eq_false_iff_not]; omega
              have hl1 : decide ((65536 : Int) < (s1.list.length : Int)) = false := by rw [decide_eq_false_iff_not]; omega
              have hb1 : decide ((1048576 : Int) < (sm' : Int)) = false := by rw [decide_eq_false_iff_not]; omega
              have hst := put_b (n := false) (cellOf (o := 0) hI5.over rfl) (freeOf (o := 0) hI5.over)
              have hI6 := hI5.setOver (by omega) false
              have hT6 : Touch (SC w) w₂ (wr.setCell ⟨w.heap.size + 3, 0, none⟩ (.bool false)) := hT5.setCell (.inl (.inr (.inr rfl))) _
              generalize wr.setCell ⟨w.heap.size + 3, 0, none⟩ (.bool false) = w6 at *
              have HSt := Lib.hid hst
              have HF := Lib.hid (And.intro hT6 (And.intro hI6 hob'))
              clear hst hI5 hI6 hT5 hT6 h65 HJ hov hob' hsm
              refine round_region (by kernel_rfl) ?_
              go_wp2_with (refine wpList_store rfl _ _ _ _ rfl rfl rfl HSt.out ?_)
              exact ⟨HF.out.1, by rw [HF.out.2.2]; exact HF.out.2.1, HD.out.2.2.1⟩
  case hstop =>
    rintro c W ⟨rfl, hb, hres, hno⟩ hD
    refine wp_ret ?_
    have hp : Touch (fun b => b = W1.heap.size) W (W.putObj W1.heap.size (.deferred none)) := (Touch.refl _ _).putObj (.inl (by exact rfl)) _
    refine leave_two (f := 84) (args := #[.pointer (some ⟨w.heap.size + 1, 0, none⟩)]) (by simp) hD (enters_plain Tryz.func84 rfl rfl _ _) ((caught_idle _ _).mono ?_)
    rintro e u' w' ⟨rfl, rfl, rfl⟩
    exact ⟨rfl, rfl, .int .i64 110, results_cell_one rfl _ _ ⟨w.heap.size + 1, 0, none⟩ _ rfl (run_load1 Tryz.underlying34 rfl (cellOf (o := 0) (hp.heap hres (by omega)) rfl)), ret_int (by rw [HC.out, hno]; rfl), below_putObj hb (by omega)⟩
  case hdone =>
    rintro xs W ⟨hok, hall⟩ ⟨hI, hgood⟩ hD
    rw [← hall] at hI hgood
    have hlt := (Array.getElem?_eq_some_iff.1 hI.over).1
    cases hov : overB (preV 1 v) with
    | false =>
      rw [hov] at hI
      have q4 := cellOf (o := 0) hI.over rfl
      have hst := put_errno (n := 0) (cellOf (o := 0) hI.res rfl) (freeOf (o := 0) hI.res)
      have hcell := box_set (k := 0) (.int .i64 0) hI.res
      have hb2 := belowSet (b := w.heap.size + 1) (o := 0) hI.below (by omega) (.int .i64 0)
      have hD2 := (Below.heap_setCell W ⟨w.heap.size + 1, 0, none⟩ (.int .i64 0) W1.heap.size (by show W1.heap.size ≠ w.heap.size + 1; omega)).trans hD
      generalize hW2 : W.setCell ⟨w.heap.size + 1, 0, none⟩ (.int .i64 0) = W2 at *
      have HS := Lib.hid hst
      have HF := Lib.hid (And.intro hcell (And.intro hb2 (And.intro hD2 (And.intro hgood (And.intro hov hs1)))))
      clear hok hall hI hgood hD hlt hst hcell hb2 hD2 hW2 hov hM hs1 ht hbt hsb
      go_wp2_with (refine wpList_store rfl _ _ _ _ rfl rfl rfl HS.out ?_)
      obtain ⟨hcell, hb2, hD2, hgood, hov, hs1⟩ := HF.out
      have hp : Touch (fun b => b = W1.heap.size) W2 (W2.putObj W1.heap.size (.deferred none)) := (Touch.refl _ _).putObj (.inl (by exact rfl)) _
      refine leave_two (f := 84) (args := #[.pointer (some ⟨w.heap.size + 1, 0, none⟩)]) (by simp) hD2 (enters_plain Tryz.func84 rfl rfl _ _) ((caught_idle _ _).mono ?_)
      rintro e u' w' ⟨rfl, rfl, rfl⟩
      exact ⟨rfl, rfl, .int .i64 0, results_cell_one rfl _ _ ⟨w.heap.size + 1, 0, none⟩ _ rfl (run_load1 Tryz.underlying34 rfl (cellOf (o := 0) (hp.heap hcell (by omega)) rfl)), ret_int (by rw [HC.out, hgood, hov]; rfl), below_putObj hb2 (by omega)⟩
    | true =>
      rw [hov] at hI
      have q4 := cellOf (o := 0) hI.over rfl
      have HF := Lib.hid (And.intro hI (And.intro hD (And.intro hgood (And.intro hov hs1))))
      clear hok hall hI hgood hD hlt hov hM hs1 ht hbt hsb
      go_wp2
      obtain ⟨hI, hD, hgood, hov, hs1⟩ := HF.out
      have hp : Touch (fun b => b = W1.heap.size) W (W.putObj W1.heap.size (.deferred none)) := (Touch.refl _ _).putObj (.inl (by exact rfl)) _
      have hres := hp.heap hI.res (by omega)
      refine leave_two (f := 84) (args := #[.pointer (some ⟨w.heap.size + 1, 0, none⟩)]) (by simp) hD (enters_plain Tryz.func84 rfl rfl _ _) ((caught_great hres).mono ?_)
      rintro e u' w' ⟨rfl, rfl, h3, hT3⟩
      refine ⟨rfl, rfl, .int .i64 3, results_cell_one rfl _ _ ⟨w.heap.size + 1, 0, none⟩ _ rfl (run_load1 Tryz.underlying34 rfl (cellOf (o := 0) h3 rfl)), ret_int (by rw [HC.out, hgood, hov]; rfl), ?_⟩
      have hb3 := below_putObj (o := .deferred none) (l := W1.heap.size) hI.below (by omega)
      exact hT3.below hb3 (fun b hb e => by omega) hb3.size
end Go.Proofs.YtnkaegdnjfpliaaGreatDoor

/-! value.tell, value.Text. Printed by gen_tell.py. -/
namespace Go.Proofs.YtnkaegdnjfpliaaGreatDoor
set_option linter.unusedSimpArgs false
set_option linter.unusedVariables false
open Go.RowKit

mutual
/-- Numbers are within sixty-four bits. -/
def rngV : V → Prop
  | .mk _ _ n _ _ l => (-9223372036854775808 ≤ n ∧ n ≤ 9223372036854775807) ∧ rngVs l
def rngVs : List V → Prop
  | [] => True
  | a :: x => rngV a ∧ rngVs x
end
theorem rngV_mk {k : Int} {b : Bool} {n : Int} {t : List UInt8} {ks : List (List UInt8)} {l : List V} : rngV (.mk k b n t ks l) ↔ (-9223372036854775808 ≤ n ∧ n ≤ 9223372036854775807) ∧ rngVs l := by rw [rngV]
theorem rngVs_iff {l : List V} : rngVs l ↔ ∀ v ∈ l, rngV v := by
  induction l with
  | nil => simp [rngVs]
  | cons a x ih => simp [rngVs, ih]
/-! ### How long texts are -/
theorem join_le (xs : List (List UInt8)) (sep : List UInt8) : (Lib.join xs sep).length ≤ Lib.lens xs + sep.length * xs.length := by
  cases xs with
  | nil => simp [Lib.join_nil]
  | cons x r =>
    rw [Lib.join_cons, List.length_append, Lib.joinTail_length, List.length_cons, Nat.mul_succ]
    have : Lib.lens (x :: r) = x.length + Lib.lens r := by simp [Lib.lens]
    omega
theorem quoteB_len (s : List UInt8) : (quoteB s).length ≤ 6 * s.length + 2 := by
  have := esc_len s
  unfold quoteB
  rw [List.length_cons, List.length_append, List.length_cons, List.length_nil]
  omega
theorem nameB_len (s : List UInt8) : (nameB s).length ≤ 2 * s.length + 2 := by
  have := tick_len s
  unfold nameB
  split
  · omega
  · rw [List.length_cons, List.length_append, List.length_cons, List.length_nil]
    omega
theorem entriesV_length : ∀ (l : List V) (ks : List (List UInt8)), (entriesV ks l).length = l.length := by
  intro l
  induction l with
  | nil => intro ks; simp [entriesV]
  | cons a x ih => intro ks; simp [entriesV, ih]
theorem lens_texts {l : List V} (h : ∀ v ∈ l, (textV v).length + 8 ≤ 40 * totV v) : Lib.lens (textsV l) + 2 * (textsV l).length ≤ 40 * totVs l := by
  induction l with
  | nil => simp [textsV, Lib.lens, totVs]
  | cons a x ih =>
    have h1 := h a (by simp)
    have h2 := ih fun v hv => h v (by simp [hv])
    have e : Lib.lens (textsV (a :: x)) = (textV a).length + Lib.lens (textsV x) := by simp [Lib.lens, textsV]
    have e2 : (textsV (a :: x)).length = (textsV x).length + 1 := by simp [textsV]
    rw [e, e2, totVs_cons]
    omega
theorem lens_entries {l : List V} (h : ∀ v ∈ l, (textV v).length + 8 ≤ 40 * totV v) : ∀ ks : List (List UInt8), Lib.lens (entriesV ks l) + 2 * (entriesV ks l).length ≤ 40 * totVs l + 2 * (ks.map List.length).sum := by
  induction l with
  | nil => intro ks; simp [entriesV, Lib.lens, totVs]
  | cons a x ih =>
    intro ks
    have h1 := h a (by simp)
    have h2 := ih (fun v hv => h v (by simp [hv])) ks.tail
    have h3 := nameB_len (ks.headD [])
    have h4 : (ks.map List.length).sum = (ks.headD []).length + (ks.tail.map List.length).sum := by cases ks <;> simp
    have e : Lib.lens (entriesV ks (a :: x)) = (nameB (ks.headD [])).length + 2 + (textV a).length + Lib.lens (entriesV ks.tail x) := by simp [Lib.lens, entriesV]; omega
    have e2 : (entriesV ks (a :: x)).length = (entriesV ks.tail x).length + 1 := by simp [entriesV]
    rw [e, e2, totVs_cons]
    omega
theorem text_len : ∀ v : V, rngV v → (textV v).length + 8 ≤ 40 * totV v := by
  refine V.ind fun k b n t ks l ih => ?_
  intro hr
  obtain ⟨⟨r1, r2⟩, hl⟩ := rngV_mk.1 hr
  have hl := rngVs_iff.1 hl
  have h1 := lens_texts fun v hv => ih v hv (hl v hv)
  have h2 := lens_entries (fun v hv => ih v hv (hl v hv)) ks
  have h3 := Lib.itoa_length_le n r1 r2
  have h4 := quoteB_len t
  have h5 := join_le (textsV l) [44, 32]
  have h6 := join_le (entriesV ks l) [44, 32]
  simp only [List.length_cons, List.length_nil] at h5 h6
  rw [totV_mk, textV]
  split
  · split <;> (simp; omega)
  split
  · omega
  split
  · omega
  split
  · simp; omega
  split
  · simp; omega
  split
  · simp; omega
  split
  · simp; omega
  · simp; omega
theorem entriesV_get : ∀ {l : List V} {ks : List (List UInt8)} (_ : ks.length = l.length) {j : Nat} (h : j < l.length) (h' : j < ks.length), (entriesV ks l)[j]? = some (nameB ks[j] ++ [58, 32] ++ textV l[j]) := by
  intro l
  induction l with
  | nil => intro ks _ j h; simp at h
  | cons a x ih =>
    intro ks hk j h h'
    cases ks with
    | nil => simp at h'
    | cons c r =>
      cases j with
      | zero => simp [entriesV]
      | succ j =>
        have := ih (ks := r) (by simpa using hk) (j := j) (by simpa using h) (by simpa using h')
        simpa [entriesV] using this
theorem textsV_get {l : List V} {j : Nat} (h : j < l.length) : (textsV l)[j]? = some (textV l[j]) := by
  rw [textsV_eq, List.getElem?_map, List.getElem?_eq_getElem h]; rfl
/-! ### The walk -/
theorem itoa_any {w : World} (hE : Env w) (n : Int) (h0 : -9223372036854775808 ≤ n) (h1 : n ≤ 9223372036854775807) : Calls Tryz.prog 70 #[.int .i64 n, .int .i64 10] w fun e w' => e = .returned (.string (strB (Lib.itoa n))) ∧ Below w.heap.size w w' := by
  refine (Tryz.strconv_FormatInt_10 n h0 h1 w (hE.pow w (Below.refl _ _))).mono ?_
  rintro e w' ⟨rfl, k, os, rfl⟩
  exact ⟨rfl, Lib.below_grow _ _ (Nat.le_refl _) _ _⟩
theorem bool_text (b : Bool) (w : World) : Calls Tryz.prog 69 #[.bool b] w fun e w' => e = .returned (.string (strB (if b then [116, 114, 117, 101] else [102, 97, 108, 115, 101]))) ∧ w' = w := by
  refine (Tryz.strconv_FormatBool b w).mono ?_
  rintro e w' ⟨rfl, rfl⟩
  exact ⟨by cases b <;> rfl, rfl⟩
theorem info_str : ∃ i, Tryz.prog.info? 9 = some i ∧ i.zero = some (.string ⟨#[]⟩) ∧ i.size = 1 ∧ i.bytes = 16 := info_parts (by kernel_rfl)
/-- Texts that were told so far, beside a box. -/
def SInv (w W : World) (x : Array Value) (o : Value) (m : List (List UInt8)) : Prop := OwnsP W (fun b => w.heap.size + 1 ≤ b) 9 1 o m.length (m.map strV) ∧ OneB w W x
theorem SInv.start {w W : World} {x : Array Value} (h : OneB w W x) : SInv w W x (.slice none 0 0) [] := ⟨⟨⟨rfl, .inl ⟨rfl, rfl⟩⟩, fun g hg => by simp [Value.ownBlock] at hg⟩, h⟩
theorem SInv.below {w W W' : World} {x : Array Value} {o : Value} {m : List (List UInt8)} (h : SInv w W x o m) (g : Below W.heap.size W W') : SInv w W' x o m :=
  ⟨h.1.keep fun b _ hb => g.block b hb, h.2.below g⟩
theorem append_str {w : World} {vl : Value} {n : Nat} {ys : List Value} (hown : w.ownsRow 0 9 1 vl n ys) {g : Nat} {S : ByteArray}
    (hc : w.heap[g]? = some (.cells #[.string S] 9 (0, 0))) (hn : n ≤ 1000000) (ty : TypeId) :
    ∃ v' w', (Builtin.append_ #[23, 23] ty #[vl, .slice (some ⟨g, 0, none⟩) 1 1]).run Tryz.prog w = .ok v' w' ∧ w'.ownsRow 0 9 1 v' (n + 1) (ys ++ [.string S]) ∧ Touch (fun b => vl.ownBlock = some b) w w' ∧
      (v'.ownBlock = vl.ownBlock ∨ v'.ownBlock = some w.heap.size) ∧ w.heap.size ≤ w'.heap.size := by
  obtain ⟨i, i1, i2, i3, i4⟩ := info_str
  exact append_law (P := Tryz.prog) (w := w) 23 ty 9 i _ 1 16 Tryz.underlying23 i1 i2 i3 i4 rfl vl n ys hown ⟨g, 0, none⟩ 1 1 [.string S] (by simp) (fun j u hu => by
    rw [addr_add, Nat.zero_add]; exact cellOf hc (by simpa using hu)) (by simp [Value.oneCell']) (by unfold maxLen; omega) (by omega)
theorem SInv.step {w W W1 : World} {x : Array Value} {o : Value} {m : List (List UInt8)} (h : SInv w W x o m) (hb : Below W.heap.size W W1) (S : ByteArray) (s : List UInt8) (hS : S = strB s) (hm : m.length ≤ 1000000) (ty : TypeId) :
    ∃ v' W2, (Builtin.append_ #[23, 23] ty #[o, .slice (some ⟨W1.heap.size, 0, none⟩) 1 1]).run Tryz.prog (W1.alloc (.cells #[.string S] 9)) = .ok v' W2 ∧ SInv w W2 x v' (m ++ [s]) := by
  subst hS
  obtain ⟨h1, h2⟩ := (h.below hb).below (below_new (.cells #[.string (strB s)] 9))
  obtain ⟨v', W2, a1, a2, a3, a4, a5⟩ := append_str h1.1 (heap_alloc_new W1 _) hm ty
  have hsz := h2.2.size
  have hlt := (Array.getElem?_eq_some_iff.1 h2.1).1
  refine ⟨v', W2, a1, ⟨?_, fun g hg => ?_⟩, ?_, ?_⟩
  · rw [List.map_append, List.length_append]
    exact a2
  · rcases a4 with e | e
    · exact h1.2 g (e.symm.trans hg)
    · rw [e] at hg
      cases hg
      omega
  · rw [a3.block _ hlt (fun e => by have := h1.2 _ e; omega)]
    exact h2.1
  · exact a3.below h2.2 (fun b hb e => by have := h1.2 b e; omega) hsz
theorem join_any {W : World} {P : Nat → Prop} {o : Value} {m : List (List UInt8)} (h : OwnsP W P 9 1 o m.length (m.map strV)) (hn : m.length ≤ 1000000) (hl : (Lib.join m [44, 32]).length ≤ 140737488355328) :
    Calls Tryz.prog 100 #[o, .string (strB [44, 32])] W fun e w' => e = .returned (.string (strB (Lib.join m [44, 32]))) ∧ Below W.heap.size W w' := by
  rcases h.1.2 with ⟨rfl, h0⟩ | ⟨g, cap, cur, rfl, _, hg, hnc, hcm, _⟩
  · have : m = [] := List.eq_nil_of_length_eq_zero h0
    subst this
    refine (Tryz.strings_Join_none none 0 (strB [44, 32]) W).mono ?_
    rintro e w' ⟨rfl, rfl⟩
    exact ⟨rfl, Below.refl _ _⟩
  · have hm : (m.map strB).map (·.data.toList) = m := by
      rw [List.map_map]
      conv => rhs; rw [← List.map_id m]
      exact List.map_congr_left fun s _ => rfl
    have hJ := Tryz.strings_Join g 0 cap (m.map strB) (strB [44, 32]) W (fun j x hx => by
        have := h.1.cells (g := g) rfl j (.string x) (by
          rw [List.getElem?_map] at hx ⊢
          cases hmj : m[j]? with
          | none => rw [hmj] at hx; cases hx
          | some s => rw [hmj] at hx; cases hx; rfl)
        rw [addr_add] at this
        exact this) (Array.getElem?_eq_some_iff.1 hg).1 (by rw [List.length_map]; omega) (by rw [List.length_map]; exact hnc) (by rw [hm]; exact hl)
    rw [hm, List.length_map] at hJ
    exact hJ
set_option maxRecDepth 100000 in
set_option maxHeartbeats 8000000 in
theorem tell_any : ∀ (v : V), mayV Lib.validD v = true → rngV v → totV v ≤ 1000000 → ∀ (w : World) (x : Array Value), Env w → VRd w v x →
    Calls Tryz.prog 67 #[.agg x] w fun e w' => e = .returned (.string (strB (textV v))) ∧ Below w.heap.size w w' := by
  refine V.ind fun k b n t ks l ih => ?_
  intro hmay hrng htot w x hE hx
  have hlen := text_len _ hrng
  obtain ⟨hone, hsub⟩ := mayV_iff.1 hmay
  have hF := oneV_iff.1 hone
  obtain ⟨⟨r1, r2⟩, hrl⟩ := rngV_mk.1 hrng
  have hrl := rngVs_iff.1 hrl
  rw [totV_mk] at htot hlen
  have hlen' := totVs_length l
  obtain ⟨pk, ck, pl, cl, rfl, _, hk1, hl1⟩ := VRd_iff.1 hx
  have f1 := hF.lo
  have f2 := hF.hi
  have f3 := hF.len
  have f4 := hF.utf
  have f5 := hF.each
  simp only [V.kind, V.text, V.keys, V.list] at f1 f2 f3 f4 f5 hsub
  have hT := OneB.start w #[.int .i64 k, .bool b, .int .i64 n, .string (strB t), .slice pk ks.length ck, .slice pl l.length cl]
  have HI := Lib.hid (fun (W : World) (hb : Below w.heap.size w W) => itoa_any (hE.b hb) n r1 r2)
  have HQ := Lib.hid (fun (W : World) (hb : Below w.heap.size w W) => quote_any (hE.b hb) t (by omega))
  have HT := Lib.hid hT
  have hL : LRd w pl cl l := hl1
  have hil := Lib.itoa_length_le n r1 r2
  have zi : ((Lib.itoa n).length : Int) ≤ 21 := by omega
  have zs : (strB (Lib.itoa n)).size = (Lib.itoa n).length := rfl
  have hk : k = 1 ∨ k = 2 ∨ k = 3 ∨ k = 6 ∨ k = 7 ∨ k = 0 ∨ k = 4 ∨ k = 5 := by omega
  clear hone hmay hrng hx hT hl1 f1 f2
  rcases hk with rfl | rfl | rfl | rfl | rfl | rfl | h45
  · have htx : textV (.mk 1 b n t ks l) = if b then [116, 114, 117, 101] else [102, 97, 108, 115, 101] := by rw [textV]; simp
    rw [htx]
    clear htx
    have HBT := Lib.hid (fun W : World => bool_text b W)
    generalize (if b = true then [116, 114, 117, 101] else [102, 97, 108, 115, 101] : List UInt8) = T at *
    go_enter Tryz.func67, Tryz.ntmps67
    go_wp2_with (go_at_call 69; refine (HBT.out _).mono ?_; rintro e w1 ⟨rfl, rfl⟩)
    go_ret
    exact ⟨rfl, HT.out.2⟩
  · have htx : textV (.mk 2 b n t ks l) = Lib.itoa n := by rw [textV]; simp
    rw [htx]
    clear htx
    go_enter Tryz.func67, Tryz.ntmps67
    go_wp2_with (go_at_call 70; refine (HI.out _ HT.out.2).mono ?_; rintro e w1 ⟨rfl, hb⟩; have HB := Lib.hid (below_trans HT.out.2 hb); clear hb)
    go_ret
    exact ⟨rfl, HB.out⟩
  · have htx : textV (.mk 3 b n t ks l) = quoteF t := by rw [textV, quoteF, f4]; simp
    rw [htx]
    clear htx
    go_enter Tryz.func67, Tryz.ntmps67
    go_wp2_with (go_at_call 34; refine (HQ.out _ HT.out.2).mono ?_; rintro e w1 ⟨rfl, hb⟩; have HB := Lib.hid (below_trans HT.out.2 hb); clear hb)
    go_ret
    exact ⟨rfl, HB.out⟩
  · have htx : strB (textV (.mk 6 b n t ks l)) = strB [60, 110] ++ strB (Lib.itoa n) ++ strB [62] := by rw [textV, strB_append, strB_append]; simp
    rw [htx]
    clear htx
    generalize Lib.itoa n = it at *
    go_enter Tryz.func67, Tryz.ntmps67
    go_wp2_with (go_at_call 70; refine (HI.out _ HT.out.2).mono ?_; rintro e w1 ⟨rfl, hb⟩; have HB := Lib.hid (below_trans HT.out.2 hb); clear hb)
    go_ret
    exact ⟨rfl, HB.out⟩
  · have htx : strB (textV (.mk 7 b n t ks l)) = strB [60, 114] ++ strB (Lib.itoa n) ++ strB [62] := by rw [textV, strB_append, strB_append]; simp
    rw [htx]
    clear htx
    generalize Lib.itoa n = it at *
    go_enter Tryz.func67, Tryz.ntmps67
    go_wp2_with (go_at_call 70; refine (HI.out _ HT.out.2).mono ?_; rintro e w1 ⟨rfl, hb⟩; have HB := Lib.hid (below_trans HT.out.2 hb); clear hb)
    go_ret
    exact ⟨rfl, HB.out⟩
  · have htx : textV (.mk 0 b n t ks l) = [110, 117, 108, 108] := by rw [textV]; simp
    rw [htx]
    clear htx
    go_enter Tryz.func67, Tryz.ntmps67
    go_wp2
    go_ret
    exact ⟨rfl, HT.out.2⟩
  · clear HI HQ zi zs hil r1 r2
    rcases h45 with rfl | rfl
    · have htx : strB (textV (.mk 4 b n t ks l)) = strB [91] ++ strB (Lib.join (textsV l) [44, 32]) ++ strB [93] := by rw [textV, strB_append, strB_append]; simp
      rw [htx]
      have htl : (textV (.mk 4 b n t ks l)).length = (Lib.join (textsV l) [44, 32]).length + 2 := by rw [textV]; simp
      rw [htl] at hlen
      have hEl : (textsV l).length = l.length := by rw [textsV_eq, List.length_map]
      have hEg : ∀ j (h : j < l.length), (textsV l)[j]? = some (textV l[j]) := fun j h => textsV_get h
      have hiv := fun (v : V) (hv : v ∈ l) => ih v hv (hsub v hv) (hrl v hv) (by have := totVs_mem hv; omega)
      have hzv := fun (v : V) (hv : v ∈ l) => (show (textV v).length ≤ 40000000 by have := text_len v (hrl v hv); have := totVs_mem hv; omega)
      generalize (textsV l) = E at *
      have hjl : (Lib.join E [44, 32]).length ≤ 40000000 := by omega
      have zj : ((Lib.join E [44, 32]).length : Int) ≤ 40000000 := by omega
      have HJL := Lib.hid (show (Lib.join E [44, 32]).length ≤ 140737488355328 by omega)
      have zjs : (strB (Lib.join E [44, 32])).size = (Lib.join E [44, 32]).length := rfl
      have z1 : (l.length : Int) ≤ 140737488355328 := by omega
      have HV := Lib.hid (And.intro hiv (And.intro hzv (And.intro hL hE)))
      have HG := Lib.hid (And.intro hEl hEg)
      have hn : l.length ≤ 1000000 := by omega
      have HNN := Lib.hid hn
      clear hiv hzv hEl hEg htx htl hsub hrl ih f4 f5 hlen htot hlen' hE hL hk1 hF f3
      clear hjl
      have HJT : Hid (∃ JT, Lib.join E [44, 32] = JT) := Lib.hid ⟨_, rfl⟩
      go_enter Tryz.func67, Tryz.ntmps67
      go_wp2
      go_loopw [3, 44] (fun o i W => ∃ j : Nat, j ≤ l.length ∧ i = .int .i64 (j : Int) ∧ Hid (SInv w W #[.int .i64 4, .bool b, .int .i64 n, .string (strB t), .slice pk ks.length ck, .slice pl l.length cl] o (E.take j))) (fun _ i _ => l.length - (intOf i).toNat)
      case atStart => exact ⟨0, Nat.zero_le _, rfl, Lib.hid (SInv.start HT.out)⟩
      case round =>
        obtain ⟨j, hj, rfl, HJ⟩ := hrel
        by_cases hlt : j < l.length
        · have hlt1 : j + 1 ≤ l.length := hlt
          have hbw : Below w.heap.size w wr := HJ.out.2.2
          obtain ⟨g1, o1, pk1, ck1, pl1, cl1, rfl, ⟨a0, a1, a2, a3, a4, a5⟩, hv1⟩ := (HV.out.2.2.1.below hbw).at hlt
          have hcall := HV.out.1 l[j] (List.getElem_mem hlt)
          have hzl := HV.out.2.1 l[j] (List.getElem_mem hlt)
          have htk : E.take (j + 1) = E.take j ++ [E[j]'(by rw [HG.out.1]; exact hlt)] := List.take_succ_eq_append_getElem _
          have hej := HG.out.2 j hlt
          rw [List.getElem?_eq_getElem (by rw [HG.out.1]; exact hlt), Option.some.injEq] at hej
          rw [hej] at htk
          generalize l[j] = s1 at *
          have zt : ((textV s1).length : Int) ≤ 40000000 := by omega
          have zts : (strB (textV s1)).size = (textV s1).length := rfl
          have HD := Lib.hid (And.intro htk (And.intro hcall (And.intro hv1 HV.out.2.2.2)))
          have HN := Lib.hid hn
          clear hcall hv1 hbw htk hej hzl hn
          generalize textV s1 = tx at *
          go_wp2_with (first
            | (go_at_call 67
               (
                 refine (HD.out.2.1 _ _ (HD.out.2.2.2.b (below_trans HJ.out.2.2 (below_new _))) (HD.out.2.2.1.below (below_new _))).mono ?_
                 rintro e w1 ⟨rfl, hb⟩
                 have hb1 := below_trans (below_new _) hb
                 have HT1 := Lib.hid (HJ.out.2.below hb1)
                 have p0 := cellOf (o := 0) HT1.out.1 rfl
                 obtain ⟨v', W2, ha, hI⟩ := SInv.step (W1 := w1) HJ.out (hb1) (strB tx) (tx) (by first | rfl | (rw [← strB_append, ← strB_append])) (by rw [List.length_take]; have := HN.out; omega) 23
                 rw [← HD.out.1] at hI
                 have Ha := Lib.hid ha
                 have HI := Lib.hid hI
                 clear ha hI
                 clear hb))
            | (refine wpList_append rfl rfl rfl rfl Ha.out ?_))
          go_roundw
          case rel => exact ⟨j + 1, hlt1, by go_num, HI⟩
          case measure => simp [intOf]; omega
        · obtain rfl : j = l.length := by omega
          have h := HJ.out
          rw [← HG.out.1, List.take_length] at h
          have HF := Lib.hid h
          clear h HJ
          go_wp2_with (first
            | (go_at_call 100
               (
                 refine (join_any HF.out.1 (by rw [HG.out.1]; exact HNN.out) HJL.out).mono ?_
                 rintro e w1 ⟨rfl, hb⟩
                 have HT1 := Lib.hid (HF.out.2.below hb)
                 have p0 := cellOf (o := 0) HT1.out.1 rfl
                 clear hb)))
          go_ret
          exact ⟨rfl, HT1.out.2⟩
    · have htx : strB (textV (.mk 5 b n t ks l)) = strB [123] ++ strB (Lib.join (entriesV ks l) [44, 32]) ++ strB [125] := by rw [textV, strB_append, strB_append]; simp
      rw [htx]
      have htl : (textV (.mk 5 b n t ks l)).length = (Lib.join (entriesV ks l) [44, 32]).length + 2 := by rw [textV]; simp
      rw [htl] at hlen
      have hEl : (entriesV ks l).length = l.length := entriesV_length l ks
      have hEg : ∀ j (h : j < l.length), ∀ (h2 : j < ks.length), (entriesV ks l)[j]? = some (nameF ks[j] ++ [58, 32] ++ textV l[j]) := fun j h h2 => by
        have hv : Lib.validD ks[j] = true := f5 _ (List.getElem_mem _)
        rw [nameF, hv]
        exact entriesV_get (f3 rfl) h h2
      have hiv := fun (v : V) (hv : v ∈ l) => ih v hv (hsub v hv) (hrl v hv) (by have := totVs_mem hv; omega)
      have hzv := fun (v : V) (hv : v ∈ l) => (show (textV v).length ≤ 40000000 by have := text_len v (hrl v hv); have := totVs_mem hv; omega)
      have hkl : ks.length = l.length := f3 rfl
      have hkz : ∀ s ∈ ks, s.length ≤ 2000000 := fun s hs => by have := sum_mem hs; omega
      have HK := Lib.hid (And.intro hkl (And.intro hk1 hkz))
      generalize (entriesV ks l) = E at *
      have hjl : (Lib.join E [44, 32]).length ≤ 40000000 := by omega
      have zj : ((Lib.join E [44, 32]).length : Int) ≤ 40000000 := by omega
      have HJL := Lib.hid (show (Lib.join E [44, 32]).length ≤ 140737488355328 by omega)
      have zjs : (strB (Lib.join E [44, 32])).size = (Lib.join E [44, 32]).length := rfl
      have z1 : (l.length : Int) ≤ 140737488355328 := by omega
      have HV := Lib.hid (And.intro hiv (And.intro hzv (And.intro hL hE)))
      have HG := Lib.hid (And.intro hEl hEg)
      have hn : l.length ≤ 1000000 := by omega
      have HNN := Lib.hid hn
      clear hkl hkz hiv hzv hEl hEg htx htl hsub hrl ih f4 f5 hlen htot hlen' hE hL hk1 hF f3
      clear hjl
      have HJT : Hid (∃ JT, Lib.join E [44, 32] = JT) := Lib.hid ⟨_, rfl⟩
      go_enter Tryz.func67, Tryz.ntmps67
      go_wp2
      go_loopw [3, 44] (fun o i W => ∃ j : Nat, j ≤ l.length ∧ i = .int .i64 (j : Int) ∧ Hid (SInv w W #[.int .i64 5, .bool b, .int .i64 n, .string (strB t), .slice pk ks.length ck, .slice pl l.length cl] o (E.take j))) (fun _ i _ => l.length - (intOf i).toNat)
      case atStart => exact ⟨0, Nat.zero_le _, rfl, Lib.hid (SInv.start HT.out)⟩
      case round =>
        obtain ⟨j, hj, rfl, HJ⟩ := hrel
        by_cases hlt : j < l.length
        · have hlt1 : j + 1 ≤ l.length := hlt
          have hbw : Below w.heap.size w wr := HJ.out.2.2
          obtain ⟨g1, o1, pk1, ck1, pl1, cl1, rfl, ⟨a0, a1, a2, a3, a4, a5⟩, hv1⟩ := (HV.out.2.2.1.below hbw).at hlt
          have hcall := HV.out.1 l[j] (List.getElem_mem hlt)
          have hzl := HV.out.2.1 l[j] (List.getElem_mem hlt)
          have htk : E.take (j + 1) = E.take j ++ [E[j]'(by rw [HG.out.1]; exact hlt)] := List.take_succ_eq_append_getElem _
          have hltk : j < ks.length := by rw [HK.out.1]; exact hlt
          have hej := HG.out.2 j hlt hltk
          rw [List.getElem?_eq_getElem (by rw [HG.out.1]; exact hlt), Option.some.injEq] at hej
          rw [hej] at htk
          obtain ⟨bk, ok, rfl, q0, _⟩ := (HK.out.2.1.below hbw).get hltk
          have hnz := HK.out.2.2 ks[j] (List.getElem_mem hltk)
          have hnl : (nameF ks[j]).length ≤ 4000002 := by unfold nameF; have := nameB_len ks[j]; split <;> simp <;> omega
          have zn : ((nameF ks[j]).length : Int) ≤ 4000002 := by omega
          have zns : (strB (nameF ks[j])).size = (nameF ks[j]).length := rfl
          have hnm := fun (W : World) (hW : Env W) => name_any hW ks[j] hnz
          have hkn : (ks.length : Int) = (l.length : Int) := by rw [HK.out.1]
          generalize ks[j] = s2 at *
          generalize nameF s2 = nm at *
          have HM := Lib.hid hnm
          clear hnm hnz hnl
          generalize l[j] = s1 at *
          have zt : ((textV s1).length : Int) ≤ 40000000 := by omega
          have zts : (strB (textV s1)).size = (textV s1).length := rfl
          have HD := Lib.hid (And.intro htk (And.intro hcall (And.intro hv1 HV.out.2.2.2)))
          have HN := Lib.hid hn
          clear hcall hv1 hbw htk hej hzl hn
          generalize textV s1 = tx at *
          go_wp2_with (first
            | (go_at_call 67
               (
                 refine (HD.out.2.1 _ _ (HD.out.2.2.2.b (below_trans HJ.out.2.2 (below_new _))) (HD.out.2.2.1.below (below_new _))).mono ?_
                 rintro e w1 ⟨rfl, hb⟩
                 have hb1 := below_trans (below_new _) hb
                 have HT1 := Lib.hid (HJ.out.2.below hb1)
                 have p0 := cellOf (o := 0) HT1.out.1 rfl
                 have q1 := belowCell hb1 (ltOf q0) q0
                 have HB1 := Lib.hid hb1
                 have p4 := cellOf (o := 4) HT1.out.1 rfl
                 clear hb))
            | (go_at_call 35
               (
                 refine (HM.out _ (HD.out.2.2.2.b HT1.out.2)).mono ?_
                 rintro e w2 ⟨rfl, hb2⟩
                 have hbb := HB1.out.trans (hb2.mono HB1.out.size)
                 obtain ⟨v', W2, ha, hI⟩ := SInv.step (W1 := w2) HJ.out (hbb) (strB nm ++ strB [58, 32] ++ strB tx) (nm ++ [58, 32] ++ tx) (by first | rfl | (rw [← strB_append, ← strB_append])) (by rw [List.length_take]; have := HN.out; omega) 23
                 rw [← HD.out.1] at hI
                 have Ha := Lib.hid ha
                 have HI := Lib.hid hI
                 clear ha hI
                 clear hb2 hbb))
            | (refine wpList_append rfl rfl rfl rfl Ha.out ?_))
          go_roundw
          case rel => exact ⟨j + 1, hlt1, by go_num, HI⟩
          case measure => simp [intOf]; omega
        · obtain rfl : j = l.length := by omega
          have h := HJ.out
          rw [← HG.out.1, List.take_length] at h
          have HF := Lib.hid h
          clear h HJ
          go_wp2_with (first
            | (go_at_call 100
               (
                 refine (join_any HF.out.1 (by rw [HG.out.1]; exact HNN.out) HJL.out).mono ?_
                 rintro e w1 ⟨rfl, hb⟩
                 have HT1 := Lib.hid (HF.out.2.below hb)
                 have p0 := cellOf (o := 0) HT1.out.1 rfl
                 clear hb)))
          go_ret
          exact ⟨rfl, HT1.out.2⟩
/-- What Text tells. -/
def textF (v : V) : List UInt8 × Int := if checkV Lib.validD v = 0 then (textV v, 0) else ([], checkV Lib.validD v)
set_option maxRecDepth 100000 in
set_option maxHeartbeats 2000000 in
theorem text_any {w : World} {v : V} {x : Array Value} (hE : Env w) (hx : VRd w v x) (hr : rngV v) (ht : totV v ≤ 1000000) :
    Calls Tryz.prog 27 #[.agg x] w fun e w' => e = .returned (.tuple #[.string (strB (textF v).1), .int .i64 (textF v).2]) ∧ Below w.heap.size w w' := by
  have hc := check_ok (v := v) (hE.b (below_new (.cells x 26))) (hx.below (below_new _)) (by omega)
  have HT := Lib.hid (OneB.start w x)
  have HC := Lib.hid hc
  have HE := Lib.hid hE
  have HX := Lib.hid hx
  obtain ⟨pk, ck, pl, cl, rfl, _⟩ := hx.open
  by_cases h0 : checkV Lib.validD v = 0
  · have htf : textF v = (textV v, 0) := by unfold textF; rw [if_pos h0]
    have hmay : mayV Lib.validD v = true := by
      unfold checkV at h0
      split at h0
      · assumption
      · omega
    have HY := Lib.hid (fun (W : World) (hb : Below w.heap.size w W) => tell_any v hmay hr ht W _ (hE.b hb) (hx.below hb))
    rw [h0] at HC
    rw [htf]
    clear htf hmay h0 hc hr ht hE hx HX
    go_enter Tryz.func27, Tryz.ntmps27
    go_wp2_with (first
      | (go_at_call 45
         (
           refine HC.out.mono ?_
           rintro e w1 ⟨rfl, hb⟩
           have HT1 := Lib.hid (HT.out.below hb)
           have HL1 := Lib.hid (get_val HT1.out.1)
           clear hb HC))
      | (go_at_call 67
         (
           refine (HY.out _ HT1.out.2).mono ?_
           rintro e w2 ⟨rfl, hb⟩
           have HB := Lib.hid (below_trans HT1.out.2 hb)
           clear hb))
      | (refine wpList_load rfl _ _ _ rfl rfl HL1.out ?_))
    go_ret2
    exact ⟨rfl, HB.out⟩
  · have htf : textF v = ([], checkV Lib.validD v) := by unfold textF; rw [if_neg h0]
    rw [htf]
    have hne : ((checkV Lib.validD v) == 0) = false := by rw [beq_eq_false_iff_ne]; exact h0
    generalize checkV Lib.validD v = cv at *
    clear htf h0 hc hr ht hE hx HX
    go_enter Tryz.func27, Tryz.ntmps27
    go_wp2_with (first
      | (go_at_call 45
         (
           refine HC.out.mono ?_
           rintro e w1 ⟨rfl, hb⟩
           have HT1 := Lib.hid (HT.out.below hb)
           clear hb HC)))
    go_ret2
    exact ⟨rfl, HT1.out.2⟩
end Go.Proofs.YtnkaegdnjfpliaaGreatDoor

/-! What joins a walk and a row. -/
namespace Go.Proofs.YtnkaegdnjfpliaaGreatDoor
set_option linter.unusedSimpArgs false
set_option linter.unusedVariables false
open Go.ChangeShapes Go.WideShapes Go.ChangeAt Go.RowKit

theorem ownT : ownKnob Tryz.prog.godebug = none := by kernel_rfl

theorem post_of_below {H : Type} {enc : TypeId × Value → H} {P : Program} {f : Func} {s : ChangeSpec} {apart fresh handsOn again : Bool} {W W' : World} {args : Array Value} {v : Value} {ds gs : List (DataW H)} {before pa pv : List MemPlace}
    (hW : DataW.Whole enc P f.params.toList s.vars apart W args.toList ds gs before)
    (hres : ∀ (b : Nat) (sp : Nat → Bool) (hd : Bool), DataW.TrodAll enc P W' b sp hd f.resultTypes.toList (v.resultList f.resultTypes.size) (s.fn H (ds ++ gs)).results [])
    (hargs : ∀ sp : Nat → Bool, (∀ p ∈ before, sp p.block = true) → DataW.TrodAll enc P W' 0 sp true f.params.toList args.toList (s.fn H (ds ++ gs)).args pa)
    (hvars : ∀ sp : Nat → Bool, (∀ p ∈ before, sp p.block = true) → DataW.TrodVars enc P W' sp s.vars (s.fn H (ds ++ gs)).vars pv)
    (hps : before = pa ++ pv) (hb : Below W.heap.size W W')
    (hok : ∀ (j : Nat) (t : TypeId) (r : Value), f.resultTypes[j]? = some t → (v.resultList f.resultTypes.size)[j]? = some r → Value.okWide P W' .any 0 t r) :
    s.post enc P f apart fresh handsOn again W args v W' := by
  have hlt : ∀ p ∈ before, p.block < W.heap.size := fun p hp => hW.lt p hp
  have hold : ∀ p ∈ before, (fun b => decide (b < W.heap.size)) p.block = true := fun p hp => by simpa using hlt p hp
  refine ⟨ds, gs, before, [], pa, pv, hW, hres _ _ _, hargs _ hold, hvars _ hold, World.keptBut_mono (fun p hp => ⟨hp, ?_⟩) (hb.frame (· ∈ before)), fun _ => ?_⟩
  · rw [hps, List.mem_append] at hp
    exact Or.inr hp
  · obtain ⟨_, _, _, _, _, hz, hn⟩ := hW
    refine ⟨hok, _, _, ([] ++ pa) ++ pv, ⟨[] ++ pa, pv, trodAll_append (hargs _ (fun _ _ => rfl)) (hres _ _ _), hvars _ (fun _ _ => rfl), rfl, ?_, ?_⟩, ?_⟩
    · intro b off hp
      have hin : MemPlace.cell b off ∈ before := by rw [hps]; simpa using hp
      rw [hb.frozen (hlt _ hin)]
      exact hz b off hin
    · intro ha
      have := hn ha
      rw [hps] at this
      simpa using this
    · intro p hp _
      rw [hps]
      simpa using hp
end Go.Proofs.YtnkaegdnjfpliaaGreatDoor

/-! What joins a walk and a law's row: the arguments read behind the call as they did. -/
namespace Go.Proofs.YtnkaegdnjfpliaaGreatDoor
set_option linter.unusedSimpArgs false
set_option linter.unusedVariables false
open Go.ChangeShapes Go.WideShapes Go.ChangeAt Go.RowKit

theorem laidT : laidOutB Tryz.prog = true := by kernel_rfl

theorem trodAll_stays {H : Type} {enc : TypeId × Value → H} {P : Program} (hl : laidOutB P = true) {W W' : World} {sp : Nat → Bool} : ∀ (ts : List TypeId) (vs : List Value) (ds : List (DataW H)) (ps : List MemPlace),
    (∀ t ∈ ts, P.readableRec t = true ∧ t < P.types.size) → DataW.TrodAll enc P W 0 (fun _ => true) true ts vs ds ps → Below W.heap.size W W' → (∀ p ∈ ps, p.block < W.heap.size) → (∀ p ∈ ps, sp p.block = true) → DataW.TrodAll enc P W' 0 sp true ts vs ds ps
  | [], [], [], _, _, h, _, _, _ => h
  | t :: ts, v :: vs, d :: ds, _, ht, ⟨p, q, h1, h2, e⟩, hb, hlt, hs => by
    subst e
    refine ⟨p, q, WideElems.Trod_stays hl (ht t (by simp)).1 (ht t (by simp)).2 h1 (fun x hx => hb.same (hlt x (List.mem_append_left _ hx))) (fun x hx => hs x (List.mem_append_left _ hx)), ?_, rfl⟩
    exact trodAll_stays hl ts vs ds q (fun t' h' => ht t' (by simp [h'])) h2 hb (fun x hx => hlt x (List.mem_append_right _ hx)) (fun x hx => hs x (List.mem_append_right _ hx))

/-- A law returned true, and below the old size nothing has turned. -/
theorem law_post {H : Type} {enc : TypeId × Value → H} {P : Program} {f : Func} {s : ChangeSpec} {apart fresh handsOn again : Bool} {tb : TypeId} {W W' : World} {args : Array Value} {ds gs : List (DataW H)} {before : List MemPlace}
    (hl : laidOutB P = true) (ht : ∀ t ∈ f.params.toList, P.readableRec t = true ∧ t < P.types.size) (htb : P.underlying tb = some .bool) (hres : f.resultTypes = #[tb]) (hvs : s.vars = [])
    (hW : DataW.Whole enc P f.params.toList s.vars apart W args.toList ds gs before) (hsp : s.fn H ds = { results := [.lit (.bool true)], args := ds }) (hb : Below W.heap.size W W') :
    s.post enc P f apart fresh handsOn again W args (.bool true) W' := by
  have hW' := hW
  obtain ⟨p, q, hA, hV, rfl, hfz, hnd⟩ := hW
  rw [hvs] at hV
  obtain ⟨rfl, rfl⟩ := trodVars_none hV
  have hlt : ∀ x ∈ p, x.block < W.heap.size := fun x hx => hW'.lt x (by simp [hx])
  have e : s.fn H (ds ++ []) = { results := [.lit (.bool true)], args := ds } := by rw [List.append_nil]; exact hsp
  refine post_of_below (pa := p) (pv := []) hW' (fun b sp hd => ?_) (fun sp hs => ?_) (fun sp hs => ?_) rfl hb (ok_one hres (by simp [hres, Value.resultList]) (okWide_bool_mk htb _))
  · rw [e, hres]; exact trodAll_cons_mk (shut_bool htb _) trodAll_mk0
  · rw [e]; exact trodAll_stays hl _ _ _ _ ht hA hb hlt (fun x hx => hs x (by simp [hx]))
  · rw [e, hvs]; rfl

/-! Shapes of arguments. -/
section
variable {H : Type} {enc : TypeId × Value → H} {P : Program} {w : World} {base : Nat} {spare : Nat → Bool} {held : Bool}
theorem okWide_array {t e : TypeId} {n : Nat} {v : Value} {r : Reach} {b : Nat} (ht : P.underlying t = some (.array n e)) (h : Value.okWide P w r b t v) : ∃ cs, v = .agg cs ∧ cs.size = P.cellsOf t := by
  simp only [Value.okWide, ht] at h
  obtain ⟨cs, h1, h2, _⟩ := h
  exact ⟨cs, h1, h2⟩
/-- An array of two strings. -/
theorem open_str2 {t e : TypeId} {v : Value} {d : DataW H} {p : List MemPlace} {r : Reach} {b : Nat} (ht : P.underlying t = some (.array 2 e)) (he : P.underlying e = some .string) (hc : P.cellsOf t = 2) (hce : P.cellsOf e = 1)
    (hv : Value.okWide P w r b t v) (h : DataW.Trod enc P w base spare held t v d p) : ∃ s0 s1 : ByteArray, v = .agg #[.string s0, .string s1] := by
  obtain ⟨cs, rfl, hsz⟩ := okWide_array ht hv
  obtain ⟨c0, c1, rfl⟩ := Joins.array2 (hsz.trans hc)
  obtain ⟨fuel, hf⟩ := h
  obtain ⟨xs, m, rfl, _, _, hlen, hi⟩ := DataW.trod_array ht hf
  have h0 := hi 0 (by omega)
  have h1 := hi 1 (by omega)
  rw [hce] at h0 h1
  have e0 : xs[0]? = some xs[0] := by simp
  have e1 : xs[1]? = some xs[1] := by simp
  rw [e0] at h0
  rw [e1] at h1
  obtain ⟨s0, k0, _⟩ := DataW.trod_string he h0
  obtain ⟨s1, k1, _⟩ := DataW.trod_string he h1
  simp [Value.cells] at k0 k1
  exact ⟨s0, s1, by rw [k0, k1]⟩
end
end Go.Proofs.YtnkaegdnjfpliaaGreatDoor

/-! Values that come in: what reads as data reads as a value. -/
namespace Go.Proofs.YtnkaegdnjfpliaaGreatDoor
set_option linter.unusedSimpArgs false
set_option linter.unusedVariables false
open Go.ChangeShapes Go.WideShapes Go.ChangeAt Go.RowKit Go.Joins

instance : Inhabited V := ⟨.mk 0 false 0 [] [] []⟩
theorem cells26 : Tryz.prog.cellsOf 26 = 6 := by kernel_rfl
theorem cells24 : Tryz.prog.cellsOf 24 = 1 := by kernel_rfl
theorem cells23 : Tryz.prog.cellsOf 23 = 1 := by kernel_rfl
theorem cells9 : Tryz.prog.cellsOf 9 = 1 := by kernel_rfl
theorem cells4 : Tryz.prog.cellsOf 4 = 1 := by kernel_rfl
theorem cells2 : Tryz.prog.cellsOf 2 = 1 := by kernel_rfl
theorem cells22 : Tryz.prog.cellsOf 22 = 1 := by kernel_rfl
theorem bytes9 : Tryz.prog.bytesOf 9 = 16 := by kernel_rfl
theorem bytes26 : Tryz.prog.bytesOf 26 = 88 := by kernel_rfl
theorem strB_back (s : ByteArray) : strB s.data.toList = s := by cases s; simp [strB]
/-- All that is met is within reach. -/
def Fits {H : Type} (t : TypeId) (d : DataW H) : Prop := ∀ n ∈ d.weights Tryz.prog t, n ≤ 140737488351232
theorem Fits.of {H : Type} {t : TypeId} {d : DataW H} (h : (d.weights Tryz.prog t).all (· ≤ reachBytes) = true) : Fits t d := by
  intro n hn
  exact (of_decide_eq_true (List.all_eq_true.1 h n hn) : n ≤ reachBytes)
theorem fits_string {H : Type} {t : TypeId} {l : List UInt8} (h : Fits (H := H) t (.lit (.string l))) : l.length ≤ 140737488351232 := h _ (by simp [DataW.weights])
theorem weightsAll_mem {H : Type} {e : TypeId} {d : DataW H} : ∀ {l : List (DataW H)}, d ∈ l → ∀ n ∈ d.weights Tryz.prog e, n ∈ DataW.weightsAll Tryz.prog e l := by
  intro l
  induction l with
  | nil => intro h; simp at h
  | cons a r ih =>
    intro h n hn
    rw [DataW.weightsAll, List.mem_append]
    rcases List.mem_cons.1 h with rfl | h
    · exact .inl hn
    · exact .inr (ih h n hn)
theorem fits_slice {H : Type} {t e : TypeId} (ht : Tryz.prog.underlying t = some (.slice e)) {l m : List (DataW H)} (h : Fits t (.slice l m)) : l.length * Tryz.prog.bytesOf e ≤ 140737488351232 ∧ ∀ d ∈ l, Fits e d := by
  have h0 := h
  unfold Fits at h0
  rw [DataW.weights, ht] at h0
  refine ⟨?_, fun d hd n hn => h0 n (List.mem_cons_of_mem _ (List.mem_append_left _ (weightsAll_mem hd n hn)))⟩
  have := h0 _ (List.mem_cons_self ..)
  exact Nat.le_trans (Nat.mul_le_mul_right _ (by omega)) this
section
variable {H : Type} {enc : TypeId × Value → H} {w : World} {base : Nat} {held : Bool}
/-- Keys that come in. -/
theorem keys_of {fuel : Nat} {v : Value} {x : DataW H × List MemPlace} (h : DataW.trod enc Tryz.prog w base (fun _ => true) held fuel 23 [v] = some x) (hf : Fits 23 x.1) :
    ∃ p c ks, v = .slice p (List.length ks) c ∧ RdS w p c ks := by
  rcases open_strings Tryz.underlying23 Tryz.underlying9 cells9 h with ⟨hv, _⟩ | ⟨a, len, cap, ss, hv, _, hl, hm, hlen, rfl, hc, _⟩
  · cases hv
    exact ⟨none, 0, [], rfl, Nat.le_refl _, (by simp), (fun _ => rfl), fun s hs => by simp at hs, fun ad h => by cases h⟩
  · cases hv
    obtain ⟨h1, h2⟩ := fits_slice Tryz.underlying23 hf
    rw [bytes9] at h1
    have hle : len ≤ ss.length := by rw [hlen]; simpa using hl
    have hk : ((ss.take len).map fun s => s.data.toList).length = len := by simp; omega
    have hget : ∀ (i : Nat) (s : List UInt8), ((ss.take len).map fun s => s.data.toList)[i]? = some s → i < len ∧ i < ss.length ∧ strB s = ss.getD i ByteArray.empty := by
      intro i s hs
      have hi : i < len := by
        have := (List.getElem?_eq_some_iff.1 hs).1
        rw [hk] at this; exact this
      have hi2 : i < ss.length := by omega
      rw [List.getElem?_map, List.getElem?_take, if_pos hi, List.getElem?_eq_getElem hi2] at hs
      cases hs
      exact ⟨hi, hi2, by simp [strB_back, List.getD, hi2]⟩
    refine ⟨some a, cap, (ss.take len).map fun s => s.data.toList, by rw [hk], by rw [hk]; exact hl, ?_, (fun e => by cases e), fun s hs => ?_, fun ad had => ?_⟩
    · rw [hk]
      have : len ≤ 140737488351232 := by
        have : (strs (H := H) (ss.take len)).length = len := by simp [strs]; omega
        rw [this] at h1; omega
      exact ⟨by omega, hm⟩
    · obtain ⟨s', hs', rfl⟩ := List.mem_map.1 hs
      have := fits_string (h2 (.lit (.string s'.data.toList)) (List.mem_map.2 ⟨s', hs', rfl⟩))
      omega
    · cases had
      have hspot : 0 < len → a.spot = none := fun h0 => by
        have := World.cell?_spot (hc 0 (by omega))
        simpa [Addr.add] using this
      refine ⟨fun hne => hspot ?_, fun i s hs => ?_⟩
      · rcases Nat.eq_zero_or_pos len with h0 | h0
        · exact absurd (List.eq_nil_of_length_eq_zero (by rw [hk]; exact h0)) hne
        · exact h0
      · obtain ⟨h3, h4, h5⟩ := hget i s hs
        have h6 := hc i h4
        have hs0 := hspot (by omega)
        obtain ⟨ab, ao, asp⟩ := a
        simp only at hs0
        subst hs0
        rw [addr_add] at h6
        rw [h5]
        exact h6
theorem int_rng {n : Int} (h : (Lit.int .i64 n).wf = true) : -9223372036854775808 ≤ n ∧ n ≤ 9223372036854775807 := by
  simp [Lit.wf, IntKind.min, IntKind.max, IntKind.signed, IntKind.bits] at h
  omega
set_option maxRecDepth 100000 in
theorem weights_struct {d0 d1 d2 d3 d4 d5 : DataW H} (h : Fits 26 (.agg [d0, d1, d2, d3, d4, d5])) : Fits 9 d3 ∧ Fits 23 d4 ∧ Fits 24 d5 := by
  unfold Fits at h
  rw [DataW.weights, Tryz.underlying26] at h
  simp only [List.map_cons, List.map_nil, DataW.weightsEach, List.append_nil, List.mem_append] at h
  exact ⟨fun n hn => h n (by simp [hn]), fun n hn => h n (by simp [hn]), fun n hn => h n (by simp [hn])⟩
set_option maxRecDepth 100000 in
/-- A value that comes in. -/
theorem value_of : ∀ (fuel : Nat) (cs : List Value) (x : DataW H × List MemPlace), DataW.trod enc Tryz.prog w base (fun _ => true) held fuel 26 cs = some x → Fits 26 x.1 →
    ∃ v, VRd w v cs.toArray ∧ rngV v := by
  intro fuel
  induction fuel using Nat.strongRecOn with
  | ind fuel ih =>
    intro cs x h hf
    obtain ⟨xs, n, rfl, rfl, hl, hlen, hfl⟩ := DataW.trod_struct Tryz.underlying26 h
    rw [cells26] at hl
    match xs, hlen with
    | [y0, y1, y2, y3, y4, y5], _ =>
      match cs, hl with
      | [c0, c1, c2, c3, c4, c5], _ =>
        have k0 := hfl 0 _ rfl
        have k1 := hfl 1 _ rfl
        have k2 := hfl 2 _ rfl
        have k3 := hfl 3 _ rfl
        have k4 := hfl 4 _ rfl
        have k5 := hfl 5 _ rfl
        simp only [cells22, cells4, cells2, cells9, cells23, cells24, List.drop_zero, List.drop_succ_cons, List.take_succ_cons, List.take_zero, List.getElem?_cons_zero, List.getElem?_cons_succ] at k0 k1 k2 k3 k4 k5
        obtain ⟨w3, w4, w5⟩ := weights_struct hf
        obtain ⟨kd, e0, _, _⟩ := DataW.trod_int Tryz.underlying22 k0
        obtain ⟨b, e1, _⟩ := DataW.trod_bool Tryz.underlying4 k1
        obtain ⟨num, e2, _, hw⟩ := DataW.trod_int Tryz.underlying2 k2
        obtain ⟨s, e3, e3', _⟩ := DataW.trod_string Tryz.underlying9 k3
        obtain ⟨pk, ck, ks, rfl, hks⟩ := keys_of k4 w4
        obtain rfl : c0 = _ := (List.cons.inj e0).1
        obtain rfl : c1 = _ := (List.cons.inj e1).1
        obtain rfl : c2 = _ := (List.cons.inj e2).1
        obtain rfl : c3 = _ := (List.cons.inj e3).1
        rw [e3'] at w3
        have ht := fits_string w3
        have hrng := int_rng hw
        rcases DataW.trod_slice Tryz.underlying24 k5 with ⟨hv, _⟩ | ⟨a, len, cap, elems, rest, m, rfl, hv, e5, _, hle, hm, hel, helt, _, _⟩
        · cases hv
          refine ⟨.mk kd b num s.data.toList ks [], ?_, rngV_mk.2 ⟨hrng, by simp [rngVs]⟩⟩
          refine VRd_iff.2 ⟨pk, ck, none, 0, by rw [strB_back]; rfl, by omega, hks, ⟨Nat.le_refl _, by simp, fun _ => rfl⟩, fun ad h => by cases h⟩
        · cases hv
          rw [e5] at w5
          obtain ⟨g1, g2⟩ := fits_slice Tryz.underlying24 w5
          rw [bytes26] at g1
          rw [cells26] at helt
          have hlenE : (elems.map (·.1)).length = len := by simpa using hel
          rw [hlenE] at g1
          obtain ⟨f, hfv⟩ := Go.Deep.choose_lt (n := len) (α := V) (p := fun i v => ∃ cs', w.cells? base (a.add (i * 6)) 6 = some cs' ∧ VRd w v cs'.toArray ∧ rngV v) (fun i hi => by
            have hi2 : i < elems.length := by omega
            have h1 := helt i hi
            rw [List.getElem?_eq_getElem hi2] at h1
            obtain ⟨cs', h2, h3⟩ := Option.bind_eq_some_iff.1 h1
            obtain ⟨v, hv1, hv2⟩ := ih m (by omega) cs' elems[i] h3 (g2 _ (List.mem_map.2 ⟨elems[i], List.getElem_mem hi2, rfl⟩))
            exact ⟨v, cs', h2, hv1, hv2⟩)
          have hspot : 0 < len → a.spot = none := fun h0 => by
            obtain ⟨cs', h1, _⟩ := hfv 0 h0
            obtain ⟨_, hcl, hc⟩ := World.cells?_some h1
            have h3 := hc 0 (by omega)
            rw [List.getElem?_eq_getElem (by omega)] at h3
            have := World.cell?_spot h3
            simpa [Addr.add] using this
          have hll : ((List.range len).map f).length = len := by simp
          refine ⟨.mk kd b num s.data.toList ks ((List.range len).map f), ?_, rngV_mk.2 ⟨hrng, rngVs_iff.2 fun v hv => ?_⟩⟩
          · refine VRd_iff.2 ⟨pk, ck, some a, cap, by rw [strB_back, hll], by omega, hks, ⟨by rw [hll]; exact hle, by rw [hll]; exact ⟨by omega, hm⟩, fun e => by cases e⟩, fun ad had => ?_⟩
            cases had
            refine ⟨fun hne => hspot ?_, fun j v hv => ?_⟩
            · rcases Nat.eq_zero_or_pos len with h0 | h0
              · exact absurd (List.eq_nil_of_length_eq_zero (by rw [hll]; exact h0)) hne
              · exact h0
            · have hj : j < len := by
                have := (List.getElem?_eq_some_iff.1 hv).1
                rwa [hll] at this
              have e : v = f j := by
                have := (List.getElem?_eq_some_iff.1 hv).2
                simpa using this.symm
              subst e
              obtain ⟨cs', h1, h2, _⟩ := hfv j hj
              have hs0 := hspot (by omega)
              obtain ⟨ab, ao, asp⟩ := a
              simp only at hs0
              subst hs0
              obtain ⟨_, hcl, hc⟩ := World.cells?_some h1
              match cs', hcl with
              | [u0, u1, u2, u3, u4, u5], _ =>
                have q0 := hc 0 (by omega)
                have q1 := hc 1 (by omega)
                have q2 := hc 2 (by omega)
                have q3 := hc 3 (by omega)
                have q4 := hc 4 (by omega)
                have q5 := hc 5 (by omega)
                simp only [addr_add, Nat.add_zero] at q0 q1 q2 q3 q4 q5
                exact ⟨_, ⟨u0, u1, u2, u3, u4, u5, rfl, q0, q1, q2, q3, q4, q5⟩, h2⟩
          · obtain ⟨i, hi, rfl⟩ := List.mem_map.1 hv
            obtain ⟨_, _, _, h3⟩ := hfv i (List.mem_range.1 hi)
            exact h3
set_option maxRecDepth 100000 in
/-- A value that comes in, at the top. -/
theorem value_in {r : Reach} {b0 : Nat} {v : Value} {d : DataW H} {p : List MemPlace} (hv : Value.okWide Tryz.prog w r b0 26 v) (h : DataW.Trod enc Tryz.prog w base (fun _ => true) held 26 v d p) (hf : Fits 26 d) :
    ∃ u x, v = .agg x ∧ VRd w u x ∧ rngV u := by
  obtain ⟨cs, rfl, _⟩ := okWide_struct Tryz.underlying26 hv
  obtain ⟨fuel, h⟩ := h
  obtain ⟨u, h1, h2⟩ := value_of fuel _ _ h hf
  exact ⟨u, cs, rfl, by simpa [Value.cells] using h1, h2⟩
end
end Go.Proofs.YtnkaegdnjfpliaaGreatDoor

/-! What the tied rows of this layer share: what the listed tables give, the world's shape kept, and the reading of arguments. -/
namespace Go.Proofs.YtnkaegdnjfpliaaGreatDoor
set_option linter.unusedSimpArgs false
set_option linter.unusedVariables false
open Go.ChangeShapes Go.WideShapes Go.ChangeAt Go.RowKit Go.Joins

/-- The listed tables. -/
def LD : List (String × DataW Unit) := [("math/bits.deBruijn32tab", Rows.laid_math_bits_deBruijn32tab), ("math/bits.deBruijn64tab", Rows.laid_math_bits_deBruijn64tab), ("internal/strconv.uint64pow10", Rows.laid_internal_strconv_uint64pow10), ("unicode/utf8.acceptRanges", Rows.laid_unicode_utf8_acceptRanges), ("unicode/utf8.first", Rows.laid_unicode_utf8_first)]
set_option maxRecDepth 100000 in
theorem first_eq : Rows.laid_unicode_utf8_first = Lib.firstData := by kernel_rfl
set_option maxRecDepth 100000 in
theorem accept_eq : Rows.laid_unicode_utf8_acceptRanges = Lib.acceptData := by kernel_rfl
set_option maxRecDepth 100000 in
theorem pow_eq : Rows.laid_internal_strconv_uint64pow10 (H := Unit) = Lib.tabData .u64 Lib.pow10Tab := by kernel_rfl
theorem varTabs {W : World} (h3 : Lib.VarReads Tryz.prog W "unicode/utf8.first" Lib.firstData) (h4 : Lib.VarReads Tryz.prog W "unicode/utf8.acceptRanges" Lib.acceptData) : Lib.Utf8Tabs 0 1 W := by
  have hc5 : Tryz.prog.cellsOf 5 = 1 := by kernel_rfl
  refine ⟨fun c hc => ?_, fun i hi => ?_⟩
  · obtain ⟨g, t, cs, fuel, p, hg, hty, hvar, hd⟩ := h3
    have eg : g = 0 := Option.some.inj (hg.symm.trans (by kernel_rfl))
    subst eg
    have et : t = 110 := Option.some.inj (hty.symm.trans (by kernel_rfl))
    subst et
    have hcs := Lib.cells_of_tab Tryz.underlying110 Tryz.underlying5 hc5 (by kernel_rfl) hd
    rw [World.var?_cell hg hvar c, ← Array.getElem?_toList, hcs]
    simp [Lib.firstTab, hc]
  · obtain ⟨g, t, cs, fuel, p, hg, hty, hvar, hd⟩ := h4
    have eg : g = 1 := Option.some.inj (hg.symm.trans (by kernel_rfl))
    subst eg
    have et : t = 113 := Option.some.inj (hty.symm.trans (by kernel_rfl))
    subst et
    obtain ⟨fuel', d, q, hdi, he⟩ := Lib.array_elem Tryz.underlying113 hd i hi
    have hc2 : Tryz.prog.cellsOf 112 = 2 := by kernel_rfl
    simp only [List.getElem?_map, List.getElem?_range hi, Option.map_some, Option.some.injEq] at hdi
    subst hdi
    rw [hc2] at he
    have hcs := Lib.ints_of_struct Tryz.underlying112 (k := .u8) (fun j f hj => by
      match j, hj with
      | 0, hj => simp at hj; subst hj; exact ⟨Tryz.underlying5, rfl, hc5⟩
      | 1, hj => simp at hj; subst hj; exact ⟨Tryz.underlying5, rfl, hc5⟩
      | j + 2, hj => simp at hj) (by rw [hc2]; rfl) he
    have e0 := congrArg (·[0]?) hcs
    have e1 := congrArg (·[1]?) hcs
    simp only [List.getElem?_take, List.getElem?_drop] at e0 e1
    constructor
    · rw [World.var?_cell hg hvar (2 * i), ← Array.getElem?_toList]
      simpa [Nat.mul_comm] using e0
    · rw [World.var?_cell hg hvar (2 * i + 1), ← Array.getElem?_toList]
      simpa [Nat.mul_comm] using e1
/-- What the listed tables and the world's shape give. -/
theorem env_of {W : World} (hL : laidMetH Tryz.prog LD W) (hsh : W.ShapedOpen Tryz.prog) : Env W := by
  rw [MakeChecks.laidMetH_plain _ _ _ (by kernel_rfl)] at hL
  have r1 := Lib.laidMet.reads hL (n := "unicode/utf8.first") (d := Rows.laid_unicode_utf8_first) (.tail _ (.tail _ (.tail _ (.tail _ (.head _)))))
  have r2 := Lib.laidMet.reads hL (n := "unicode/utf8.acceptRanges") (d := Rows.laid_unicode_utf8_acceptRanges) (.tail _ (.tail _ (.tail _ (.head _))))
  have r3 := Lib.laidMet.reads hL (n := "internal/strconv.uint64pow10") (d := Rows.laid_internal_strconv_uint64pow10) (.tail _ (.tail _ (.head _)))
  have r4 := Lib.laidMet.reads hL (n := "math/bits.deBruijn64tab") (d := Rows.laid_math_bits_deBruijn64tab) (.tail _ (.head _))
  rw [first_eq] at r1
  rw [accept_eq] at r2
  rw [pow_eq] at r3
  refine ⟨varTabs r1 r2, cell_of_shapedOpen_int (zero := #[.int .i64 0]) (t := 3) hsh (of_decide_eq_true (by kernel_rfl)) (by kernel_rfl) rfl (by kernel_rfl) (by kernel_rfl) Tryz.underlying3, fun w' hb => ?_, ?_⟩
  · obtain ⟨g, t, cs, fuel, p, hg, hty, hvar, hd⟩ := r3
    have eg : g = 3 := Option.some.inj (hg.symm.trans (by kernel_rfl))
    subst eg
    have et : t = 154 := Option.some.inj (hty.symm.trans (by kernel_rfl))
    subst et
    have hcs := Lib.cells_of_tab Tryz.underlying154 Tryz.underlying128 (by kernel_rfl) (by kernel_rfl) hd
    unfold Lib.TabIs
    rw [← hcs]
    have : w'.var? Tryz.prog "internal/strconv.uint64pow10" = W.var? Tryz.prog "internal/strconv.uint64pow10" := by
      unfold World.var?
      rw [hg]
      simp only [Option.bind_some]
      rw [hb.block 3 (by decide)]
    rw [this, hvar]
  · obtain ⟨g, t, cs, fuel, p, hg, hty, hvar, hd⟩ := r4
    have eg : g = 5 := Option.some.inj (hg.symm.trans (by kernel_rfl))
    subst eg
    rcases Nat.lt_or_ge 5 W.heap.size with h | h
    · exact h
    · exfalso
      unfold World.var? at hvar
      rw [hg] at hvar
      have e : W.heap[5]? = none := Array.getElem?_eq_none h
      simp [e] at hvar
set_option maxRecDepth 100000 in
/-- A law over tied tables: the walk is handed the world's shape, the tables and the reach. -/
theorem returns_tied {H : Type} {enc : TypeId × Value → H} {os : Os} {f : FuncId} {fn : Func} {s : ChangeSpec} (started : os.Started) (noInit : Tryz.prog.inits.idxOf? f = none) (hfn : Tryz.prog.funcs[f]? = some fn) (args0 : Array Value)
    (w1 : Input.okWideB Tryz.prog ((World.laidAll Tryz.prog os LD).forCall (fun _ _ => 0) ⟨#[], args0, []⟩) f ⟨#[], args0, []⟩ = true)
    (w2 : s.preB enc Tryz.prog fn [] false ((World.laidAll Tryz.prog os LD).forCall (fun _ _ => 0) ⟨#[], args0, []⟩).memory args0 8 = true)
    (w3 : s.sizedB enc Tryz.prog fn false ((World.laidAll Tryz.prog os LD).forCall (fun _ _ => 0) ⟨#[], args0, []⟩).memory args0 8 = true)
    (w4 : ((World.laidAll Tryz.prog os LD).forCall (fun _ _ => 0) ⟨#[], args0, []⟩).Shaped Tryz.prog)
    (w5 : laidMetH Tryz.prog LD ((World.laidAll Tryz.prog os LD).forCall (fun _ _ => 0) ⟨#[], args0, []⟩).memory)
    (contract : ∀ (W : World) (base : Nat) (args : Array Value) (ds gs : List (DataW H)) (before : List MemPlace),
      (∀ (j : Nat) t v, fn.params[j]? = some t → args[j]? = some v → Value.okWide Tryz.prog W .any base t v) →
      DataW.Whole enc Tryz.prog fn.params.toList s.vars false W args.toList ds gs before →
      (DataW.weightsEach Tryz.prog (fn.params.toList ++ s.plain.varTypes Tryz.prog) (ds ++ gs)).all (· ≤ reachBytes) = true → Env W →
      Calls Tryz.prog f args W fun e W' => ∃ v, e = .returned v ∧ s.post enc Tryz.prog fn false true false false W args v W') :
    ReturnsInHanded {} Tryz.checked os f .any (fun w args => (s.pre enc Tryz.prog fn [] false w args ∧ laidMetH Tryz.prog LD w) ∧ sizedMet enc Tryz.prog fn (OpenSpec.ofChange s) false w args) (s.post enc Tryz.prog fn false true false false) := by
  refine returnsInHanded_of_calls ownT started noInit (ChangeSpec.witness_shaped (C := Tryz.checked) (X := fun w _ => laidMetH Tryz.prog LD w) false (World.laidAll Tryz.prog os LD) args0 8 (World.laidAll_os _ _ _) w4 w1 w2 w3 w5) ?_
  intro w tape i _ hsh _ hok hpre hholds
  obtain ⟨_, _, _, fn', hfn', _, _, _, _, hval⟩ := hok
  have e : fn' = fn := Option.some.inj (hfn'.symm.trans hfn)
  subst e
  obtain ⟨⟨⟨ds, gs, before, hw, hc⟩, hx⟩, hz⟩ := hpre
  have hw' := DataW.Whole.of_heap (w' := w.forCall tape i) (by rfl) hw
  refine (contract (w.forCall tape i) w.heap.size i.args ds gs before hval hw' (hz.weights hw) (env_of (laidMetH.of_heap (by rfl) hx) hsh)).mono fun e W' ⟨v, he, hp⟩ => ?_
  subst he
  exact ChangeSpec.post_blind hp
set_option maxRecDepth 100000 in
/-- The witness's world has its shape and meets the tables. -/
theorem wit_shape (os : Os) (args0 : Array Value) : ((World.laidAll Tryz.prog os LD).forCall (fun _ _ => 0) ⟨#[], args0, []⟩).Shaped Tryz.prog := World.shaped_of_ZipB (by kernel_rfl) (by kernel_rfl)
set_option maxRecDepth 100000 in
theorem wit_laid (os : Os) (args0 : Array Value) : laidMetH Tryz.prog LD ((World.laidAll Tryz.prog os LD).forCall (fun _ _ => 0) ⟨#[], args0, []⟩).memory := by
  rw [MakeChecks.laidMetH_plain _ _ _ (by kernel_rfl)]; exact laidMet_laidAll _ (by kernel_rfl) (by kernel_rfl)
theorem fits_each {H : Type} {t : TypeId} {ts : List TypeId} {d : DataW H} {ds : List (DataW H)} (h : (DataW.weightsEach Tryz.prog (t :: ts) (d :: ds)).all (· ≤ reachBytes) = true) : Fits t d ∧ (DataW.weightsEach Tryz.prog ts ds).all (· ≤ reachBytes) = true := by
  rw [DataW.weightsEach, List.all_append, Bool.and_eq_true] at h
  exact ⟨Fits.of h.1, h.2⟩
theorem fits_one {H : Type} {t : TypeId} {us : List TypeId} {d : DataW H} (h : (DataW.weightsEach Tryz.prog ([t] ++ us) ([d] ++ [])).all (· ≤ reachBytes) = true) : Fits t d := (fits_each h).1
theorem fits_two {H : Type} {t t1 : TypeId} {us : List TypeId} {d d1 : DataW H} (h : (DataW.weightsEach Tryz.prog ([t, t1] ++ us) ([d, d1] ++ [])).all (· ≤ reachBytes) = true) : Fits t d ∧ Fits t1 d1 := ⟨(fits_each h).1, (fits_each (fits_each h).2).1⟩
theorem fits_three {H : Type} {t t1 t2 : TypeId} {us : List TypeId} {d d1 d2 : DataW H} (h : (DataW.weightsEach Tryz.prog ([t, t1, t2] ++ us) ([d, d1, d2] ++ [])).all (· ≤ reachBytes) = true) : Fits t d ∧ Fits t1 d1 ∧ Fits t2 d2 := ⟨(fits_each h).1, (fits_each (fits_each h).2).1, (fits_each (fits_each (fits_each h).2).2).1⟩
end Go.Proofs.YtnkaegdnjfpliaaGreatDoor

/-! value.fine. -/
namespace Go.Proofs.YtnkaegdnjfpliaaGreatDoor
set_option linter.unusedSimpArgs false
set_option linter.unusedVariables false
open Go.RowKit

/-- May a value be? -/
def okV (v : V) : Bool := checkV Lib.validD v == 0
/-- May all be? -/
def fineL (l : List V) : Bool := l.all okV
set_option maxRecDepth 100000 in
set_option maxHeartbeats 1000000 in
theorem fine1_any {v : V} {w : World} {x : Array Value} (hE : Env w) (hx : VRd w v x) (ht : totV v ≤ 1099511627776) :
    Calls Tryz.prog 92 #[.agg x] w fun e w' => e = .returned (.bool (!(okV v))) ∧ Below w.heap.size w w' := by
  have hT := OneB.start w x
  have hc := check_ok (hE.b hT.2) (hx.below hT.2) ht
  obtain ⟨pk, ck, pl, cl, rfl, _⟩ := hx.open
  have HC := Lib.hid hc
  have HT := Lib.hid hT
  clear hc hT hx hE ht
  unfold okV
  generalize checkV Lib.validD v = R at *
  go_enter Tryz.func92, Tryz.ntmps92
  go_wp2_with (go_at_call 45; refine HC.out.mono ?_; rintro e w1 ⟨rfl, hb1⟩; have HB := Lib.hid (below_trans HT.out.2 hb1); clear hb1)
  go_ret
  exact ⟨ret_bool (by simp [bne]), HB.out⟩
set_option maxRecDepth 100000 in
set_option maxHeartbeats 2000000 in
theorem index_fine {w : World} {p : Option Addr} {c : Nat} {l : List V} (hE : Env w) (hl : LRd w p c l) (ht : totVs l ≤ 1099511627776) :
    Calls Tryz.prog 116 #[.slice p l.length c, .func (.func 92) #[] #[]] w fun e w' => (∃ i : Int, e = .returned (.int .i64 i) ∧ decide (0 ≤ i) = !(fineL l)) ∧ Below w.heap.size w w' := by
  have z1 : (l.length : Int) ≤ 140737488355328 := by have := hl.1.1; have := hl.1.2.1; omega
  have HE := Lib.hid hE
  have HL := Lib.hid hl
  have HT := Lib.hid ht
  clear hE hl ht
  go_enter Tryz.func116, Tryz.ntmps116
  go_wp2
  go_loopw [8] (fun i W => ∃ j : Nat, j ≤ l.length ∧ i = .int .i64 (j : Int) ∧ Hid (Below w.heap.size w W ∧ fineL (l.take j) = true)) (fun i _ => l.length - (intOf i).toNat)
  case atStart => exact ⟨0, Nat.zero_le _, rfl, Lib.hid ⟨Below.refl _ _, rfl⟩⟩
  case round =>
    obtain ⟨j, hj, rfl, HJ⟩ := hrel
    by_cases hlt : j < l.length
    · have hlt1 : j + 1 ≤ l.length := hlt
      obtain ⟨hb, hf⟩ := HJ.out
      have htk : fineL (l.take (j + 1)) = okV l[j] := by
        unfold fineL at *
        rw [List.take_succ_eq_append_getElem hlt, List.all_append, hf]; simp
      have hbad : okV l[j] = false → fineL l = false := fun h => by
        unfold fineL; rw [List.all_eq_false]; exact ⟨l[j], List.getElem_mem hlt, by simp [h]⟩
      have htot := totVs_mem (List.getElem_mem hlt)
      obtain ⟨g1, o1, pk1, ck1, pl1, cl1, rfl, ⟨a0, a1, a2, a3, a4, a5⟩, hv1⟩ := (HL.out.below hb).at hlt
      have hcall := fine1_any (HE.out.b hb) hv1 (by have := HT.out; omega)
      generalize okV l[j] = on at *
      generalize l[j] = s1 at *
      have HD := Lib.hid (And.intro htk (And.intro hbad (And.intro hcall hb)))
      clear htk hbad hcall hb hf htot hv1 HJ
      cases on with
      | false =>
        go_wp2_with (go_at_call 92
                     (
                       refine HD.out.2.2.1.mono ?_
                       rintro e w1 ⟨rfl, hb1⟩
                       have HB := Lib.hid hb1
                       clear hb1))
        go_ret
        refine ⟨⟨_, rfl, ?_⟩, below_trans HD.out.2.2.2 HB.out⟩
        rw [HD.out.2.1 (by simp)]; simp
      | true =>
        go_wp2_with (go_at_call 92
                     (
                       refine HD.out.2.2.1.mono ?_
                       rintro e w1 ⟨rfl, hb1⟩
                       have HB := Lib.hid hb1
                       clear hb1))
        go_roundw
        case rel => exact ⟨j + 1, hlt1, by go_num, Lib.hid ⟨below_trans HD.out.2.2.2 HB.out, HD.out.1⟩⟩
        case measure => simp [intOf]; omega
    · obtain rfl : j = l.length := by omega
      have hfin : fineL l = true := by have h := HJ.out.2; rwa [List.take_length] at h
      have HF := Lib.hid (And.intro hfin HJ.out.1)
      clear hfin HJ
      go_wp2
      go_ret
      exact ⟨⟨_, rfl, by rw [HF.out.1]; simp⟩, HF.out.2⟩
theorem contains_fine {w : World} {p : Option Addr} {c : Nat} {l : List V} (hE : Env w) (hl : LRd w p c l) (ht : totVs l ≤ 1099511627776) :
    Calls Tryz.prog 90 #[.slice p l.length c, .func (.func 92) #[] #[]] w fun e w' => e = .returned (.bool (!(fineL l))) ∧ Below w.heap.size w w' := by
  have HC := Lib.hid (index_fine hE hl ht)
  clear hE hl ht
  go_enter Tryz.func90, Tryz.ntmps90
  go_wp2_with (go_at_call 116; refine HC.out.mono ?_; rintro e w1 ⟨⟨i, rfl, hi⟩, hb1⟩; have HB := Lib.hid (And.intro hi hb1); clear hi hb1)
  go_ret
  exact ⟨ret_bool HB.out.1, HB.out.2⟩
theorem fine_any {w : World} {p : Option Addr} {c : Nat} {l : List V} (hE : Env w) (hl : LRd w p c l) (ht : totVs l ≤ 1099511627776) :
    Calls Tryz.prog 62 #[.slice p l.length c] w fun e w' => e = .returned (.bool (fineL l)) ∧ Below w.heap.size w w' := by
  have HC := Lib.hid (contains_fine hE hl ht)
  clear hE hl ht
  go_enter Tryz.func62, Tryz.ntmps62
  go_wp2_with (go_at_call 90; refine HC.out.mono ?_; rintro e w1 ⟨rfl, hb1⟩; have HB := Lib.hid hb1; clear hb1)
  go_ret
  exact ⟨ret_bool (by simp), HB.out⟩
end Go.Proofs.YtnkaegdnjfpliaaGreatDoor

/-! value.Compare, Same, Equal, Less. -/
namespace Go.Proofs.YtnkaegdnjfpliaaGreatDoor
set_option linter.unusedSimpArgs false
set_option linter.unusedVariables false
open Go.RowKit

theorem LRd.one {W : World} {g : Nat} {a : V} {c0 c1 c2 c3 c4 c5 : Value} (h : W.heap[g]? = some (.cells #[c0, c1, c2, c3, c4, c5] 26 (0, 0))) (ha : VRd W a #[c0, c1, c2, c3, c4, c5]) : LRd W (some ⟨g, 0, none⟩) 1 [a] := by
  refine ⟨⟨by simp, ⟨by simp, by omega⟩, fun e => by cases e⟩, fun ad had => ?_⟩
  cases had
  refine ⟨fun _ => rfl, fun j v hv => ?_⟩
  match j, hv with
  | 0, hv => cases hv; exact ⟨_, ⟨_, _, _, _, _, _, rfl, cellOf h rfl, cellOf h rfl, cellOf h rfl, cellOf h rfl, cellOf h rfl, cellOf h rfl⟩, ha⟩
  | j + 1, hv => simp at hv
theorem LRd.two {W : World} {g : Nat} {a b : V} {c0 c1 c2 c3 c4 c5 d0 d1 d2 d3 d4 d5 : Value} (h : W.heap[g]? = some (.cells #[c0, c1, c2, c3, c4, c5, d0, d1, d2, d3, d4, d5] 26 (0, 0))) (ha : VRd W a #[c0, c1, c2, c3, c4, c5]) (hb : VRd W b #[d0, d1, d2, d3, d4, d5]) : LRd W (some ⟨g, 0, none⟩) 2 [a, b] := by
  refine ⟨⟨by simp, ⟨by simp, by omega⟩, fun e => by cases e⟩, fun ad had => ?_⟩
  cases had
  refine ⟨fun _ => rfl, fun j v hv => ?_⟩
  match j, hv with
  | 0, hv => cases hv; exact ⟨_, ⟨_, _, _, _, _, _, rfl, cellOf h rfl, cellOf h rfl, cellOf h rfl, cellOf h rfl, cellOf h rfl, cellOf h rfl⟩, ha⟩
  | 1, hv => cases hv; exact ⟨_, ⟨_, _, _, _, _, _, rfl, cellOf h rfl, cellOf h rfl, cellOf h rfl, cellOf h rfl, cellOf h rfl, cellOf h rfl⟩, hb⟩
  | j + 2, hv => simp at hv
theorem okV_may {v : V} (h : okV v = true) : mayV Lib.validD v = true := by
  unfold okV checkV at h
  cases hm : mayV Lib.validD v with
  | true => rfl
  | false => rw [hm] at h; simp at h
/-- Two values behind a call of fine of both: the slice that was built, and what fine tells. -/
theorem fine_two {w W : World} {a b : V} {x0 x1 x2 x3 x4 x5 y0 y1 y2 y3 y4 y5 : Value} (hE : Env w) (hT : TwoV w W #[x0, x1, x2, x3, x4, x5] #[y0, y1, y2, y3, y4, y5]) (ha : VRd w a #[x0, x1, x2, x3, x4, x5]) (hb : VRd w b #[y0, y1, y2, y3, y4, y5]) (ht : totV a + totV b ≤ 1099511627776) :
    Calls Tryz.prog 62 #[.slice (some ⟨W.heap.size, 0, none⟩) 2 2] (W.alloc (.cells #[x0, x1, x2, x3, x4, x5, y0, y1, y2, y3, y4, y5] 26)) fun e w' => e = .returned (.bool (okV a && okV b)) ∧ TwoV w w' #[x0, x1, x2, x3, x4, x5] #[y0, y1, y2, y3, y4, y5] := by
  have hA := below_new (w := W) (.cells #[x0, x1, x2, x3, x4, x5, y0, y1, y2, y3, y4, y5] 26)
  have hT2 := hT.below hA
  have hL := LRd.two (heap_alloc_new W _) (ha.below hT2.2.2) (hb.below hT2.2.2)
  refine (fine_any (hE.b hT2.2.2) hL (by simp only [totVs]; omega)).mono ?_
  rintro e w' ⟨rfl, hb'⟩
  exact ⟨ret_bool (by simp [fineL]), hT2.below hb'⟩
set_option maxRecDepth 100000 in
set_option maxHeartbeats 2000000 in
theorem comparePub_any {a b : V} {w : World} {x y : Array Value} (hE : Env w) (ha : VRd w a x) (hb : VRd w b y) (ht : totV a + totV b ≤ 1099511627776) :
    Calls Tryz.prog 20 #[.agg x, .agg y] w fun e w' => e = .returned (.int .i64 (if okV a && okV b then cmpV a b else 0)) ∧ Below w.heap.size w w' := by
  have hT := TwoV.start w x y
  obtain ⟨pk, ck, pl, cl, rfl, _⟩ := ha.open
  obtain ⟨pk', ck', pl', cl', rfl, _⟩ := hb.open
  have hf := fine_two hE hT ha hb ht
  simp only [World.size_alloc] at hf
  have hcmp : ∀ {W : World}, okV a = true → okV b = true → Below w.heap.size w W → _ := fun {W} h1 h2 hbw => compare_any a (okV_may h1) b (okV_may h2) (ha.below hbw) (hb.below hbw)
  have HF := Lib.hid hf
  have HC := Lib.hid (fun (W : World) (h1 : okV a = true) (h2 : okV b = true) (hbw : Below w.heap.size w W) => hcmp h1 h2 hbw)
  clear hcmp hf hT hE ha hb ht
  generalize cmpV a b = R at *
  cases hok : (okV a && okV b) with
  | false =>
    rw [hok] at HF
    go_enter Tryz.func20, Tryz.ntmps20
    go_wp2_with (go_at_call 62; (refine HF.out.mono ?_; rintro e w1 ⟨rfl, hT1⟩; have HT := Lib.hid hT1; clear hT1))
    go_ret
    exact ⟨rfl, HT.out.2.2⟩
  | true =>
    rw [hok] at HF
    obtain ⟨h1, h2⟩ := Bool.and_eq_true_iff.1 hok
    go_enter Tryz.func20, Tryz.ntmps20
    go_wp2_with (first
      | (go_at_call 62
         (
           refine HF.out.mono ?_
           rintro e w1 ⟨rfl, hT1⟩
           have HT := Lib.hid hT1
           have HX := Lib.hid (get_val hT1.1)
           have HY := Lib.hid (get_val hT1.2.1)
           clear hT1))
      | (refine wpList_load rfl _ _ _ rfl rfl HX.out ?_)
      | (refine wpList_load rfl _ _ _ rfl rfl HY.out ?_)
      | (go_at_call 63
         (
           refine (HC.out _ h1 h2 HT.out.2.2).mono ?_
           rintro e w2 ⟨rfl, hb2⟩
           have HB := Lib.hid (below_trans HT.out.2.2 hb2)
           clear hb2)))
    go_ret
    exact ⟨rfl, HB.out⟩
set_option maxRecDepth 100000 in
set_option maxHeartbeats 2000000 in
theorem equalPub_any {a b : V} {w : World} {x y : Array Value} (hE : Env w) (ha : VRd w a x) (hb : VRd w b y) (ht : totV a + totV b ≤ 1099511627776) :
    Calls Tryz.prog 25 #[.agg x, .agg y] w fun e w' => e = .returned (.int .i64 (if okV a && okV b then eqV a b else 1)) ∧ Below w.heap.size w w' := by
  have hT := TwoV.start w x y
  obtain ⟨pk, ck, pl, cl, rfl, _⟩ := ha.open
  obtain ⟨pk', ck', pl', cl', rfl, _⟩ := hb.open
  have hf := fine_two hE hT ha hb ht
  simp only [World.size_alloc] at hf
  have hcmp : ∀ {W : World}, okV a = true → okV b = true → Below w.heap.size w W → _ := fun {W} h1 h2 hbw => equal_any a (okV_may h1) b (okV_may h2) (ha.below hbw) (hb.below hbw)
  have HF := Lib.hid hf
  have HC := Lib.hid (fun (W : World) (h1 : okV a = true) (h2 : okV b = true) (hbw : Below w.heap.size w W) => hcmp h1 h2 hbw)
  clear hcmp hf hT hE ha hb ht
  generalize eqV a b = R at *
  cases hok : (okV a && okV b) with
  | false =>
    rw [hok] at HF
    go_enter Tryz.func25, Tryz.ntmps25
    go_wp2_with (go_at_call 62; (refine HF.out.mono ?_; rintro e w1 ⟨rfl, hT1⟩; have HT := Lib.hid hT1; clear hT1))
    go_ret
    exact ⟨rfl, HT.out.2.2⟩
  | true =>
    rw [hok] at HF
    obtain ⟨h1, h2⟩ := Bool.and_eq_true_iff.1 hok
    go_enter Tryz.func25, Tryz.ntmps25
    go_wp2_with (first
      | (go_at_call 62
         (
           refine HF.out.mono ?_
           rintro e w1 ⟨rfl, hT1⟩
           have HT := Lib.hid hT1
           have HX := Lib.hid (get_val hT1.1)
           have HY := Lib.hid (get_val hT1.2.1)
           clear hT1))
      | (refine wpList_load rfl _ _ _ rfl rfl HX.out ?_)
      | (refine wpList_load rfl _ _ _ rfl rfl HY.out ?_)
      | (go_at_call 65
         (
           refine (HC.out _ h1 h2 HT.out.2.2).mono ?_
           rintro e w2 ⟨rfl, hb2⟩
           have HB := Lib.hid (below_trans HT.out.2.2 hb2)
           clear hb2)))
    go_ret
    exact ⟨rfl, HB.out⟩
set_option maxRecDepth 100000 in
set_option maxHeartbeats 2000000 in
theorem same_any {a b : V} {w : World} {x y : Array Value} (hE : Env w) (ha : VRd w a x) (hb : VRd w b y) (ht : totV a + totV b ≤ 1099511627776) :
    Calls Tryz.prog 21 #[.agg x, .agg y] w fun e w' => e = .returned (.bool (okV a && okV b && decide (cmpV a b = 0))) ∧ Below w.heap.size w w' := by
  have hT := TwoV.start w x y
  obtain ⟨pk, ck, pl, cl, rfl, _⟩ := ha.open
  obtain ⟨pk', ck', pl', cl', rfl, _⟩ := hb.open
  have hf := fine_two hE hT ha hb ht
  simp only [World.size_alloc] at hf
  have hcmp : ∀ {W : World}, okV a = true → okV b = true → Below w.heap.size w W → _ := fun {W} h1 h2 hbw => compare_any a (okV_may h1) b (okV_may h2) (ha.below hbw) (hb.below hbw)
  have HF := Lib.hid hf
  have HC := Lib.hid (fun (W : World) (h1 : okV a = true) (h2 : okV b = true) (hbw : Below w.heap.size w W) => hcmp h1 h2 hbw)
  clear hcmp hf hT hE ha hb ht
  generalize cmpV a b = R at *
  cases hok : (okV a && okV b) with
  | false =>
    rw [hok] at HF
    go_enter Tryz.func21, Tryz.ntmps21
    go_wp2_with (go_at_call 62; (refine HF.out.mono ?_; rintro e w1 ⟨rfl, hT1⟩; have HT := Lib.hid hT1; clear hT1))
    go_ret
    exact ⟨rfl, HT.out.2.2⟩
  | true =>
    rw [hok] at HF
    obtain ⟨h1, h2⟩ := Bool.and_eq_true_iff.1 hok
    go_enter Tryz.func21, Tryz.ntmps21
    go_wp2_with (first
      | (go_at_call 62
         (
           refine HF.out.mono ?_
           rintro e w1 ⟨rfl, hT1⟩
           have HT := Lib.hid hT1
           have p0 := cellOf (o := 0) hT1.1 rfl
           have p1 := cellOf (o := 1) hT1.1 rfl
           have p2 := cellOf (o := 2) hT1.1 rfl
           have p3 := cellOf (o := 3) hT1.1 rfl
           have p4 := cellOf (o := 4) hT1.1 rfl
           have p5 := cellOf (o := 5) hT1.1 rfl
           have r0 := cellOf (o := 0) hT1.2.1 rfl
           have r1 := cellOf (o := 1) hT1.2.1 rfl
           have r2 := cellOf (o := 2) hT1.2.1 rfl
           have r3 := cellOf (o := 3) hT1.2.1 rfl
           have r4 := cellOf (o := 4) hT1.2.1 rfl
           have r5 := cellOf (o := 5) hT1.2.1 rfl
           clear hT1))
      | (go_at_call 63
         (
           refine (HC.out _ h1 h2 HT.out.2.2).mono ?_
           rintro e w2 ⟨rfl, hb2⟩
           have HB := Lib.hid (below_trans HT.out.2.2 hb2)
           clear hb2)))
    go_ret
    exact ⟨ret_bool (by simp; rfl), HB.out⟩
/-- What Less tells. -/
def lessV (a b : V) : Int := if okV a && okV b && a.kind == b.kind && (a.kind == 2 || a.kind == 3 || a.kind == 1) then truthN (decide (cmpV a b < 0)) else 1
set_option maxRecDepth 100000 in
set_option maxHeartbeats 4000000 in
theorem less_any {a b : V} {w : World} {x y : Array Value} (hE : Env w) (ha : VRd w a x) (hb : VRd w b y) (ht : totV a + totV b ≤ 1099511627776) :
    Calls Tryz.prog 26 #[.agg x, .agg y] w fun e w' => e = .returned (.int .i64 (lessV a b)) ∧ Below w.heap.size w w' := by
  have hT := TwoV.start w x y
  obtain ⟨pk, ck, pl, cl, rfl, _⟩ := ha.open
  obtain ⟨pk', ck', pl', cl', rfl, _⟩ := hb.open
  have hf := fine_two hE hT ha hb ht
  simp only [World.size_alloc] at hf
  have hcmp : ∀ {W : World}, okV a = true → okV b = true → Below w.heap.size w W → _ := fun {W} h1 h2 hbw => compare_any a (okV_may h1) b (okV_may h2) (ha.below hbw) (hb.below hbw)
  have HF := Lib.hid hf
  have HC := Lib.hid (fun (W : World) (h1 : okV a = true) (h2 : okV b = true) (hbw : Below w.heap.size w W) => hcmp h1 h2 hbw)
  have HR := Lib.hid (show lessV a b = if okV a && okV b && a.kind == b.kind && (a.kind == 2 || a.kind == 3 || a.kind == 1) then truthN (decide (cmpV a b < 0)) else 1 from rfl)
  clear hcmp hf hT hE ha hb ht
  generalize lessV a b = L at *
  generalize cmpV a b = R at *
  cases hok : (okV a && okV b) with
  | false =>
    rw [hok] at HF HR
    go_enter Tryz.func26, Tryz.ntmps26
    go_wp2_with (go_at_call 62; (refine HF.out.mono ?_; rintro e w1 ⟨rfl, hT1⟩; have HT := Lib.hid hT1; clear hT1))
    go_ret
    exact ⟨ret_int (by rw [HR.out]; rfl), HT.out.2.2⟩
  | true =>
    rw [hok] at HF HR
    obtain ⟨h1, h2⟩ := Bool.and_eq_true_iff.1 hok
    clear hok
    by_cases hk : a.kind = b.kind
    case neg =>
      have dk : (a.kind == b.kind) = false := by simpa using hk
      have dk2 : (a.kind != b.kind) = true := by simpa using hk
      have HR2 := Lib.hid (show L = 1 by rw [HR.out, dk]; rfl)
      clear hk HR
      go_enter Tryz.func26, Tryz.ntmps26
      go_wp2_with (go_at_call 62
                   (
                     refine HF.out.mono ?_
                     rintro e w1 ⟨rfl, hT1⟩
                     have p0 := cellOf (o := 0) hT1.1 rfl
                     have r0 := cellOf (o := 0) hT1.2.1 rfl
                     have HT := Lib.hid hT1
                     clear hT1))
      go_ret
      exact ⟨ret_int HR2.out.symm, HT.out.2.2⟩
    have dk2 : (a.kind != b.kind) = false := by simpa using hk
    have dk : (a.kind == b.kind) = true := by simpa using hk
    rw [dk] at HR
    clear dk hk
    by_cases h3 : a.kind = 2 ∨ a.kind = 3 ∨ a.kind = 1
    · have HR2 := Lib.hid (show L = truthN (decide (R < 0)) by
        rw [HR.out]
        rcases h3 with h | h | h <;> rw [h] <;> rfl)
      clear HR
      generalize a.kind = ka at *
      rcases h3 with rfl | rfl | rfl
      all_goals
        go_enter Tryz.func26, Tryz.ntmps26
        go_wp2_with (first
          | (go_at_call 62
             (
               refine HF.out.mono ?_
               rintro e w1 ⟨rfl, hT1⟩
               have p0 := cellOf (o := 0) hT1.1 rfl
               have r0 := cellOf (o := 0) hT1.2.1 rfl
               have HX := Lib.hid (get_val hT1.1)
               have HY := Lib.hid (get_val hT1.2.1)
               have HT := Lib.hid hT1
               clear hT1))
          | (refine wpList_load rfl _ _ _ rfl rfl HX.out ?_)
          | (refine wpList_load rfl _ _ _ rfl rfl HY.out ?_)
          | (go_at_call 63
             (
               refine (HC.out _ h1 h2 HT.out.2.2).mono ?_
               rintro e w2 ⟨rfl, hb2⟩
               have HB := Lib.hid (below_trans HT.out.2.2 hb2)
               clear hb2))
          | (go_at_call 66; refine (truth_any _ _).mono ?_; rintro e w' ⟨rfl, rfl⟩))
        go_ret
        exact ⟨ret_int HR2.out.symm, HB.out⟩
    · have d1 : (a.kind == 1) = false := by rw [beq_eq_false_iff_ne]; omega
      have d2 : (a.kind == 2) = false := by rw [beq_eq_false_iff_ne]; omega
      have d3 : (a.kind == 3) = false := by rw [beq_eq_false_iff_ne]; omega
      have HR2 := Lib.hid (show L = 1 by rw [HR.out, d1, d2, d3]; rfl)
      clear h3 HR
      go_enter Tryz.func26, Tryz.ntmps26
      go_wp2_with (go_at_call 62
                   (
                     refine HF.out.mono ?_
                     rintro e w1 ⟨rfl, hT1⟩
                     have p0 := cellOf (o := 0) hT1.1 rfl
                     have r0 := cellOf (o := 0) hT1.2.1 rfl
                     have HT := Lib.hid hT1
                     clear hT1))
      go_ret
      exact ⟨ret_int HR2.out.symm, HT.out.2.2⟩
end Go.Proofs.YtnkaegdnjfpliaaGreatDoor

/-! The law's own small functions: num, size, small, nothing. -/
namespace Go.Proofs.YtnkaegdnjfpliaaGreatDoor
set_option linter.unusedSimpArgs false
set_option linter.unusedVariables false
open Go.RowKit

theorem num_any (n : Int) (w : World) : Calls Tryz.prog 33 #[.int .i64 n] w fun e w' => e = .returned (.int .i64 n) ∧ w = w' := by
  go_enter Tryz.func33, Tryz.ntmps33
  go_wp2
  go_ret
  exact ⟨rfl, rfl⟩
/-- What size tells, as far as it is asked. -/
def SizeOk (left tot r : Nat) : Prop := (tot ≤ left → r = tot) ∧ (left < tot → left < r) ∧ r ≤ left + 281474976710657
def keySum (ks : List (List UInt8)) : Nat := (ks.map List.length).sum
theorem keySum_step {ks : List (List UInt8)} {j : Nat} (h : j < ks.length) : keySum (ks.take (j + 1)) = keySum (ks.take j) + ks[j].length := by
  unfold keySum; rw [List.take_succ_eq_append_getElem h, List.map_append, List.sum_append]; simp
theorem keySum_le (ks : List (List UInt8)) (j : Nat) : keySum (ks.take j) ≤ keySum ks := by
  have e : ks.take j ++ ks.drop j = ks := List.take_append_drop _ _
  have := congrArg keySum e
  unfold keySum at *
  rw [List.map_append, List.sum_append] at this
  omega
theorem totVs_step {l : List V} {j : Nat} (h : j < l.length) : totVs (l.take (j + 1)) = totVs (l.take j) + totV l[j] := by
  rw [List.take_succ_eq_append_getElem h, totVs_append]; simp [totVs]
theorem totVs_le (l : List V) (j : Nat) : totVs (l.take j) ≤ totVs l := by
  have e : l.take j ++ l.drop j = l := List.take_append_drop _ _
  have := congrArg totVs e
  rw [totVs_append] at this
  omega
set_option maxRecDepth 100000 in
set_option maxHeartbeats 8000000 in
theorem size_any : ∀ (v : V) (left : Nat), left ≤ 2000 → ∀ (w : World) (x : Array Value), VRd w v x →
    Calls Tryz.prog 58 #[.agg x, .int .i64 (left : Int)] w fun e w' => (∃ r : Nat, e = .returned (.int .i64 (r : Int)) ∧ SizeOk left (totV v) r) ∧ Below w.heap.size w w' := by
  refine V.ind fun k b n t ks l ih => ?_
  intro left hle w x hx
  rw [totV_mk]
  obtain ⟨pk, ck, pl, cl, rfl, htx, hk1, hl1⟩ := VRd_iff.1 hx
  have hT := OneB.start w #[.int .i64 k, .bool b, .int .i64 n, .string (strB t), .slice pk ks.length ck, .slice pl l.length cl]
  have z1 : (ks.length : Int) ≤ 140737488355328 := by have := hk1.2.1.1; omega
  have z2 : (l.length : Int) ≤ 140737488355328 := by have := hl1.1.2.1.1; omega
  have z3 : (t.length : Int) ≤ 140737488355328 := by omega
  have z4 : (left : Int) ≤ 2000 := by omega
  have hst : (strB t).size = t.length := rfl
  have HI := Lib.hid (fun (a : V) (ha : a ∈ l) => ih a ha)
  have HK := Lib.hid hk1
  have HL := Lib.hid hl1
  have HT := Lib.hid hT
  clear ih hx hk1 hl1 hT hle
  go_enter Tryz.func58, Tryz.ntmps58
  go_wp2
  go_loopw [5, 6] (fun m i W => ∃ j nn : Nat, j ≤ ks.length ∧ i = .int .i64 (j : Int) ∧ m = .int .i64 (nn : Int) ∧ nn ≤ left + 281474976710657 ∧ Hid (nn = 1 + t.length + ks.length + keySum (ks.take j)) ∧ Hid (OneB w W #[.int .i64 k, .bool b, .int .i64 n, .string (strB t), .slice pk ks.length ck, .slice pl l.length cl])) (fun _ i _ => ks.length - (intOf i).toNat)
  case atStart =>
    exact ⟨0, 1 + t.length + ks.length, Nat.zero_le _, rfl, by go_num, by omega, Lib.hid (by simp [keySum]), HT⟩
  case round =>
    obtain ⟨j, nn, hj, rfl, rfl, hnb, HS, HT2⟩ := hrel
    clear HT
    have p4 := cellOf (o := 4) HT2.out.1 rfl
    have z5 : (nn : Int) ≤ 281474976712657 := by omega
    by_cases hlt : j < ks.length
    · have hlt1 : j + 1 ≤ ks.length := hlt
      by_cases hle : nn ≤ left
      · have hle1 : (nn : Int) ≤ (left : Int) := by omega
        obtain ⟨bk, ok, rfl, q0, hsl⟩ := (HK.out.below HT2.out.2).get hlt
        have hstep := keySum_step hlt
        generalize ks[j] = kk at *
        have hszk : (strB kk).size = kk.length := rfl
        have z6 : (kk.length : Int) ≤ 140737488355328 := by omega
        have HF := Lib.hid (And.intro hstep HS.out)
        clear hstep HS
        go_wp2
        go_roundw
        case rel => exact ⟨j + 1, nn + kk.length, hlt1, by go_num, by go_num, by omega, Lib.hid (by have := HF.out.1; have := HF.out.2; omega), HT2⟩
        case measure => simp [intOf]; omega
      · have hle1 : ¬ (nn : Int) ≤ (left : Int) := by omega
        have hle0 : decide ((nn : Int) ≤ (left : Int)) = false := by simpa using hle1
        have hsum := keySum_le ks j
        have HF := Lib.hid (And.intro hsum (And.intro HS.out hle))
        clear hsum HS
        go_wp2
        go_loopw [5, 7] (fun m i W => ∃ j2 n2 : Nat, j2 ≤ l.length ∧ i = .int .i64 (j2 : Int) ∧ m = .int .i64 (n2 : Int) ∧ n2 ≤ left + 281474976710657 ∧ Hid ((1 + t.length + ks.length + keySum ks + totVs (l.take j2) ≤ left → n2 = 1 + t.length + ks.length + keySum ks + totVs (l.take j2)) ∧ (left < 1 + t.length + ks.length + keySum ks + totVs (l.take j2) → left < n2)) ∧ Hid (OneB w W #[.int .i64 k, .bool b, .int .i64 n, .string (strB t), .slice pk ks.length ck, .slice pl l.length cl])) (fun _ i _ => l.length - (intOf i).toNat)
        case atStart => exact ⟨0, nn, Nat.zero_le _, rfl, rfl, hnb, Lib.hid (by
          have h := HF.out
          rw [List.take_zero]
          simp only [totVs]
          exact ⟨fun h2 => by omega, fun _ => by omega⟩), HT2⟩
        case round =>
          clear p4 HT2 HF hnb z5
          obtain ⟨j2, n2, hj2, rfl, rfl, hnb2, HQ, HT3⟩ := hrel
          have p5 := cellOf (o := 5) HT3.out.1 rfl
          have z6 : (n2 : Int) ≤ 281474976712657 := by omega
          by_cases hlt2 : j2 < l.length
          · have hlt3 : j2 + 1 ≤ l.length := hlt2
            by_cases hle2 : n2 ≤ left
            · have hle3 : (n2 : Int) ≤ (left : Int) := by omega
              obtain ⟨g1, o1, pk1, ck1, pl1, cl1, rfl, ⟨a0, a1, a2, a3, a4, a5⟩, hv1⟩ := (HL.out.below HT3.out.2).at hlt2
              have hstep := totVs_step hlt2
              have hsub : ((left : Int) - (n2 : Int)) = ((left - n2 : Nat) : Int) := by omega
              have hcall := HI.out l[j2] (List.getElem_mem hlt2) (left - n2) (by omega) wr _ hv1
              rw [← hsub] at hcall
              generalize l[j2] = s1 at *
              have HD := Lib.hid (And.intro hcall (And.intro hstep (And.intro HQ.out HT3.out)))
              clear hcall hstep hv1 hsub
              go_wp2_with (go_at_call 58
                           (
                             refine HD.out.1.mono ?_
                             rintro e w3 ⟨⟨r, rfl, hr⟩, hb3⟩
                             have HG := Lib.hid (And.intro hr (HD.out.2.2.2.below hb3))
                             have z7 : (r : Int) ≤ 281474976712657 := by have := hr.2.2; omega
                             clear hr hb3))
              go_roundw
              case rel =>
                obtain ⟨⟨h1, h2, h3⟩, hT4⟩ := HG.out
                obtain ⟨_, hstep, ⟨g1, g2⟩, _⟩ := HD.out
                refine ⟨j2 + 1, n2 + r, hlt3, by go_num, by go_num, by omega, Lib.hid ⟨fun h => ?_, fun h => ?_⟩, Lib.hid hT4⟩
                · rw [hstep] at h ⊢
                  have e1 := g1 (by omega)
                  have e2 := h1 (by omega)
                  omega
                · rw [hstep] at h
                  by_cases hc : 1 + t.length + ks.length + keySum ks + totVs (l.take j2) ≤ left
                  · have e1 := g1 hc
                    have e2 := h2 (by omega)
                    omega
                  · have := g2 (by omega); omega
              case measure => simp [intOf]; omega
            · have hle3 : ¬ (n2 : Int) ≤ (left : Int) := by omega
              have hle4 : decide ((n2 : Int) ≤ (left : Int)) = false := by simpa using hle3
              have hsum := totVs_le l j2
              have HF2 := Lib.hid (And.intro HQ.out (And.intro hsum (And.intro HT3.out.2 hle2)))
              clear hsum
              go_wp2
              go_ret
              obtain ⟨⟨g1, g2⟩, hsum, hbb, hgt⟩ := HF2.out
              refine ⟨⟨n2, rfl, ⟨fun h => ?_, fun h => by omega, hnb2⟩⟩, hbb⟩
              exact absurd (g1 (by unfold keySum; omega)) (by unfold keySum; omega)
          · obtain rfl : j2 = l.length := by omega
            have HF2 := Lib.hid (And.intro HQ.out HT3.out.2)
            go_wp2
            go_ret
            obtain ⟨⟨g1, g2⟩, hbb⟩ := HF2.out
            rw [List.take_length] at g1 g2
            exact ⟨⟨n2, rfl, ⟨g1, g2, hnb2⟩⟩, hbb⟩
    · obtain rfl : j = ks.length := by omega
      have HF := Lib.hid HS.out
      clear HS
      go_wp2
      go_loopw [5, 7] (fun m i W => ∃ j2 n2 : Nat, j2 ≤ l.length ∧ i = .int .i64 (j2 : Int) ∧ m = .int .i64 (n2 : Int) ∧ n2 ≤ left + 281474976710657 ∧ Hid ((1 + t.length + ks.length + keySum ks + totVs (l.take j2) ≤ left → n2 = 1 + t.length + ks.length + keySum ks + totVs (l.take j2)) ∧ (left < 1 + t.length + ks.length + keySum ks + totVs (l.take j2) → left < n2)) ∧ Hid (OneB w W #[.int .i64 k, .bool b, .int .i64 n, .string (strB t), .slice pk ks.length ck, .slice pl l.length cl])) (fun _ i _ => l.length - (intOf i).toNat)
      case atStart => exact ⟨0, nn, Nat.zero_le _, rfl, rfl, hnb, Lib.hid (by
        have h := HF.out
        rw [List.take_zero]
        simp only [totVs]
        rw [List.take_length] at h; exact ⟨fun h2 => by omega, fun _ => by omega⟩), HT2⟩
      case round =>
        clear p4 HT2 HF hnb z5
        obtain ⟨j2, n2, hj2, rfl, rfl, hnb2, HQ, HT3⟩ := hrel
        have p5 := cellOf (o := 5) HT3.out.1 rfl
        have z6 : (n2 : Int) ≤ 281474976712657 := by omega
        by_cases hlt2 : j2 < l.length
        · have hlt3 : j2 + 1 ≤ l.length := hlt2
          by_cases hle2 : n2 ≤ left
          · have hle3 : (n2 : Int) ≤ (left : Int) := by omega
            obtain ⟨g1, o1, pk1, ck1, pl1, cl1, rfl, ⟨a0, a1, a2, a3, a4, a5⟩, hv1⟩ := (HL.out.below HT3.out.2).at hlt2
            have hstep := totVs_step hlt2
            have hsub : ((left : Int) - (n2 : Int)) = ((left - n2 : Nat) : Int) := by omega
            have hcall := HI.out l[j2] (List.getElem_mem hlt2) (left - n2) (by omega) wr _ hv1
            rw [← hsub] at hcall
            generalize l[j2] = s1 at *
            have HD := Lib.hid (And.intro hcall (And.intro hstep (And.intro HQ.out HT3.out)))
            clear hcall hstep hv1 hsub
            go_wp2_with (go_at_call 58
                         (
                           refine HD.out.1.mono ?_
                           rintro e w3 ⟨⟨r, rfl, hr⟩, hb3⟩
                           have HG := Lib.hid (And.intro hr (HD.out.2.2.2.below hb3))
                           have z7 : (r : Int) ≤ 281474976712657 := by have := hr.2.2; omega
                           clear hr hb3))
            go_roundw
            case rel =>
              obtain ⟨⟨h1, h2, h3⟩, hT4⟩ := HG.out
              obtain ⟨_, hstep, ⟨g1, g2⟩, _⟩ := HD.out
              refine ⟨j2 + 1, n2 + r, hlt3, by go_num, by go_num, by omega, Lib.hid ⟨fun h => ?_, fun h => ?_⟩, Lib.hid hT4⟩
              · rw [hstep] at h ⊢
                have e1 := g1 (by omega)
                have e2 := h1 (by omega)
                omega
              · rw [hstep] at h
                by_cases hc : 1 + t.length + ks.length + keySum ks + totVs (l.take j2) ≤ left
                · have e1 := g1 hc
                  have e2 := h2 (by omega)
                  omega
                · have := g2 (by omega); omega
            case measure => simp [intOf]; omega
          · have hle3 : ¬ (n2 : Int) ≤ (left : Int) := by omega
            have hle4 : decide ((n2 : Int) ≤ (left : Int)) = false := by simpa using hle3
            have hsum := totVs_le l j2
            have HF2 := Lib.hid (And.intro HQ.out (And.intro hsum (And.intro HT3.out.2 hle2)))
            clear hsum
            go_wp2
            go_ret
            obtain ⟨⟨g1, g2⟩, hsum, hbb, hgt⟩ := HF2.out
            refine ⟨⟨n2, rfl, ⟨fun h => ?_, fun h => by omega, hnb2⟩⟩, hbb⟩
            exact absurd (g1 (by unfold keySum; omega)) (by unfold keySum; omega)
        · obtain rfl : j2 = l.length := by omega
          have HF2 := Lib.hid (And.intro HQ.out HT3.out.2)
          go_wp2
          go_ret
          obtain ⟨⟨g1, g2⟩, hbb⟩ := HF2.out
          rw [List.take_length] at g1 g2
          exact ⟨⟨n2, rfl, ⟨g1, g2, hnb2⟩⟩, hbb⟩
set_option maxRecDepth 100000 in
set_option maxHeartbeats 4000000 in
theorem small_any {w : World} {p : Option Addr} {c : Nat} {l : List V} (hl : LRd w p c l) :
    Calls Tryz.prog 15 #[.slice p l.length c] w fun e w' => e = .returned (.bool (decide (totVs l ≤ 2000))) ∧ Below w.heap.size w w' := by
  have z2 : (l.length : Int) ≤ 140737488355328 := by have := hl.1.2.1.1; omega
  have HL := Lib.hid hl
  clear hl
  go_enter Tryz.func15, Tryz.ntmps15
  go_wp2
  go_loopw [3, 4] (fun m i W => ∃ j nn : Nat, j ≤ l.length ∧ i = .int .i64 (j : Int) ∧ m = .int .i64 (nn : Int) ∧ nn ≤ 281474976714657 ∧ Hid ((totVs (l.take j) ≤ 2000 → nn = totVs (l.take j)) ∧ (2000 < totVs (l.take j) → 2000 < nn)) ∧ Hid (Below w.heap.size w W)) (fun _ i _ => l.length - (intOf i).toNat)
  case atStart => exact ⟨0, 0, Nat.zero_le _, rfl, rfl, by omega, Lib.hid ⟨fun _ => by simp [totVs], fun h => by simp [totVs] at h⟩, Lib.hid (Below.refl _ _)⟩
  case round =>
    obtain ⟨j, nn, hj, rfl, rfl, hnb, HQ, HB⟩ := hrel
    have z6 : (nn : Int) ≤ 281474976714657 := by omega
    by_cases hlt : j < l.length
    · have hlt1 : j + 1 ≤ l.length := hlt
      by_cases hle : nn ≤ 2000
      · have hle1 : (nn : Int) ≤ 2000 := by omega
        obtain ⟨g1, o1, pk1, ck1, pl1, cl1, rfl, ⟨a0, a1, a2, a3, a4, a5⟩, hv1⟩ := (HL.out.below HB.out).at hlt
        have hstep := totVs_step hlt
        have hcall := size_any l[j] 2000 (by omega) wr _ hv1
        have e2 : ((2000 : Nat) : Int) = 2000 := rfl
        rw [e2] at hcall
        generalize l[j] = s1 at *
        have HD := Lib.hid (And.intro hcall (And.intro hstep (And.intro HQ.out HB.out)))
        clear hcall hstep hv1 e2 HQ HB
        go_wp2_with (go_at_call 58
                     (
                       refine HD.out.1.mono ?_
                       rintro e w3 ⟨⟨r, rfl, hr⟩, hb3⟩
                       have HG := Lib.hid (And.intro hr (below_trans HD.out.2.2.2 hb3))
                       have z7 : (r : Int) ≤ 281474976712657 := by have := hr.2.2; omega
                       clear hr hb3))
        go_roundw
        case rel =>
          obtain ⟨⟨h1, h2, h3⟩, hT4⟩ := HG.out
          obtain ⟨_, hstep, ⟨g1, g2⟩, _⟩ := HD.out
          refine ⟨j + 1, nn + r, hlt1, by go_num, by go_num, by omega, Lib.hid ⟨fun h => ?_, fun h => ?_⟩, Lib.hid hT4⟩
          · rw [hstep] at h ⊢
            have e1 := g1 (by omega)
            have e2 := h1 (by omega)
            omega
          · rw [hstep] at h
            by_cases hc : totVs (l.take j) ≤ 2000
            · have e1 := g1 hc
              by_cases hc2 : totV s1 ≤ 2000
              · have e2 := h1 hc2; omega
              · have := h2 (by omega); omega
            · have := g2 (by omega); omega
        case measure => simp [intOf]; omega
      · have hle1 : ¬ (nn : Int) ≤ 2000 := by omega
        have hle4 : decide ((nn : Int) ≤ 2000) = false := by simpa using hle1
        have hfin : totVs l ≤ 2000 ↔ False := by
          have h := totVs_le l j
          have := HQ.out.1
          constructor
          · intro h2; exact hle (by rw [this (by omega)]; omega)
          · exact False.elim
        have hd : decide (totVs l ≤ 2000) = false := by rw [decide_eq_false_iff_not]; exact fun h => hfin.1 h
        have HD := Lib.hid hd
        clear hfin HQ hd
        go_wp2
        go_ret
        exact ⟨ret_bool HD.out.symm, HB.out⟩
    · obtain rfl : j = l.length := by omega
      have hfin : decide (totVs l ≤ 2000) = decide ((nn : Int) ≤ 2000) := by
        obtain ⟨h1, h2⟩ := HQ.out
        rw [List.take_length] at h1 h2
        rw [decide_eq_decide]
        constructor
        · intro h; rw [h1 h]; omega
        · intro h
          by_cases hc : totVs l ≤ 2000
          · exact hc
          · have := h2 (by omega); omega
      have HF := Lib.hid (And.intro hfin HB.out)
      clear hfin HQ HB
      go_wp2
      go_ret
      exact ⟨ret_bool HF.out.1.symm, HF.out.2⟩
mutual
/-- Is there nothing in a value? -/
def nullV : V → Bool
  | .mk k _ _ _ _ l => nullVs l || k == 0
def nullVs : List V → Bool
  | [] => false
  | a :: r => nullV a || nullVs r
end
theorem nullVs_eq (l : List V) : nullVs l = l.any nullV := by
  induction l with
  | nil => rfl
  | cons a r ih => rw [nullVs, ih]; rfl
set_option maxRecDepth 100000 in
set_option maxHeartbeats 4000000 in
theorem nothing_any : ∀ (v : V) (w : World) (x : Array Value), VRd w v x →
    Calls Tryz.prog 46 #[.agg x] w fun e w' => e = .returned (.bool (nullV v)) ∧ Below w.heap.size w w' := by
  refine V.ind fun k b n t ks l ih => ?_
  intro w x hx
  rw [nullV, nullVs_eq]
  obtain ⟨pk, ck, pl, cl, rfl, htx, hk1, hl1⟩ := VRd_iff.1 hx
  have hT := OneB.start w #[.int .i64 k, .bool b, .int .i64 n, .string (strB t), .slice pk ks.length ck, .slice pl l.length cl]
  have z2 : (l.length : Int) ≤ 140737488355328 := by have := hl1.1.2.1.1; omega
  have HI := Lib.hid (fun (a : V) (ha : a ∈ l) => ih a ha)
  have HL := Lib.hid hl1
  have HT := Lib.hid hT
  clear ih hx hk1 hl1 hT
  go_enter Tryz.func46, Tryz.ntmps46
  go_wp2
  go_loopw [3] (fun i W => ∃ j : Nat, j ≤ l.length ∧ i = .int .i64 (j : Int) ∧ Hid ((l.take j).any nullV = false) ∧ Hid (OneB w W #[.int .i64 k, .bool b, .int .i64 n, .string (strB t), .slice pk ks.length ck, .slice pl l.length cl])) (fun i _ => l.length - (intOf i).toNat)
  case atStart => exact ⟨0, Nat.zero_le _, rfl, Lib.hid rfl, HT⟩
  case round =>
    obtain ⟨j, hj, rfl, HQ, HT2⟩ := hrel
    clear HT
    have p5 := cellOf (o := 5) HT2.out.1 rfl
    by_cases hlt : j < l.length
    · have hlt1 : j + 1 ≤ l.length := hlt
      obtain ⟨g1, o1, pk1, ck1, pl1, cl1, rfl, ⟨a0, a1, a2, a3, a4, a5⟩, hv1⟩ := (HL.out.below HT2.out.2).at hlt
      have htk : (l.take (j + 1)).any nullV = nullV l[j] := by
        rw [List.take_succ_eq_append_getElem hlt, List.any_append, HQ.out]; simp
      have hyes : nullV l[j] = true → l.any nullV = true := fun h => List.any_eq_true.2 ⟨l[j], List.getElem_mem hlt, h⟩
      have hcall := HI.out l[j] (List.getElem_mem hlt) wr _ hv1
      generalize nullV l[j] = on at *
      generalize l[j] = s1 at *
      have HD := Lib.hid (And.intro hcall (And.intro htk (And.intro hyes HT2.out)))
      clear hcall htk hyes hv1 HQ HT2
      cases on with
      | true =>
        go_wp2_with (go_at_call 46
                     (
                       refine HD.out.1.mono ?_
                       rintro e w3 ⟨rfl, hb3⟩
                       have HG := Lib.hid (HD.out.2.2.2.below hb3)
                       clear hb3))
        go_ret
        exact ⟨ret_bool (by rw [HD.out.2.2.1 (by simp)]; rfl), HG.out.2⟩
      | false =>
        go_wp2_with (go_at_call 46
                     (
                       refine HD.out.1.mono ?_
                       rintro e w3 ⟨rfl, hb3⟩
                       have HG := Lib.hid (HD.out.2.2.2.below hb3)
                       clear hb3))
        go_roundw
        case rel => exact ⟨j + 1, hlt1, by go_num, Lib.hid HD.out.2.1, HG⟩
        case measure => simp [intOf]; omega
    · obtain rfl : j = l.length := by omega
      have p0 := cellOf (o := 0) HT2.out.1 rfl
      have HF := Lib.hid (And.intro HQ.out HT2.out.2)
      clear HQ HT2
      by_cases hk : k = 0
      · subst hk
        go_wp2
        go_ret
        exact ⟨ret_bool (by simp), HF.out.2⟩
      · have dk : (k == 0) = false := by simpa using hk
        clear hk
        go_wp2
        go_ret
        exact ⟨ret_bool (by have h := HF.out.1; rw [List.take_length] at h; rw [h, dk]; rfl), HF.out.2⟩
end Go.Proofs.YtnkaegdnjfpliaaGreatDoor
