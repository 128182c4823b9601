/- value.Check. -/
import Derived.Test.YtnkaegdnjfpliaaGreatDoorVall
import Derived.Test.YtnkaegdnjfpliaaGreatDoorVmay
import Derived.RecoverIn
namespace Go.Proofs.YtnkaegdnjfpliaaGreatDoor
set_option linter.unusedSimpArgs false
set_option linter.unusedVariables false
open Go.RowKit

/-- What is given up with. -/
abbrev greatV : Value := .iface 93 (.agg #[])
/-- The deferred closure, in a frame that returns: it turns nothing. -/
theorem caught_idle (q : Addr) (w : World) :
    CallsDIn FW 0 Tryz.prog 84 #[.pointer (some q)] .returning w fun e u' w' => e = .returned (.tuple #[]) ∧ u' = .returning ∧ w' = w := by
  have hnil : ∀ w : World, (binOp BinOp.eql 20 .nilIface .nilIface).run Tryz.prog w = .ok (.bool true) w := fun _ => by kernel_rfl
  refine callsDIn_of_wpSIn Tryz.func84 rfl trivial fun c₀ cs hu => ?_
  apply wpSIn_seq
  apply wpSIn_region
  simp [wpOpsSIn, go_sem, recoverD, hu, Tryz.ntmps84, Exit.thenS]
  have e : (#[.pointer (some q)] ++ (Array.replicate 9 undef).setIfInBounds 3 Value.nilIface : Array Value) = #[.pointer (some q), undef, undef, undef, .nilIface, undef, undef, undef, undef, undef] := rfl
  rw [e]
  clear e
  refine wpSIn_of_wpIn rfl ((wpIn_wide (n := 0)).2 ?_)
  have HU := Lib.hid hu
  clear hu
  go_wp2
  refine ⟨rfl, .returning, ?_, _, results_none rfl _ _ _, rfl, rfl, rfl⟩
  have hu := HU.out
  cases c₀
  simp_all
theorem put_errno {w : World} {ad : Addr} {n : Int} {u : Value} (hc : w.cell? ad = some u) (hf : w.frozen? ad = false) : (storeVar 34 ad (.int .i64 n)).run Tryz.prog w = .ok () (w.setCell ad (.int .i64 n)) := by
  simp [storeVar, go_sem, hc, hf]
set_option maxRecDepth 100000 in
set_option maxHeartbeats 1000000 in
/-- .. in one that was given up: too great. -/
theorem caught_great {w : World} {Q : Nat} {z : Int} (hq : w.heap[Q]? = some (.cells #[.int .i64 z] 34 (0, 0))) :
    CallsDIn FW 0 Tryz.prog 84 #[.pointer (some ⟨Q, 0, none⟩)] (.panicking [{ v := greatV, recovered := false }]) w fun e u' w' =>
      e = .returned (.tuple #[]) ∧ u' = .panicking [{ v := greatV, recovered := true }] ∧ w'.heap[Q]? = some (.cells #[.int .i64 3] 34 (0, 0)) ∧ Touch (fun x => x = Q) w w' := by
  have hnil : ∀ w : World, (binOp BinOp.eql 20 greatV .nilIface).run Tryz.prog w = .ok (.bool false) w := fun _ => by rfl
  have hta : ∀ w : World, (Instr.typeAssert greatV 20 93 true).run Tryz.prog w = .ok (.tuple #[.agg #[], .bool true]) w := fun _ => by rfl
  have hB : Below w.heap.size w (w.alloc (.cells #[] 93)) := below_new _
  have hQ := (Array.getElem?_eq_some_iff.1 hq).1
  have hq1 := belowBlk hB hQ hq
  have hcell := box_set (k := 0) (.int .i64 3) hq1
  have hT : Touch (fun x => x = Q) w ((w.alloc (.cells #[] 93)).setCell ⟨Q, 0, none⟩ (.int .i64 3)) := ((Touch.refl _ _).alloc _).setCell (.inl (by exact rfl)) _
  have HS := Lib.hid (put_errno (n := 3) (cellOf (o := 0) hq1 rfl) (freeOf (o := 0) hq1))
  have HF := Lib.hid (And.intro hcell hT)
  clear hB hQ hq1 hcell hT hq
  refine callsDIn_of_wpSIn Tryz.func84 rfl trivial fun c₀ cs hu => ?_
  apply wpSIn_seq
  apply wpSIn_region
  simp [wpOpsSIn, go_sem, recoverD, hu, Tryz.ntmps84, Exit.thenS]
  have e : (#[.pointer (some ⟨Q, 0, none⟩)] ++ (Array.replicate 9 undef).setIfInBounds 3 greatV : Array Value) = #[.pointer (some ⟨Q, 0, none⟩), undef, undef, undef, greatV, undef, undef, undef, undef, undef] := rfl
  rw [e]
  clear e
  refine wpSIn_of_wpIn rfl ((wpIn_wide (n := 0)).2 ?_)
  have HU := Lib.hid hu
  clear hu
  go_wp2_with (refine wpList_store rfl _ _ _ _ rfl rfl rfl HS.out ?_)
  refine ⟨rfl, .panicking [{ v := greatV, recovered := true }], ?_, _, results_none rfl _ _ _, rfl, rfl, HF.out⟩
  rfl

theorem all_any (x : Array Value) (c0 c1 c2 c3 c4 c5 : Value) (hx : x = #[c0, c1, c2, c3, c4, c5]) (w : World) : Calls Tryz.prog 85 #[.agg x] w fun e w' => e = .returned (.func (.func 112) #[] #[.pointer (some ⟨w.heap.size, 0, none⟩)]) ∧ w' = w.alloc (.cells x 26) := by
  subst hx
  go_enter Tryz.func85, Tryz.ntmps85
  go_wp2
  go_ret
  exact ⟨rfl, rfl⟩
/-- A function that deferred a closure and holds one range over a function leaves. -/
theorem leave_two {P : Program} {fn : Func} {tmps : Array Value} {R : Ending → World → Prop} {D : Nat} {W : World} {u : FrameMode} {f : FuncId} {fv : Fn} {cap dargs args : Array Value} (hu : u ≠ .run) (h : W.heap[D]? = some (.deferred (some [])))
    (hi : (invoke (.fn fv cap) dargs).run P (W.putObj D (.deferred none)) = .ok (.enter f args) (W.putObj D (.deferred none)))
    (hc : CallsDIn FW 0 P f args u (W.putObj D (.deferred none)) fun e u' w' => e = .returned (.tuple #[]) ∧ settle u' = .returning ∧ ∃ v, (results fn tmps).run P w' = .ok v w' ∧ R (.returned v) w') :
    LeavesInM FW 0 P fn tmps R [{ target := .collected D, args := #[] }, { target := .fn fv cap, args := dargs }] u W := by
  refine ⟨hu, .inl ⟨D, _, rfl, run_takeD h, hu, .inr ⟨fun h => by simp [Fence.wide] at h, fv, cap, f, args, rfl, hi, fun _ _ => trivial, hc.mono ?_⟩⟩⟩
  rintro e u' w' ⟨rfl, h1, v, h2, h3⟩
  show LeavesInM FW 0 P fn tmps R [] (settle u') w'
  rw [h1]
  exact ⟨v, h2, h3⟩

/-! What the loop sums up. -/
def ownB (v : V) : Nat := v.text.length + (v.keys.map List.length).sum
def sumB (pre : List (Nat × V)) : Nat := (pre.map fun e => ownB e.2).sum
def overB (pre : List (Nat × V)) : Bool := pre.any (fun e => decide (64 < e.1)) || pre.any (fun e => decide (65536 < e.2.list.length)) || decide (1048576 < sumB pre)
def allB (pre : List (Nat × V)) : Bool := pre.all fun e => oneV Lib.validD e.2
theorem sumB_snoc (pre : List (Nat × V)) (e : Nat × V) : sumB (pre ++ [e]) = sumB pre + ownB e.2 := by unfold sumB; rw [List.map_append, List.sum_append]; simp
theorem sumB_append (a b : List (Nat × V)) : sumB (a ++ b) = sumB a + sumB b := by unfold sumB; rw [List.map_append, List.sum_append]
theorem overB_snoc (pre : List (Nat × V)) (e : Nat × V) : overB (pre ++ [e]) = (overB pre || decide (64 < e.1) || decide (65536 < e.2.list.length) || decide (1048576 < sumB pre + ownB e.2)) := by
  unfold overB
  rw [sumB_snoc, List.any_append, List.any_append]
  have h : (decide (1048576 < sumB pre) || decide (1048576 < sumB pre + ownB e.2)) = decide (1048576 < sumB pre + ownB e.2) := by
    by_cases h : 1048576 < sumB pre
    · have : 1048576 < sumB pre + ownB e.2 := by omega
      simp [h, this]
    · simp [h]
  generalize decide (1048576 < sumB pre) = a at *
  generalize decide (1048576 < sumB pre + ownB e.2) = b at *
  simp only [List.any_cons, List.any_nil, Bool.or_false]
  generalize pre.any _ = c
  generalize pre.any _ = c'
  generalize decide (64 < e.1) = f
  generalize decide (65536 < _) = g
  cases a <;> cases b <;> cases c <;> cases c' <;> cases f <;> cases g <;> simp_all
theorem sums_pre : ∀ v : V, ∀ d, sumB (preV d v) = bytesV v ∧ allB (preV d v) = mayV Lib.validD v ∧ (∀ K, (preV d v).any (fun e => decide (K < e.1)) = decide (K + 1 < d + deepV v)) ∧ (∀ K, (preV d v).any (fun e => decide (K < e.2.list.length)) = decide (K < longV v)) := by
  refine V.ind fun k b n t ks l ih => ?_
  intro d
  have hl : ∀ (m : List V), (∀ v ∈ m, v ∈ l) → ∀ d, sumB (preVs d m) = bytesVs m ∧ allB (preVs d m) = mayVs Lib.validD m ∧ (∀ K, (preVs d m).any (fun e => decide (K < e.1)) = decide (m ≠ [] ∧ K + 1 < d + deepVs m)) ∧ (∀ K, (preVs d m).any (fun e => decide (K < e.2.list.length)) = decide (K < longVs m)) := by
    intro m
    induction m with
    | nil => intro _ d; exact ⟨rfl, rfl, fun K => by simp [preVs], fun K => by simp [preVs, longVs]⟩
    | cons a r ihr =>
      intro hm d
      obtain ⟨h1, h2, h3, h4⟩ := ih a (hm a (by simp)) d
      obtain ⟨g1, g2, g3, g4⟩ := ihr (fun v hv => hm v (by simp [hv])) d
      have hd : 1 ≤ deepV a := by cases a; rw [deepV]; omega
      refine ⟨by rw [preVs, sumB_append, h1, g1, bytesVs], ?_, fun K => ?_, fun K => ?_⟩
      · unfold allB at *; rw [preVs, List.all_append, h2, g2, mayVs]
      · rw [preVs, List.any_append, h3, g3, deepVs, Bool.eq_iff_iff]
        simp only [Bool.or_eq_true, decide_eq_true_eq]
        constructor
        · rintro (h | ⟨_, h⟩)
          · exact ⟨by simp, by have := Nat.le_max_left (deepV a) (deepVs r); omega⟩
          · exact ⟨by simp, by have := Nat.le_max_right (deepV a) (deepVs r); omega⟩
        · rintro ⟨_, h⟩
          rcases Nat.le_total (deepV a) (deepVs r) with e | e
          · rw [Nat.max_eq_right e] at h
            refine .inr ⟨fun e0 => ?_, h⟩
            subst e0; rw [deepVs] at e; omega
          · rw [Nat.max_eq_left e] at h; exact .inl h
      · rw [preVs, List.any_append, h4, g4, longVs, Bool.eq_iff_iff]
        simp only [Bool.or_eq_true, decide_eq_true_eq]
        omega
  obtain ⟨g1, g2, g3, g4⟩ := hl l (fun v hv => hv) (d + 1)
  refine ⟨?_, ?_, fun K => ?_, fun K => ?_⟩
  · rw [preV, bytesV, ← g1]; unfold sumB; simp [ownB, V.text, V.keys]
  · rw [preV, mayV, ← g2]; rfl
  · rw [preV, List.any_cons, g3, deepV, Bool.eq_iff_iff]
    simp only [Bool.or_eq_true, decide_eq_true_eq]
    constructor
    · rintro (h | ⟨_, h⟩) <;> omega
    · intro h
      by_cases hK : K < d
      · exact .inl hK
      · refine .inr ⟨fun e0 => ?_, by omega⟩
        subst e0; rw [deepVs] at h; omega
  · rw [preV, List.any_cons, g4, longV, Bool.eq_iff_iff]
    simp only [Bool.or_eq_true, decide_eq_true_eq]
    show (K < l.length ∨ K < longVs l) ↔ K < max l.length (longVs l)
    omega
theorem overB_pre (v : V) : overB (preV 1 v) = (decide (64 < deepV v) || decide (1048576 < bytesV v) || decide (65536 < longV v)) := by
  obtain ⟨h1, _, h3, h4⟩ := sums_pre v 1
  unfold overB
  rw [h1, h3, h4]
  have e : decide (64 + 1 < 1 + deepV v) = decide (64 < deepV v) := by rw [decide_eq_decide]; omega
  rw [e, Bool.or_assoc, Bool.or_assoc, Bool.or_comm (decide (65536 < longV v))]
theorem checkV_eq (v : V) : checkV Lib.validD v = if allB (preV 1 v) then (if overB (preV 1 v) then 3 else 0) else 110 := by
  unfold checkV; rw [overB_pre, (sums_pre v 1).2.1]

/-- Check's own blocks: what it answers, how many bytes, whether it is too great. -/
structure MidC (w : World) (B : Nat) (x : Array Value) (n : Nat) (ov : Bool) (W : World) : Prop where
  below : Below w.heap.size w W
  box : W.heap[B]? = some (.cells x 26 (0, 0))
  res : W.heap[w.heap.size + 1]? = some (.cells #[.int .i64 0] 34 (0, 0))
  sum : W.heap[w.heap.size + 2]? = some (.cells #[.int .i64 (n : Int)] 3 (0, 0))
  over : W.heap[w.heap.size + 3]? = some (.cells #[.bool ov] 4 (0, 0))
theorem MidC.touch {w W W' : World} {B : Nat} {x : Array Value} {n : Nat} {ov : Bool} {S : Nat → Prop} (h : MidC w B x n ov W) (g : Touch S W W') (h1 : ∀ b, b ≤ w.heap.size + 4 → ¬ S b) (hB : ¬ S B) : MidC w B x n ov W' :=
  ⟨g.below h.below (fun b hb => h1 b (by omega)) h.below.size, g.heap h.box hB, g.heap h.res (h1 _ (by omega)), g.heap h.sum (h1 _ (by omega)), g.heap h.over (h1 _ (by omega))⟩
theorem MidC.setSum {w W : World} {B : Nat} {x : Array Value} {n : Nat} {ov : Bool} (h : MidC w B x n ov W) (hB : w.heap.size + 4 ≤ B) (m : Nat) : MidC w B x m ov (W.setCell ⟨w.heap.size + 2, 0, none⟩ (.int .i64 (m : Int))) := by
  have o : ∀ b, b ≠ w.heap.size + 2 → (W.setCell ⟨w.heap.size + 2, 0, none⟩ (.int .i64 (m : Int))).heap[b]? = W.heap[b]? := fun b hb => Below.heap_setCell _ _ _ _ hb
  exact ⟨belowSet h.below (by omega) _, (o _ (by omega)).trans h.box, (o _ (by omega)).trans h.res, box_set _ h.sum, (o _ (by omega)).trans h.over⟩
theorem MidC.setOver {w W : World} {B : Nat} {x : Array Value} {n : Nat} {ov : Bool} (h : MidC w B x n ov W) (hB : w.heap.size + 4 ≤ B) (m : Bool) : MidC w B x n m (W.setCell ⟨w.heap.size + 3, 0, none⟩ (.bool m)) := by
  have o : ∀ b, b ≠ w.heap.size + 3 → (W.setCell ⟨w.heap.size + 3, 0, none⟩ (.bool m)).heap[b]? = W.heap[b]? := fun b hb => Below.heap_setCell _ _ _ _ hb
  exact ⟨belowSet h.below (by omega) _, (o _ (by omega)).trans h.box, (o _ (by omega)).trans h.res, (o _ (by omega)).trans h.sum, box_set _ h.over⟩
theorem put_n {w : World} {ad : Addr} {n : Int} {u : Value} (hc : w.cell? ad = some u) (hf : w.frozen? ad = false) : (storeVar 3 ad (.int .i64 n)).run Tryz.prog w = .ok () (w.setCell ad (.int .i64 n)) := by
  simp [storeVar, go_sem, hc, hf]
theorem put_b {w : World} {ad : Addr} {n : Bool} {u : Value} (hc : w.cell? ad = some u) (hf : w.frozen? ad = false) : (storeVar 4 ad (.bool n)).run Tryz.prog w = .ok () (w.setCell ad (.bool n)) := by
  simp [storeVar, go_sem, hc, hf]
/-- Which blocks a round turns. -/
def SC (w : World) (b : Nat) : Prop := b = w.heap.size + 1 ∨ b = w.heap.size + 2 ∨ b = w.heap.size + 3
theorem bytes_tot : ∀ v : V, bytesV v ≤ totV v := by
  refine V.ind fun k b n t ks l ih => ?_
  have hl : ∀ m : List V, (∀ v ∈ m, v ∈ l) → bytesVs m ≤ totVs m := by
    intro m
    induction m with
    | nil => intro _; simp [bytesVs]
    | cons a r ihr => intro hm; rw [bytesVs, totVs_cons]; have := ih a (hm a (by simp)); have := ihr (fun v hv => hm v (by simp [hv])); omega
  rw [bytesV, totV_mk]
  have := hl l (fun v hv => hv)
  omega
set_option maxRecDepth 100000 in
set_option maxHeartbeats 4000000 in
theorem check_ok {v : V} {w : World} {x : Array Value} (hE : Env w) (hx : VRd w v x) (ht : totV v ≤ 1099511627776) :
    Calls Tryz.prog 45 #[.agg x] w fun e w' => e = .returned (.int .i64 (checkV Lib.validD v)) ∧ Below w.heap.size w w' := by
  have hC := checkV_eq v
  have hbt := bytes_tot v
  have hsb := (sums_pre v 1).1
  have hx0 := hx
  obtain ⟨pk, ck, pl, cl, rfl, _, hk1, hl1⟩ := hx.open
  have HX := Lib.hid hx0
  have HE := Lib.hid hE
  have HC := Lib.hid hC
  clear hk1 hl1 hx hx0 hE hC
  refine calls_of_wp_marks Tryz.func45 rfl ?_
  simp only [Tryz.ntmps45, List.size_toArray, List.length_cons, List.length_nil, Nat.reduceAdd, Nat.reduceSub, Array.replicate_succ, Array.replicate_zero, List.push_toArray, List.append_toArray, List.nil_append, List.cons_append]
  go_wp2_with (go_at_call 85; refine (all_any _ _ _ _ _ _ _ rfl _).mono ?_; rintro e w' ⟨rfl, rfl⟩)
  generalize hw1 : ((((w.alloc _).alloc _).alloc _).alloc _).alloc _ = W1
  have hM : MidC w (w.heap.size + 4) #[.int .i64 v.kind, .bool v.b, .int .i64 v.n, .string (strB v.text), .slice pk v.keys.length ck, .slice pl v.list.length cl] 0 false W1 := by
    rw [← hw1]
    refine ⟨((((below_new _).alloc (by simp) _).alloc (by simp; omega) _).alloc (by simp; omega) _).alloc (by simp; omega) _, ?_, ?_, ?_, ?_⟩ <;>
    · simp only [heap_get_alloc, World.size_alloc]; repeat (first | rfl | rw [if_pos (by omega)] | rw [if_neg (by omega)])
  have hs1 : W1.heap.size = w.heap.size + 5 := by rw [← hw1]; simp
  clear hw1
  refine wp_rangeA (gf := 112) (gfn := Tryz.f112) (lb := #[.pointer (some ⟨w.heap.size + 4, 0, none⟩)]) rfl Tryz.func112 rfl rfl
    (iter_all (w0 := w) (w.heap.size + 4) HX.out (by omega)) (fun _ => rfl)
    (fun pre W => MidC w (w.heap.size + 4) #[.int .i64 v.kind, .bool v.b, .int .i64 v.n, .string (strB v.text), .slice pk v.keys.length ck, .slice pl v.list.length cl] (sumB (pre.map dv)) (overB (pre.map dv)) W ∧ allB (pre.map dv) = true)
    (fun c W => c = .ret ∧ Below w.heap.size w W ∧ W.heap[w.heap.size + 1]? = some (.cells #[.int .i64 110] 34 (0, 0)) ∧ allB (preV 1 v) = false)
    (SC w) (fun b hb => by unfold SC at hb; omega) ?h0 ?hpre ?hkeep ?hput ?hputx ?hround ?hdone ?hstop
  case h0 =>
    intro W hB' hsz
    exact ⟨hM.touch (Touch.of_below hB' (S := fun b => W1.heap.size ≤ b) (fun b _ hb => hb)) (fun b hb => by omega) (by omega), rfl⟩
  case hpre => exact fun pre W h => ⟨h.1.below, h.1.box⟩
  case hkeep => exact fun pre W W' h hs hk => ⟨h.1.touch hk (fun b hb => by omega) (by omega), h.2⟩
  case hput =>
    intro pre W o h
    have hp : Touch (fun b => b = W1.heap.size + 1) W (W.putObj (W1.heap.size + 1) o) := (Touch.refl _ _).putObj (.inl (by exact rfl)) o
    exact ⟨h.1.touch hp (fun b hb => by omega) (by omega), h.2⟩
  case hputx =>
    rintro c W o ⟨h1, h2, h3, h4⟩
    have hp : Touch (fun b => b = W1.heap.size + 1) W (W.putObj (W1.heap.size + 1) o) := (Touch.refl _ _).putObj (.inl (by exact rfl)) o
    exact ⟨h1, below_putObj h2 (by omega), hp.heap h3 (by omega), h4⟩
  case hround =>
    rintro r0 r' pre ⟨d, s1, x1⟩ W hok ⟨hI, hgood⟩ hsz hl
    have hv1 : VRd w s1 x1 := hok.2 _ (List.mem_append_right _ (List.mem_singleton.2 rfl))
    obtain ⟨rest, hrest⟩ := hok.1
    rw [List.map_append] at hrest
    have hrest2 : preV 1 v = (pre.map dv ++ [(d, s1)]) ++ rest := hrest
    have hsum : sumB (pre.map dv) + ownB s1 ≤ 1099511627776 := by
      rw [hrest2, sumB_append, sumB_snoc] at hsb
      simp only at hsb
      omega
    have hmem : (d, s1) ∈ preV 1 v := by rw [hrest2]; simp
    have hdv : (pre ++ [((d, s1, x1) : Yd)]).map dv = pre.map dv ++ [(d, s1)] := by rw [List.map_append]; rfl
    have hov := overB_snoc (pre.map dv) (d, s1)
    have hsn := sumB_snoc (pre.map dv) (d, s1)
    have hal : allB (pre.map dv ++ [(d, s1)]) = oneV Lib.validD s1 := by unfold allB at *; rw [List.all_append, hgood]; simp
    have hbad : oneV Lib.validD s1 = false → allB (preV 1 v) = false := fun h => by
      unfold allB
      rw [List.all_eq_false]
      exact ⟨_, hmem, by simp [h]⟩
    have hcall := fun (W' : World) (hb : Below w.heap.size w W') => may_any (HE.out.b hb) (hv1.below hb)
    obtain ⟨pk1, ck1, pl1, cl1, rfl, htx, hk1, hl1⟩ := hv1.open
    rw [hdv]
    simp only at hov hsn
    generalize oneV Lib.validD s1 = on at *
    have HD := Lib.hid (And.intro hov (And.intro hsn (And.intro hal (And.intro hbad (And.intro hcall (And.intro hk1 hsum))))))
    clear hv1 hrest hrest2 hmem hdv hov hsn hal hbad hcall hsb hbt hM hok
    generalize sumB (pre.map dv) = sm at *
    generalize overB (pre.map dv) = ob at *
    generalize sumB (pre.map dv ++ [(d, s1)]) = sm' at *
    generalize overB (pre.map dv ++ [(d, s1)]) = ob' at *
    generalize allB (pre.map dv ++ [(d, s1)]) = al' at *
    simp only [encY]
    refine wpIn_seq_k (fun K1 hK1 => ?_)
    refine round_region (by kernel_rfl) ?_
    go_wp2
    refine hK1 _ _ ?_
    refine round_region (by kernel_rfl) ?_
    go_wp2
    have hA := below_new (w := W) (.cells #[.int .i64 s1.kind, .bool s1.b, .int .i64 s1.n, .string (strB s1.text), .slice pk1 s1.keys.length ck1, .slice pl1 s1.list.length cl1] 26)
    have hAn := heap_alloc_new W (.cells #[.int .i64 s1.kind, .bool s1.b, .int .i64 s1.n, .string (strB s1.text), .slice pk1 s1.keys.length ck1, .slice pl1 s1.list.length cl1] 26)
    have hllt := (Array.getElem?_eq_some_iff.1 hl).1
    refine ⟨Touch.of_below hA (fun b h1 h2 => absurd h1 (by omega)), belowBlk hA hllt hl, fun w₂ hw2 => ?_⟩
    have hp : Touch (fun b => b = W1.heap.size + 1) (W.alloc (.cells #[.int .i64 s1.kind, .bool s1.b, .int .i64 s1.n, .string (strB s1.text), .slice pk1 s1.keys.length ck1, .slice pl1 s1.list.length cl1] 26)) w₂ := by rw [hw2]; exact (Touch.refl _ _).putObj (.inl (by exact rfl)) _
    have hI2 := (hI.touch (Touch.of_below hA (S := fun _ => False) (fun b h1 h2 => absurd h1 (by omega))) (fun _ _ h => h) (fun h => h)).touch hp (fun b hb => by omega) (by omega)
    have h6 := hp.heap hAn (by omega)
    have hlt6 : w.heap.size + 5 < W.heap.size := by omega
    clear hw2 hp hA hAn hI hl hllt
    generalize W.heap.size = b6 at *
    have H6 := Lib.hid (get_val h6)
    have HI := Lib.hid (And.intro hI2 (And.intro h6 (And.intro hlt6 hs1)))
    clear hI2 h6 hlt6 hs1 hsz hgood
    refine wpIn_block ?_
    refine wpIn_seq_k (fun K2 hK2 => ?_)
    refine wpIn_seq_k (fun K3 hK3 => ?_)
    refine round_region (by kernel_rfl) ?_
    go_wp2_with (first
      | (refine wpList_load rfl _ _ _ rfl rfl H6.out ?_)
      | (go_at_call 86
         (
           refine (HD.out.2.2.2.2.1 _ HI.out.1.below).mono ?_
           rintro e w3 ⟨rfl, hb3⟩
           have HB3 := Lib.hid hb3
           clear hb3)))
    refine hK3 _ _ ?_
    have hT3 : Touch (SC w) w₂ w3 := Touch.of_below HB3.out (fun b h1 h2 => absurd h1 (by omega))
    have hI3 := HI.out.1.touch (S := fun _ => False) (Touch.of_below HB3.out (fun b h1 h2 => absurd h1 (by omega))) (fun _ _ h => h) (fun h => h)
    have h63 := belowBlk HB3.out (Array.getElem?_eq_some_iff.1 HI.out.2.1).1 HI.out.2.1
    clear HB3 H6
    cases on with
    | false =>
      have hst := put_errno (n := 110) (cellOf (o := 0) hI3.res rfl) (freeOf (o := 0) hI3.res)
      have hcell := box_set (k := 0) (.int .i64 110) hI3.res
      have hT4 : Touch (SC w) w₂ (w3.setCell ⟨w.heap.size + 1, 0, none⟩ (.int .i64 110)) := hT3.setCell (.inl (.inl rfl)) _
      have hb4 := belowSet (b := w.heap.size + 1) (o := 0) hI3.below (by omega) (.int .i64 110)
      generalize w3.setCell ⟨w.heap.size + 1, 0, none⟩ (.int .i64 110) = w4 at *
      have HS := Lib.hid hst
      have HF := Lib.hid (And.intro hT4 (And.intro hb4 hcell))
      clear hst hcell hT4 hb4 hT3 hI3 h63
      refine wpIn_cond_true rfl ?_
      refine wpIn_seq_k (fun K4 hK4 => ?_)
      refine round_region (by kernel_rfl) ?_
      go_wp2_with (refine wpList_store rfl _ _ _ _ rfl rfl rfl HS.out ?_)
      refine hK4 _ _ ?_
      refine wpIn_ret ?_
      exact ⟨HF.out.1, rfl, HF.out.2.1, HF.out.2.2, HD.out.2.2.2.1 (by simp)⟩
    | true =>
      refine wpIn_cond_false rfl ?_
      refine wpIn_skip ?_
      refine hK2 _ _ ?_
      have hsz1 : (strB s1.text).size = s1.text.length := rfl
      have q3 := cellOf (o := 0) hI3.sum rfl
      have q63 := cellOf (o := 3) h63 rfl
      have hst := put_n (n := (sm : Int) + (s1.text.length : Int)) (cellOf (o := 0) hI3.sum rfl) (freeOf (o := 0) hI3.sum)
      have hI4 := hI3.setSum (by omega) (sm + s1.text.length)
      rw [Int.natCast_add] at hI4
      have hT4 : Touch (SC w) w₂ (w3.setCell ⟨w.heap.size + 2, 0, none⟩ (.int .i64 ((sm : Int) + (s1.text.length : Int)))) := hT3.setCell (.inl (.inr (.inl rfl))) _
      have h64 := (Below.heap_setCell w3 ⟨w.heap.size + 2, 0, none⟩ (.int .i64 ((sm : Int) + (s1.text.length : Int))) b6 (by show b6 ≠ w.heap.size + 2; have := HI.out.2.2.1; omega)).trans h63
      generalize w3.setCell ⟨w.heap.size + 2, 0, none⟩ (.int .i64 ((sm : Int) + (s1.text.length : Int))) = w4 at *
      have hown : ownB s1 = s1.text.length + (s1.keys.map List.length).sum := rfl
      have hsum2 := HD.out.2.2.2.2.2.2
      have z3 : (sm : Int) + (s1.text.length : Int) ≤ 1099511627776 := by omega
      have q64 := cellOf (o := 4) h64 rfl
      have HS := Lib.hid hst
      have HI4 := Lib.hid (And.intro hI4 (And.intro h64 hT4))
      clear hst hI4 h64 hT4 hT3 hI3 h63 hown hsum2 q64
      refine wpIn_seq_k (fun K4 hK4 => ?_)
      refine round_region (by kernel_rfl) ?_
      go_wp2_with (refine wpList_store rfl _ _ _ _ rfl rfl rfl HS.out ?_)
      refine hK4 _ _ ?_
      refine wpIn_seq_k (fun K5 hK5 => ?_)
      refine wpIn_seq_k (fun K6 hK6 => ?_)
      refine round_region (by kernel_rfl) ?_
      clear q3 q63
      have q64 := cellOf (o := 4) HI4.out.2.1 rfl
      go_wp2
      refine hK6 _ _ ?_
      refine wpIn_block ?_
      have z1 : (s1.keys.length : Int) ≤ 140737488355328 := by have := HD.out.2.2.2.2.2.1.1; have := HD.out.2.2.2.2.2.1.2.1; omega
      gi_loopw [25] (fun i W5 => ∃ j : Nat, j ≤ s1.keys.length ∧ i = .int .i64 (j : Int) ∧ Hid (MidC w (w.heap.size + 4) #[.int .i64 v.kind, .bool v.b, .int .i64 v.n, .string (strB v.text), .slice pk v.keys.length ck, .slice pl v.list.length cl] (sm + s1.text.length + ((s1.keys.take j).map List.length).sum) ob W5 ∧ W5.heap[b6]? = some (.cells #[.int .i64 s1.kind, .bool s1.b, .int .i64 s1.n, .string (strB s1.text), .slice pk1 s1.keys.length ck1, .slice pl1 s1.list.length cl1] 26 (0, 0)) ∧ Touch (SC w) w₂ W5)) (fun i _ => s1.keys.length - (intOf i).toNat)
      case atStart => exact ⟨0, Nat.zero_le _, rfl, Lib.hid ⟨by rw [List.take_zero, List.map_nil, List.sum_nil, Nat.add_zero]; exact HI4.out.1, HI4.out.2.1, HI4.out.2.2⟩⟩
      case round =>
        obtain ⟨j, hj, rfl, HJ⟩ := hrel
        clear q64 hsz1 z3 HS HI4
        by_cases hlt : j < s1.keys.length
        · have hlt1 : j + 1 ≤ s1.keys.length := hlt
          refine wpIn_seq_k (fun K7 hK7 => ?_)
          refine round_region (by kernel_rfl) ?_
          go_wp2
          refine hK7 _ _ ?_
          refine wpIn_seq_k (fun K8 hK8 => ?_)
          refine wpIn_cond_true rfl ?_
          refine wpIn_skip ?_
          refine hK8 _ _ ?_
          refine wpIn_seq_k (fun K9 hK9 => ?_)
          refine wpIn_block ?_
          obtain ⟨hI5, h65, hT5⟩ := HJ.out
          obtain ⟨bk, ok, rfl, q0, hsl⟩ := (HD.out.2.2.2.2.2.1.below hI5.below).get hlt
          have hge : ((s1.keys.take (j + 1)).map List.length).sum = ((s1.keys.take j).map List.length).sum + s1.keys[j].length := by
            rw [List.take_succ_eq_append_getElem hlt, List.map_append, List.sum_append]; simp
          have hle : ((s1.keys.take (j + 1)).map List.length).sum ≤ (s1.keys.map List.length).sum := by
            have e : s1.keys.take (j + 1) ++ s1.keys.drop (j + 1) = s1.keys := List.take_append_drop _ _
            have := congrArg (fun l : List (List UInt8) => (l.map List.length).sum) e
            simp only [List.map_append, List.sum_append] at this
            omega
          have hown : ownB s1 = s1.text.length + (s1.keys.map List.length).sum := rfl
          have hsum2 := HD.out.2.2.2.2.2.2
          rw [hge] at hle
          generalize s1.keys[j] = kk at *
          generalize hsj : sm + s1.text.length + ((s1.keys.take j).map List.length).sum = sj at *
          have z3 : (sj : Int) + (kk.length : Int) ≤ 1099511627776 := by omega
          have hszk : (strB kk).size = kk.length := rfl
          have q3 := cellOf (o := 0) hI5.sum rfl
          have hst := put_n (n := (sj : Int) + (kk.length : Int)) (cellOf (o := 0) hI5.sum rfl) (freeOf (o := 0) hI5.sum)
          have hI6 := hI5.setSum (by omega) (sj + kk.length)
          rw [Int.natCast_add] at hI6
          have hT6 : Touch (SC w) w₂ (wr.setCell ⟨w.heap.size + 2, 0, none⟩ (.int .i64 ((sj : Int) + (kk.length : Int)))) := hT5.setCell (.inl (.inr (.inl rfl))) _
          have h66 := (Below.heap_setCell wr ⟨w.heap.size + 2, 0, none⟩ (.int .i64 ((sj : Int) + (kk.length : Int))) b6 (by show b6 ≠ w.heap.size + 2; have := HI.out.2.2.1; omega)).trans h65
          generalize wr.setCell ⟨w.heap.size + 2, 0, none⟩ (.int .i64 ((sj : Int) + (kk.length : Int))) = w6 at *
          have hfin : sj + kk.length = sm + s1.text.length + ((s1.keys.take (j + 1)).map List.length).sum := by omega
          rw [hfin] at hI6
          have HS := Lib.hid hst
          have HF := Lib.hid (And.intro hI6 (And.intro h66 hT6))
          clear hst hI5 hI6 hT5 hT6 h65 h66 hge hle hown hsum2 hfin hsj HJ
          refine wpIn_seq_k (fun K10 hK10 => ?_)
          refine round_region (by kernel_rfl) ?_
          go_wp2
          refine hK10 _ _ ?_
          refine round_region (by kernel_rfl) ?_
          go_wp2_with (refine wpList_store rfl _ _ _ _ rfl rfl rfl HS.out ?_)
          refine hK9 _ _ ?_
          refine round_region (by kernel_rfl) ?_
          go_wp2
          refine ⟨?_, by simp [intOf]; omega⟩
          repeat apply Exists.intro
          exact ⟨⟨j + 1, hlt1, by go_num, HF⟩, rfl⟩
        · obtain rfl : j = s1.keys.length := by omega
          refine wpIn_seq_k (fun K7 hK7 => ?_)
          refine round_region (by kernel_rfl) ?_
          go_wp2
          refine hK7 _ _ ?_
          refine wpIn_seq_k (fun K8 hK8 => ?_)
          refine wpIn_cond_false rfl ?_
          refine wpIn_exit ?_
          refine hK5 _ _ ?_
          obtain ⟨hI5, h65, hT5⟩ := HJ.out
          rw [List.take_length] at hI5
          have hsm : sm + s1.text.length + (s1.keys.map List.length).sum = sm' := by have := HD.out.2.1; unfold ownB at this; omega
          rw [hsm] at hI5
          have hov := HD.out.1
          rw [← HD.out.2.1] at hov
          have z5 : (sm' : Int) ≤ 1099511627776 := by have := HD.out.2.1; have := HD.out.2.2.2.2.2.2; omega
          have q4 := cellOf (o := 0) hI5.over rfl
          have q65 := cellOf (o := 5) h65 rfl
          have q3 := cellOf (o := 0) hI5.sum rfl
          cases ob with
          | true =>
            have hob' : ob' = true := by rw [hov]; simp
            have hst := put_b (n := true) (cellOf (o := 0) hI5.over rfl) (freeOf (o := 0) hI5.over)
            have hI6 := hI5.setOver (by omega) true
            have hT6 : Touch (SC w) w₂ (wr.setCell ⟨w.heap.size + 3, 0, none⟩ (.bool true)) := hT5.setCell (.inl (.inr (.inr rfl))) _
            generalize wr.setCell ⟨w.heap.size + 3, 0, none⟩ (.bool true) = w6 at *
            have HSt := Lib.hid hst
            have HF := Lib.hid (And.intro hT6 (And.intro hI6 hob'))
            clear hst hI5 hI6 hT5 hT6 h65 HJ hov hob' hsm
            refine round_region (by kernel_rfl) ?_
            go_wp2_with (refine wpList_store rfl _ _ _ _ rfl rfl rfl HSt.out ?_)
            exact ⟨HF.out.1, by rw [HF.out.2.2]; exact HF.out.2.1, HD.out.2.2.1⟩
          | false =>
            by_cases hd : 64 < d
            · have hd1 : (64 : Int) < (d : Int) := by omega
              have hob' : ob' = true := by rw [hov]; simp [hd]
              have hst := put_b (n := true) (cellOf (o := 0) hI5.over rfl) (freeOf (o := 0) hI5.over)
              have hI6 := hI5.setOver (by omega) true
              have hT6 : Touch (SC w) w₂ (wr.setCell ⟨w.heap.size + 3, 0, none⟩ (.bool true)) := hT5.setCell (.inl (.inr (.inr rfl))) _
              generalize wr.setCell ⟨w.heap.size + 3, 0, none⟩ (.bool true) = w6 at *
              have HSt := Lib.hid hst
              have HF := Lib.hid (And.intro hT6 (And.intro hI6 hob'))
              clear hst hI5 hI6 hT5 hT6 h65 HJ hov hob' hsm
              refine round_region (by kernel_rfl) ?_
              go_wp2_with (refine wpList_store rfl _ _ _ _ rfl rfl rfl HSt.out ?_)
              exact ⟨HF.out.1, by rw [HF.out.2.2]; exact HF.out.2.1, HD.out.2.2.1⟩
            by_cases hll : 65536 < s1.list.length
            · have hl1 : (65536 : Int) < (s1.list.length : Int) := by omega
              have hob' : ob' = true := by rw [hov]; simp [hll]
              have hst := put_b (n := true) (cellOf (o := 0) hI5.over rfl) (freeOf (o := 0) hI5.over)
              have hI6 := hI5.setOver (by omega) true
              have hT6 : Touch (SC w) w₂ (wr.setCell ⟨w.heap.size + 3, 0, none⟩ (.bool true)) := hT5.setCell (.inl (.inr (.inr rfl))) _
              generalize wr.setCell ⟨w.heap.size + 3, 0, none⟩ (.bool true) = w6 at *
              have HSt := Lib.hid hst
              have HF := Lib.hid (And.intro hT6 (And.intro hI6 hob'))
              clear hst hI5 hI6 hT5 hT6 h65 HJ hov hob' hsm
              refine round_region (by kernel_rfl) ?_
              go_wp2_with (refine wpList_store rfl _ _ _ _ rfl rfl rfl HSt.out ?_)
              exact ⟨HF.out.1, by rw [HF.out.2.2]; exact HF.out.2.1, HD.out.2.2.1⟩
            by_cases hbb : 1048576 < sm'
            · have hb1 : (1048576 : Int) < (sm' : Int) := by omega
              have hob' : ob' = true := by rw [hov]; simp [hbb]
              have hst := put_b (n := true) (cellOf (o := 0) hI5.over rfl) (freeOf (o := 0) hI5.over)
              have hI6 := hI5.setOver (by omega) true
              have hT6 : Touch (SC w) w₂ (wr.setCell ⟨w.heap.size + 3, 0, none⟩ (.bool true)) := hT5.setCell (.inl (.inr (.inr rfl))) _
              generalize wr.setCell ⟨w.heap.size + 3, 0, none⟩ (.bool true) = w6 at *
              have HSt := Lib.hid hst
              have HF := Lib.hid (And.intro hT6 (And.intro hI6 hob'))
              clear hst hI5 hI6 hT5 hT6 h65 HJ hov hob' hsm
              refine round_region (by kernel_rfl) ?_
              go_wp2_with (refine wpList_store rfl _ _ _ _ rfl rfl rfl HSt.out ?_)
              exact ⟨HF.out.1, by rw [HF.out.2.2]; exact HF.out.2.1, HD.out.2.2.1⟩
            · have hob' : ob' = false := by rw [hov]; simp [hd, hll, hbb]
              have hd1 : decide ((64 : Int) < (d : Int)) = false := by rw [decide_eq_false_iff_not]; omega
              have hl1 : decide ((65536 : Int) < (s1.list.length : Int)) = false := by rw [decide_eq_false_iff_not]; omega
              have hb1 : decide ((1048576 : Int) < (sm' : Int)) = false := by rw [decide_eq_false_iff_not]; omega
              have hst := put_b (n := false) (cellOf (o := 0) hI5.over rfl) (freeOf (o := 0) hI5.over)
              have hI6 := hI5.setOver (by omega) false
              have hT6 : Touch (SC w) w₂ (wr.setCell ⟨w.heap.size + 3, 0, none⟩ (.bool false)) := hT5.setCell (.inl (.inr (.inr rfl))) _
              generalize wr.setCell ⟨w.heap.size + 3, 0, none⟩ (.bool false) = w6 at *
              have HSt := Lib.hid hst
              have HF := Lib.hid (And.intro hT6 (And.intro hI6 hob'))
              clear hst hI5 hI6 hT5 hT6 h65 HJ hov hob' hsm
              refine round_region (by kernel_rfl) ?_
              go_wp2_with (refine wpList_store rfl _ _ _ _ rfl rfl rfl HSt.out ?_)
              exact ⟨HF.out.1, by rw [HF.out.2.2]; exact HF.out.2.1, HD.out.2.2.1⟩
  case hstop =>
    rintro c W ⟨rfl, hb, hres, hno⟩ hD
    refine wp_ret ?_
    have hp : Touch (fun b => b = W1.heap.size) W (W.putObj W1.heap.size (.deferred none)) := (Touch.refl _ _).putObj (.inl (by exact rfl)) _
    refine leave_two (f := 84) (args := #[.pointer (some ⟨w.heap.size + 1, 0, none⟩)]) (by simp) hD (enters_plain Tryz.func84 rfl rfl _ _) ((caught_idle _ _).mono ?_)
    rintro e u' w' ⟨rfl, rfl, rfl⟩
    exact ⟨rfl, rfl, .int .i64 110, results_cell_one rfl _ _ ⟨w.heap.size + 1, 0, none⟩ _ rfl (run_load1 Tryz.underlying34 rfl (cellOf (o := 0) (hp.heap hres (by omega)) rfl)), ret_int (by rw [HC.out, hno]; rfl), below_putObj hb (by omega)⟩
  case hdone =>
    rintro xs W ⟨hok, hall⟩ ⟨hI, hgood⟩ hD
    rw [← hall] at hI hgood
    have hlt := (Array.getElem?_eq_some_iff.1 hI.over).1
    cases hov : overB (preV 1 v) with
    | false =>
      rw [hov] at hI
      have q4 := cellOf (o := 0) hI.over rfl
      have hst := put_errno (n := 0) (cellOf (o := 0) hI.res rfl) (freeOf (o := 0) hI.res)
      have hcell := box_set (k := 0) (.int .i64 0) hI.res
      have hb2 := belowSet (b := w.heap.size + 1) (o := 0) hI.below (by omega) (.int .i64 0)
      have hD2 := (Below.heap_setCell W ⟨w.heap.size + 1, 0, none⟩ (.int .i64 0) W1.heap.size (by show W1.heap.size ≠ w.heap.size + 1; omega)).trans hD
      generalize hW2 : W.setCell ⟨w.heap.size + 1, 0, none⟩ (.int .i64 0) = W2 at *
      have HS := Lib.hid hst
      have HF := Lib.hid (And.intro hcell (And.intro hb2 (And.intro hD2 (And.intro hgood (And.intro hov hs1)))))
      clear hok hall hI hgood hD hlt hst hcell hb2 hD2 hW2 hov hM hs1 ht hbt hsb
      go_wp2_with (refine wpList_store rfl _ _ _ _ rfl rfl rfl HS.out ?_)
      obtain ⟨hcell, hb2, hD2, hgood, hov, hs1⟩ := HF.out
      have hp : Touch (fun b => b = W1.heap.size) W2 (W2.putObj W1.heap.size (.deferred none)) := (Touch.refl _ _).putObj (.inl (by exact rfl)) _
      refine leave_two (f := 84) (args := #[.pointer (some ⟨w.heap.size + 1, 0, none⟩)]) (by simp) hD2 (enters_plain Tryz.func84 rfl rfl _ _) ((caught_idle _ _).mono ?_)
      rintro e u' w' ⟨rfl, rfl, rfl⟩
      exact ⟨rfl, rfl, .int .i64 0, results_cell_one rfl _ _ ⟨w.heap.size + 1, 0, none⟩ _ rfl (run_load1 Tryz.underlying34 rfl (cellOf (o := 0) (hp.heap hcell (by omega)) rfl)), ret_int (by rw [HC.out, hgood, hov]; rfl), below_putObj hb2 (by omega)⟩
    | true =>
      rw [hov] at hI
      have q4 := cellOf (o := 0) hI.over rfl
      have HF := Lib.hid (And.intro hI (And.intro hD (And.intro hgood (And.intro hov hs1))))
      clear hok hall hI hgood hD hlt hov hM hs1 ht hbt hsb
      go_wp2
      obtain ⟨hI, hD, hgood, hov, hs1⟩ := HF.out
      have hp : Touch (fun b => b = W1.heap.size) W (W.putObj W1.heap.size (.deferred none)) := (Touch.refl _ _).putObj (.inl (by exact rfl)) _
      have hres := hp.heap hI.res (by omega)
      refine leave_two (f := 84) (args := #[.pointer (some ⟨w.heap.size + 1, 0, none⟩)]) (by simp) hD (enters_plain Tryz.func84 rfl rfl _ _) ((caught_great hres).mono ?_)
      rintro e u' w' ⟨rfl, rfl, h3, hT3⟩
      refine ⟨rfl, rfl, .int .i64 3, results_cell_one rfl _ _ ⟨w.heap.size + 1, 0, none⟩ _ rfl (run_load1 Tryz.underlying34 rfl (cellOf (o := 0) h3 rfl)), ret_int (by rw [HC.out, hgood, hov]; rfl), ?_⟩
      have hb3 := below_putObj (o := .deferred none) (l := W1.heap.size) hI.below (by omega)
      exact hT3.below hb3 (fun b hb e => by omega) hb3.size
end Go.Proofs.YtnkaegdnjfpliaaGreatDoor
