/- The document's Size and Check. Printed by gen_sizer.py. -/
import Derived.Test.YtnkaegdnjfpliaaGreatDoorVmayr
namespace Go.Proofs.YtnkaegdnjfpliaaGreatDoor
set_option linter.unusedSimpArgs false
set_option linter.unusedVariables false
open Go.RowKit

theorem countV_mk (k : Int) (b : Bool) (n : Int) (t : List UInt8) (ks : List (List UInt8)) (l : List V) : countV (.mk k b n t ks l) = 1 + countVs l := by rw [countV]
theorem deepV_mk (k : Int) (b : Bool) (n : Int) (t : List UInt8) (ks : List (List UInt8)) (l : List V) : deepV (.mk k b n t ks l) = deepVs l + 1 := by rw [deepV]
theorem bytesV_mk (k : Int) (b : Bool) (n : Int) (t : List UInt8) (ks : List (List UInt8)) (l : List V) : bytesV (.mk k b n t ks l) = t.length + (ks.map List.length).sum + bytesVs l := by rw [bytesV]
theorem longV_mk (k : Int) (b : Bool) (n : Int) (t : List UInt8) (ks : List (List UInt8)) (l : List V) : longV (.mk k b n t ks l) = max l.length (longVs l) := by rw [longV]
theorem countVs_snoc (l : List V) (v : V) : countVs (l ++ [v]) = countVs l + countV v := by
  induction l with
  | nil => simp [countVs]
  | cons a r ih => simp only [List.cons_append, countVs, ih]; omega
theorem deepVs_snoc (l : List V) (v : V) : deepVs (l ++ [v]) = max (deepVs l) (deepV v) := by
  induction l with
  | nil => simp [deepVs]
  | cons a r ih => simp only [List.cons_append, deepVs, ih]; omega
theorem bytesVs_snoc (l : List V) (v : V) : bytesVs (l ++ [v]) = bytesVs l + bytesV v := by
  induction l with
  | nil => simp [bytesVs]
  | cons a r ih => simp only [List.cons_append, bytesVs, ih]; omega
theorem longVs_snoc (l : List V) (v : V) : longVs (l ++ [v]) = max (longVs l) (longV v) := by
  induction l with
  | nil => simp [longVs]
  | cons a r ih => simp only [List.cons_append, longVs, ih]; omega
/-- All four are within what is counted. -/
theorem sizes_tot : ∀ v : V, countV v ≤ totV v ∧ deepV v ≤ totV v ∧ bytesV v ≤ totV v ∧ longV v ≤ totV v := by
  refine V.ind fun k b n t ks l ih => ?_
  have hl : countVs l ≤ totVs l ∧ deepVs l ≤ totVs l ∧ bytesVs l ≤ totVs l ∧ longVs l ≤ totVs l := by
    induction l with
    | nil => simp [countVs, deepVs, bytesVs, longVs]
    | cons a r ihr =>
      have h1 := ih a (by simp)
      have h2 := ihr fun v hv => ih v (by simp [hv])
      simp only [countVs, deepVs, bytesVs, longVs, totVs]
      omega
  have hn := totVs_length l
  rw [countV_mk, deepV_mk, bytesV_mk, longV_mk, totV_mk]
  omega
/-- What Size tells so far. -/
def SizeAt (c d y g : Int) (ks : List (List UInt8)) (t : List UInt8) (n : Nat) (l : List V) : Prop :=
  c = ((1 + countVs l : Nat) : Int) ∧ d = (deepVs l : Int) ∧ y = ((t.length + (ks.map List.length).sum + bytesVs l : Nat) : Int) ∧ g = ((max n (longVs l) : Nat) : Int)
theorem exec_lenB {a : Act} {w : World} {o : Oper} {x : Operand} {l : List UInt8} (ho : o.op = .call { callee := .builtin .len, args := #[x], argTypes := #[9] }) (hx : a.eval x = .string (strB l)) : (execOp a.eval o).run Tryz.prog w = .ok (.value (.int .i64 (l.length : Int))) w := by
  have e : (strB l).size = l.length := rfl
  unfold execOp; simp only [ho, resolve, invoke, Sem.run_bind, Sem.run_pure, Result.andThen_ok, List.map_toArray, List.map_cons, List.map_nil, hx]; simp [go_sem, e]
theorem exec_max {a : Act} {w : World} {o : Oper} {x y : Operand} {n m : Nat} (ho : o.op = .call { callee := .builtin .max, args := #[x, y], argTypes := #[3, 3] }) (hx : a.eval x = .int .i64 (n : Int)) (hy : a.eval y = .int .i64 (m : Int)) : (execOp a.eval o).run Tryz.prog w = .ok (.value (.int .i64 ((max n m : Nat) : Int))) w := by
  unfold execOp; simp only [ho, resolve, invoke, Sem.run_bind, Sem.run_pure, Result.andThen_ok, List.map_toArray, List.map_cons, List.map_nil, hx, hy]
  have h : (Builtin.max_ #[3, 3] o.type #[.int .i64 (n : Int), .int .i64 (m : Int)]).run Tryz.prog w = .ok (.int .i64 ((max n m : Nat) : Int)) w := by
    unfold Builtin.max_
    simp [Builtin.max2, go_sem]
    rcases Nat.le_total n m with h | h
    · by_cases e : (n : Int) < m
      · simp [e, Nat.max_eq_right h]
        intro h2; omega
      · have : n = m := by omega
        subst this; simp
    · have e : ¬ (n : Int) < m := by omega
      simp [e, Nat.max_eq_left h]
      intro h2; omega
  simp [builtin, h]
theorem exec_addn {a : Act} {w : World} {o : Oper} {x y : Operand} {n m : Nat} (ho : o.op = .binOp .add 3 x y 3) (hx : a.eval x = .int .i64 (n : Int)) (hy : a.eval y = .int .i64 (m : Int)) (hb : n + m ≤ 4398046511104) : (execOp a.eval o).run Tryz.prog w = .ok (.value (.int .i64 ((n + m : Nat) : Int))) w :=
  exec_bini ho hx hy (by
    have e : IntKind.i64.wrap ((n : Int) + (m : Int)) = ((n + m : Nat) : Int) := by simp [IntKind.wrap, IntKind.signed, IntKind.bits]; omega
    simp [go_sem, e])
theorem keysum_take (ks : List (List UInt8)) (j : Nat) : ((ks.take j).map List.length).sum ≤ (ks.map List.length).sum := by
  have e : ks.take j ++ ks.drop j = ks := List.take_append_drop _ _
  have h := congrArg (fun l => (l.map List.length).sum) e
  simp only [List.map_append, List.sum_append] at h
  omega
theorem totVs_take (l : List V) (j : Nat) : totVs (l.take j) ≤ totVs l := by
  have e : l.take j ++ l.drop j = l := List.take_append_drop _ _
  have := congrArg totVs e
  rw [totVs_append] at this
  omega
theorem sizes_tots (l : List V) : countVs l ≤ totVs l ∧ deepVs l ≤ totVs l ∧ bytesVs l ≤ totVs l ∧ longVs l ≤ totVs l := by
  induction l with
  | nil => simp [countVs, deepVs, bytesVs, longVs]
  | cons a r ihr =>
    have h1 := sizes_tot a
    simp only [countVs, deepVs, bytesVs, longVs, totVs]
    omega
/-- A list of a value, element by element. -/
structure SixU (w : World) (X : Array Value) (bl o : Nat) (c0 c1 c2 c3 c4 c5 : Value) (W : World) : Prop where
  box : OneB w W X
  h0 : W.cell? ⟨bl, o, none⟩ = some c0
  h1 : W.cell? ⟨bl, o + 1, none⟩ = some c1
  h2 : W.cell? ⟨bl, o + 2, none⟩ = some c2
  h3 : W.cell? ⟨bl, o + 3, none⟩ = some c3
  h4 : W.cell? ⟨bl, o + 4, none⟩ = some c4
  h5 : W.cell? ⟨bl, o + 5, none⟩ = some c5
theorem SixU.keep {w W W' : World} {X : Array Value} {bl o : Nat} {c0 c1 c2 c3 c4 c5 : Value} (h : SixU w X bl o c0 c1 c2 c3 c4 c5 W) (b : Below W.heap.size W W') : SixU w X bl o c0 c1 c2 c3 c4 c5 W' :=
  ⟨h.box.below b, belowCell b (ltOf h.h0) h.h0, belowCell b (ltOf h.h1) h.h1, belowCell b (ltOf h.h2) h.h2, belowCell b (ltOf h.h3) h.h3, belowCell b (ltOf h.h4) h.h4, belowCell b (ltOf h.h5) h.h5⟩
set_option maxRecDepth 100000 in
set_option maxHeartbeats 8000000 in
theorem sizeR_any : ∀ (v : V) (w : World) (x : Array Value), totV v ≤ 1099511627776 → VRd w v x →
    Calls Tryz.prog 52 #[.agg x] w fun e w' => e = .returned (.tuple #[.int .i64 (countV v : Int), .int .i64 (deepV v : Int), .int .i64 (bytesV v : Int), .int .i64 (longV v : Int)]) ∧ Below w.heap.size w w' := by
  refine V.ind fun k b n t ks l ih => ?_
  intro w x htot hx
  rw [totV_mk] at htot
  have hT := OneB.start w x
  obtain ⟨pk, ck, pl, cl, rfl, htx, hk1, hl1⟩ := VRd_iff.1 hx
  have z1 : (ks.length : Int) ≤ 140737488355328 := by have := hk1.1; have := hk1.2.1; omega
  have z2 : (l.length : Int) ≤ 140737488355328 := by have := hl1.1.2.1; omega
  have HK := Lib.hid (And.intro hk1 (And.intro hl1 (And.intro ih htot)))
  rw [countV_mk, deepV_mk, bytesV_mk, longV_mk]
  have hb0 : bytesV (.mk 0 false 0 t [] []) = t.length := by rw [bytesV_mk]; simp [bytesVs]
  have hT0 : OneB w (w.alloc (.cells #[.int .i64 k, .bool b, .int .i64 n, .string (strB t), .slice pk ks.length ck, .slice pl l.length cl] 26)).drew #[.int .i64 k, .bool b, .int .i64 n, .string (strB t), .slice pk ks.length ck, .slice pl l.length cl] := hT.below (Below.refl _ _).drew
  clear ih hx hk1 hl1 hT htx htot hb0
  go_enter Tryz.func52, Tryz.ntmps52
  go_wp2
  refine plain_region_draws (fun W => OneB w W #[.int .i64 k, .bool b, .int .i64 n, .string (strB t), .slice pk ks.length ck, .slice pl l.length cl]) (by kernel_rfl) hT0 (fun hU => ?_)
  refine take 0 16 (v := .pointer (some ⟨w.heap.size, 3, none⟩)) rfl rfl (by kernel_rfl) (by kernel_rfl) (by kernel_rfl) rfl (fun W hW => exec_fieldAddr rfl rfl (fa_value _ _ (by decide) W)) (by assumption) ?_
  simp only [Act.put, List.setIfInBounds_toArray, List.set_cons_zero, List.set_cons_succ]
  refine take 1 17 (v := .string (strB t)) rfl rfl (by kernel_rfl) (by kernel_rfl) (by kernel_rfl) rfl (fun W hW => exec_load rfl rfl (run_load1 (w := W) Tryz.underlying9 rfl (cellOf hW.1 rfl))) (by assumption) ?_
  simp only [Act.put, List.setIfInBounds_toArray, List.set_cons_zero, List.set_cons_succ]
  refine take 2 18 (v := .int .i64 (t.length : Int)) rfl rfl (by kernel_rfl) (by kernel_rfl) (by kernel_rfl) rfl (fun W hW => exec_lenB rfl rfl) (by assumption) ?_
  simp only [Act.put, List.setIfInBounds_toArray, List.set_cons_zero, List.set_cons_succ]
  refine take 3 19 (v := .pointer (some ⟨w.heap.size, 5, none⟩)) rfl rfl (by kernel_rfl) (by kernel_rfl) (by kernel_rfl) rfl (fun W hW => exec_fieldAddr rfl rfl (fa_value _ _ (by decide) W)) (by assumption) ?_
  simp only [Act.put, List.setIfInBounds_toArray, List.set_cons_zero, List.set_cons_succ]
  refine take 4 20 (v := .slice pl l.length cl) rfl rfl (by kernel_rfl) (by kernel_rfl) (by kernel_rfl) rfl (fun W hW => exec_load rfl rfl (run_load1 (w := W) Tryz.underlying24 rfl (cellOf hW.1 rfl))) (by assumption) ?_
  simp only [Act.put, List.setIfInBounds_toArray, List.set_cons_zero, List.set_cons_succ]
  refine take 5 21 (v := .int .i64 (l.length : Int)) rfl rfl (by kernel_rfl) (by kernel_rfl) (by kernel_rfl) rfl (fun W hW => exec_lenV rfl rfl) (by assumption) ?_
  simp only [Act.put, List.setIfInBounds_toArray, List.set_cons_zero, List.set_cons_succ]
  refine take 6 6 (v := .int .i64 1) rfl rfl (by kernel_rfl) (by kernel_rfl) (by kernel_rfl) rfl (fun W hW => exec_assign rfl rfl) (by assumption) ?_
  simp only [Act.put, List.setIfInBounds_toArray, List.set_cons_zero, List.set_cons_succ]
  refine take 7 7 (v := .int .i64 0) rfl rfl (by kernel_rfl) (by kernel_rfl) (by kernel_rfl) rfl (fun W hW => exec_assign rfl rfl) (by assumption) ?_
  simp only [Act.put, List.setIfInBounds_toArray, List.set_cons_zero, List.set_cons_succ]
  refine take 8 8 (v := .int .i64 (t.length : Int)) rfl rfl (by kernel_rfl) (by kernel_rfl) (by kernel_rfl) rfl (fun W hW => exec_assign rfl rfl) (by assumption) ?_
  simp only [Act.put, List.setIfInBounds_toArray, List.set_cons_zero, List.set_cons_succ]
  refine take 9 9 (v := .int .i64 (l.length : Int)) rfl rfl (by kernel_rfl) (by kernel_rfl) (by kernel_rfl) rfl (fun W hW => exec_assign rfl rfl) (by assumption) ?_
  simp only [Act.put, List.setIfInBounds_toArray, List.set_cons_zero, List.set_cons_succ]
  refine done (by kernel_rfl) ?_ _
  have HT0 := Lib.hid hU
  clear hU hT0
  go_wp2
  go_loopw [8, 10] (fun y i W => ∃ j : Nat, j ≤ ks.length ∧ i = .int .i64 (j : Int) ∧ y = .int .i64 ((t.length + ((ks.take j).map List.length).sum : Nat) : Int) ∧ Hid (OneB w W #[.int .i64 k, .bool b, .int .i64 n, .string (strB t), .slice pk ks.length ck, .slice pl l.length cl])) (fun _ i _ => ks.length - (intOf i).toNat)
  case atStart => exact ⟨0, Nat.zero_le _, rfl, by simp, HT0⟩
  case round =>
    clear HT0
    obtain ⟨j, hj, rfl, rfl, HT⟩ := hrel
    have hT1 := HT.out
    have px0 := cellOf (o := 0) hT1.1 rfl; have px1 := cellOf (o := 1) hT1.1 rfl; have px2 := cellOf (o := 2) hT1.1 rfl; have px3 := cellOf (o := 3) hT1.1 rfl; have px4 := cellOf (o := 4) hT1.1 rfl; have px5 := cellOf (o := 5) hT1.1 rfl
    have hsl := keysum_take ks j
    by_cases hlt : j < ks.length
    · have hlt1 : j + 1 ≤ ks.length := hlt
      obtain ⟨bk, ok, rfl, q0, ql⟩ := (HK.out.1.below hT1.2).get hlt
      have hsum : t.length + ((ks.take (j + 1)).map List.length).sum = t.length + ((ks.take j).map List.length).sum + ks[j].length := by
        rw [List.take_succ_eq_append_getElem hlt, List.map_append, List.sum_append]; simp; omega
      have hsl2 := keysum_take ks (j + 1)
      have z5 : ((t.length + ((ks.take j).map List.length).sum : Nat) : Int) + (ks[j].length : Int) ≤ 1099511627776 := by have := HK.out.2.2.2; omega
      have zs2 : (strB ks[j]).size = ks[j].length := rfl
      have HS := Lib.hid hsum
      generalize t.length + ((ks.take j).map List.length).sum = S at *
      clear hsl hsl2 hsum hT1
      go_wp2
      go_roundw
      case rel => exact ⟨j + 1, hlt1, by go_num, by rw [HS.out]; go_num, HT⟩
      case measure => simp [intOf]; omega
    · obtain rfl : j = ks.length := by omega
      rw [List.take_length]
      have zb : t.length + (ks.map List.length).sum + totVs l ≤ 1099511627776 := by have := HK.out.2.2.2; omega
      have HZB := Lib.hid zb
      generalize hY : t.length + (ks.map List.length).sum = Y at *
      have HY := Lib.hid hY
      have HT0 := HT
      clear hsl hT1 hY zb
      go_wp2
      go_loopw [6, 7, 8, 9, 11] (fun c d y g i W => ∃ j : Nat, j ≤ l.length ∧ i = .int .i64 (j : Int) ∧ c = .int .i64 ((1 + countVs (l.take j) : Nat) : Int) ∧ d = .int .i64 ((deepVs (l.take j) : Nat) : Int) ∧ y = .int .i64 ((Y + bytesVs (l.take j) : Nat) : Int) ∧ g = .int .i64 ((max l.length (longVs (l.take j)) : Nat) : Int) ∧ Hid (OneB w W #[.int .i64 k, .bool b, .int .i64 n, .string (strB t), .slice pk ks.length ck, .slice pl l.length cl])) (fun _ _ _ _ i _ => l.length - (intOf i).toNat)
      case atStart => exact ⟨0, Nat.zero_le _, rfl, by simp [countVs], by simp [deepVs], by simp [bytesVs], by simp [longVs], HT0⟩
      case round =>
        clear HT0 HT
        obtain ⟨j, hj, rfl, rfl, rfl, rfl, rfl, HT⟩ := hrel
        have hT1 := HT.out
        clear px0 px1 px2 px3 px4 px5
        have px0 := cellOf (o := 0) hT1.1 rfl; have px1 := cellOf (o := 1) hT1.1 rfl; have px2 := cellOf (o := 2) hT1.1 rfl; have px3 := cellOf (o := 3) hT1.1 rfl; have px4 := cellOf (o := 4) hT1.1 rfl; have px5 := cellOf (o := 5) hT1.1 rfl
        have hs0 := sizes_tots (l.take j)
        have htl := totVs_take l j
        by_cases hlt : j < l.length
        · have hlt1 : j + 1 ≤ l.length := hlt
          obtain ⟨g1, o1, pk1, ck1, pl1, cl1, rfl, ⟨a0, a1, a2, a3, a4, a5⟩, hv1⟩ := (HK.out.2.1.below hT1.2).at hlt
          have htl2 := totVs_take l (j + 1)
          have hss := sizes_tot l[j]
          have htk : l.take (j + 1) = l.take j ++ [l[j]] := List.take_succ_eq_append_getElem hlt
          rw [htk, totVs_append] at htl2
          have htv : totVs [l[j]] = totV l[j] := by simp [totVs]
          have hcall := HK.out.2.2.1 l[j] (List.getElem_mem hlt)
          have hn1 : countVs (l.take (j + 1)) = countVs (l.take j) + countV l[j] := by rw [htk, countVs_snoc]
          have hn2 : deepVs (l.take (j + 1)) = max (deepVs (l.take j)) (deepV l[j]) := by rw [htk, deepVs_snoc]
          have hn3 : bytesVs (l.take (j + 1)) = bytesVs (l.take j) + bytesV l[j] := by rw [htk, bytesVs_snoc]
          have hn4 : longVs (l.take (j + 1)) = max (longVs (l.take j)) (longV l[j]) := by rw [htk, longVs_snoc]
          have hzb := HZB.out
          have hq1 : 1 + countVs (l.take j) + countV l[j] ≤ 4398046511104 := by omega
          have hq2 : Y + bytesVs (l.take j) + bytesV l[j] ≤ 4398046511104 := by omega
          have HN := Lib.hid (And.intro hn1 (And.intro hn2 (And.intro hn3 hn4)))
          have hcv : totV l[j] ≤ 1099511627776 := by omega
          generalize l[j] = s1 at *
          generalize countVs (l.take j) = C at *
          generalize deepVs (l.take j) = D at *
          generalize bytesVs (l.take j) = B at *
          generalize longVs (l.take j) = G at *
          have hcl := hcall wr _ hcv hv1
          have HD := Lib.hid (And.intro hcl hT1)
          clear hn1 hn2 hn3 hn4 hss htl htl2 htv hs0 hzb hcall hv1 hT1 htk hcl
          go_wp2_with (go_at_call 52
                       (
                         refine HD.out.1.mono ?_
                         rintro e w5 ⟨rfl, hb5⟩
                         have hT5 := HD.out.2.below hb5
                         have HT5 := Lib.hid hT5
                         clear hb5 hT5))
          go_roundw
          case rel => exact ⟨j + 1, hlt1, by go_num, by rw [HN.out.1]; congr 1; omega, by rw [HN.out.2.1]; congr 1; omega, by rw [HN.out.2.2.1]; congr 1; omega, by rw [HN.out.2.2.2]; congr 1; omega, HT5⟩
          case measure => simp [intOf]; omega
        · obtain rfl : j = l.length := by omega
          rw [List.take_length] at *
          have HF := Lib.hid hT1.2
          have hzb := HZB.out
          have hd1 : deepVs l + 1 ≤ 4398046511104 := by omega
          clear hs0 htl hT1 hzb
          go_wp2
          refine bodyPost_ret (v := .tuple #[.int .i64 ((1 + countVs l : Nat) : Int), .int .i64 ((deepVs l + 1 : Nat) : Int), .int .i64 ((Y + bytesVs l : Nat) : Int), .int .i64 ((max l.length (longVs l) : Nat) : Int)]) (by simp [results, Tryz.results52, go_sem]) rfl ⟨by rw [HY.out], HF.out⟩
set_option maxRecDepth 100000 in
set_option maxHeartbeats 4000000 in
/-- What the document answers to Check. -/
theorem checkR_any {v : V} {w : World} {x : Array Value} (htot : totV v ≤ 1099511627776) (hx : VRd w v x) : Calls Tryz.prog 28 #[.agg x] w fun e w' => e = .returned (.int .i64 (checkV Lib.validD v)) ∧ Below w.heap.size w w' := by
  have hT := OneB.start w x
  have hmay := mayR_any v _ _ (hx.below hT.2)
  have hsz := fun (W : World) (hb : Below w.heap.size w W) => sizeR_any v W x htot (hx.below hb)
  have hst := sizes_tot v
  obtain ⟨pk, ck, pl, cl, rfl, _⟩ := hx.open
  have HM := Lib.hid hmay
  have HS := Lib.hid hsz
  have HT := Lib.hid hT
  have hc : checkV Lib.validD v = if mayV Lib.validD v then (if 64 < deepV v || 1048576 < bytesV v || 65536 < longV v then 3 else 0) else 110 := rfl
  have z1 : ((deepV v : Nat) : Int) ≤ 1099511627776 := by omega
  have z2 : ((bytesV v : Nat) : Int) ≤ 1099511627776 := by omega
  have z3 : ((longV v : Nat) : Int) ≤ 1099511627776 := by omega
  have HC := Lib.hid hc
  clear hmay hsz hT hx hst htot hc
  generalize checkV Lib.validD v = R at *
  generalize mayV Lib.validD v = M at *
  generalize deepV v = D at *
  generalize bytesV v = B at *
  generalize longV v = G at *
  cases M with
  | false =>
    have hR := HC.out
    have HR := Lib.hid hR
    clear hR
    go_enter Tryz.func28, Tryz.ntmps28
    go_wp2_with (go_at_call 68
                 (
                   refine HM.out.mono ?_
                   rintro e w1 ⟨rfl, hb⟩
                   have HT1 := Lib.hid (HT.out.below hb)
                   clear hb))
    go_ret
    exact ⟨ret_int HR.out.symm, HT1.out.2⟩
  | true =>
    go_enter Tryz.func28, Tryz.ntmps28
    go_wp2_with (first
      | (go_at_call 68
         (
           refine HM.out.mono ?_
           rintro e w1 ⟨rfl, hb⟩
           have HT1 := Lib.hid (HT.out.below hb)
           have HL1 := Lib.hid (get_val HT1.out.1)
           clear hb))
      | (refine wpList_load rfl _ _ _ rfl rfl HL1.out ?_)
      | (go_at_call 52
         (
           refine (HS.out _ HT1.out.2).mono ?_
           rintro e w2 ⟨rfl, hb⟩
           have HB := Lib.hid (below_trans HT1.out.2 hb)
           clear hb)))
    all_goals
      go_ret
      refine ⟨ret_int ?_, HB.out⟩
      have h := HC.out
      rw [if_pos trivial] at h
      rw [h]
      (repeat' split) <;> first | rfl | (simp only [Bool.or_eq_true, decide_eq_true_eq] at * <;> omega)
end Go.Proofs.YtnkaegdnjfpliaaGreatDoor
