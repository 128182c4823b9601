/- ValueEquals: for every two values the law returns true, and the arguments read as they did. The listed tables of Go's library read as the program's text lays them. -/
import Derived.Test.YtnkaegdnjfpliaaGreatDoorGD
import Derived.Test.YtnkaegdnjfpliaaGreatDoorGA
import Derived.Test.YtnkaegdnjfpliaaGreatDoorGE
import Derived.Test.YtnkaegdnjfpliaaGreatDoorGC
import Derived.Test.YtnkaegdnjfpliaaGreatDoorCards
import Derived.Test.YtnkaegdnjfpliaaGreatDoorTie
/-! The document's Equal. Printed by gen_eqd.py. -/
namespace Go.Proofs.YtnkaegdnjfpliaaGreatDoor
set_option linter.unusedSimpArgs false
set_option linter.unusedVariables false
open Go.RowKit

/-- Two boxes, and an element of each of the two lists. -/
structure EqdU (w : World) (X Y : Array Value) (s1 s2 : V) (g1 o1 g2 o2 : Nat) (c0 c1 c2 c3 c4 c5 d0 d1 d2 d3 d4 d5 : Value) (W : World) : Prop where
  two : TwoV w W X Y
  p : PairU w s1 s2 g1 o1 g2 o2 c0 c1 c2 c3 c4 c5 d0 d1 d2 d3 d4 d5 W
theorem EqdU.keep {w W W' : World} {X Y : Array Value} {s1 s2 : V} {g1 o1 g2 o2 : Nat} {c0 c1 c2 c3 c4 c5 d0 d1 d2 d3 d4 d5 : Value} (h : EqdU w X Y s1 s2 g1 o1 g2 o2 c0 c1 c2 c3 c4 c5 d0 d1 d2 d3 d4 d5 W) (b : Below W.heap.size W W') : EqdU w X Y s1 s2 g1 o1 g2 o2 c0 c1 c2 c3 c4 c5 d0 d1 d2 d3 d4 d5 W' := ⟨h.two.below b, h.p.keep b⟩
/-- Keys are alike so far. -/
def SoFar (ks ks' : List (List UInt8)) (j : Nat) : Prop := ∀ i, i < j → ks[i]? = ks'[i]?
theorem SoFar.step {ks ks' : List (List UInt8)} {j : Nat} (h : SoFar ks ks' j) (h1 : j < ks.length) (h2 : j < ks'.length) (e : ks[j] = ks'[j]) : SoFar ks ks' (j + 1) := by
  intro i hi
  by_cases hij : i = j
  · subst hij; rw [List.getElem?_eq_getElem h1, List.getElem?_eq_getElem h2, e]
  · exact h i (by omega)
theorem SoFar.all {ks ks' : List (List UInt8)} (h : SoFar ks ks' ks.length) (hl : ks.length = ks'.length) : ks = ks' := by
  apply List.ext_getElem?
  intro i
  by_cases hi : i < ks.length
  · exact h i hi
  · rw [List.getElem?_eq_none (by omega), List.getElem?_eq_none (by omega)]
/-- What has been met: 1, if there was nothing. -/
def metN (b : Bool) : Int := if b then 1 else 2
theorem metN_cases (b : Bool) : metN b = 1 ∨ metN b = 2 := by cases b <;> simp [metN]
set_option maxRecDepth 100000 in
set_option maxHeartbeats 4000000 in
theorem equalR_any {u : List UInt8 → Bool} : ∀ a : V, mayV u a = true → ∀ b : V, mayV u b = true → ∀ (w : World) (x y : Array Value), VRd w a x → VRd w b y →
    Calls Tryz.prog 23 #[.agg x, .agg y] w fun e w' => e = .returned (.int .i64 (eqV a b)) ∧ Below w.heap.size w w' := by
  refine V.ind fun k b n t ks l ih => ?_
  intro ha v hb w x y hx hy
  obtain ⟨ha1, ha2⟩ := mayV_iff.1 ha
  obtain ⟨hb1, hb2⟩ := mayV_iff.1 hb
  have hcmp : ∀ {W : World} {x y : Array Value}, VRd W (.mk k b n t ks l) x → VRd W v y → Calls Tryz.prog 19 #[.agg x, .agg y] W fun e w' => e = .returned (.int .i64 (cmpV (.mk k b n t ks l) v)) ∧ Below W.heap.size W w' := fun h1 h2 => compareR_any _ ha _ hb _ _ _ h1 h2
  have hm := eqV_mk k b n t ks l v
  obtain ⟨pk, ck, pl, cl, rfl, _, hk1, hl1⟩ := hx.open
  obtain ⟨pk', ck', pl', cl', rfl, _, hk2, hl2⟩ := hy.open
  cases v with
  | mk k' b' n' t' ks' l' =>
  simp only [V.kind, V.b, V.n, V.text, V.keys, V.list] at *
  have hT := TwoV.start w #[.int .i64 k, .bool b, .int .i64 n, .string (strB t), .slice pk ks.length ck, .slice pl l.length cl] #[.int .i64 k', .bool b', .int .i64 n', .string (strB t'), .slice pk' ks'.length ck', .slice pl' l'.length cl']
  have hC := hcmp (hx.below hT.2.2) (hy.below hT.2.2)
  have hb0 := hT.2.2
  generalize eqV (.mk k b n t ks l) (.mk k' b' n' t' ks' l') = R at *
  generalize cmpV (.mk k b n t ks l) (.mk k' b' n' t' ks' l') = C at *
  have HI := Lib.hid (fun (a : V) (ha : a ∈ l) (b : V) (hb : b ∈ l') (W : World) (x y : Array Value) (h1 : VRd W a x) (h2 : VRd W b y) => ih a ha (ha2 a ha) b (hb2 b hb) W x y h1 h2)
  have HL := Lib.hid (And.intro hl1 hl2)
  have HKS := Lib.hid (And.intro hk1 hk2)
  have HM := Lib.hid hm
  have HC := Lib.hid hC
  have HB := Lib.hid hb0
  have HT := Lib.hid hT
  have z1 : (l.length : Int) ≤ 140737488355328 := by have := hl1.1.1; have := hl1.1.2.1; omega
  have z2 : (l'.length : Int) ≤ 140737488355328 := by have := hl2.1.1; have := hl2.1.2.1; omega
  have z3 : (ks.length : Int) ≤ 140737488355328 := by have := hk1.1; have := hk1.2.1; omega
  have z4 : (ks'.length : Int) ≤ 140737488355328 := by have := hk2.1; have := hk2.2.1; omega
  clear ih ha hb ha1 ha2 hb1 hb2 hx hy hk1 hk2 hl1 hl2 hm hT hcmp hC hb0
  by_cases e0 : k = 0
  · subst e0
    have HR := Lib.hid (HM.out.trans (if_pos (.inl rfl)))
    go_enter Tryz.func23, Tryz.ntmps23
    go_wp2
    go_ret
    exact ⟨ret_int HR.out.symm, HB.out⟩
  have d0 : (k == 0) = false := by simpa using e0
  by_cases e0' : k' = 0
  · subst e0'
    have HR := Lib.hid (HM.out.trans (if_pos (.inr rfl)))
    clear e0
    go_enter Tryz.func23, Tryz.ntmps23
    go_wp2
    go_ret
    exact ⟨ret_int HR.out.symm, HB.out⟩
  have d0' : (k' == 0) = false := by simpa using e0'
  have HM2 := Lib.hid (HM.out.trans (if_neg (by omega)))
  clear HM
  by_cases ekk : k = k'
  case neg =>
    have d1 : (k != k') = true := by simpa using ekk
    have HR := Lib.hid (HM2.out.trans (if_pos ekk))
    clear e0 e0' ekk
    go_enter Tryz.func23, Tryz.ntmps23
    go_wp2
    go_ret
    exact ⟨ret_int HR.out.symm, HB.out⟩
  subst ekk
  have HM3 := Lib.hid (HM2.out.trans (if_neg (fun h => h rfl)))
  clear HM2
  by_cases e45 : k ≠ 4 ∧ k ≠ 5
  · obtain ⟨e4, e5⟩ := e45
    have d4 : (k != 4) = true := by simpa using e4
    have d5 : (k != 5) = true := by simpa using e5
    have HR := Lib.hid (HM3.out.trans (if_pos ⟨e4, e5⟩))
    by_cases eC : C = 0
    · subst eC
      have HR2 := Lib.hid (HR.out.trans (if_pos rfl))
      clear e0 e0' e4 e5
      go_enter Tryz.func23, Tryz.ntmps23
      go_wp2_with (first
        | (go_at_call 19; refine HC.out.mono ?_; rintro e w3 ⟨rfl, hb3⟩; have HB3 := Lib.hid hb3; clear hb3)
        | (go_at_call 64; refine (truthR_any _ _).mono ?_; rintro e w' ⟨rfl, rfl⟩))
      go_ret
      exact ⟨ret_int HR2.out.symm, below_trans HB.out HB3.out⟩
    · have dC : (C == 0) = false := by simpa using eC
      have HR2 := Lib.hid (HR.out.trans (if_neg eC))
      clear e0 e0' e4 e5 eC
      go_enter Tryz.func23, Tryz.ntmps23
      go_wp2_with (first
        | (go_at_call 19; refine HC.out.mono ?_; rintro e w3 ⟨rfl, hb3⟩; have HB3 := Lib.hid hb3; clear hb3)
        | (go_at_call 64; refine (truthR_any _ _).mono ?_; rintro e w' ⟨rfl, rfl⟩))
      go_ret
      exact ⟨ret_int HR2.out.symm, below_trans HB.out HB3.out⟩
  have HM4 := Lib.hid (HM3.out.trans (if_neg e45))
  clear HM3
  have e45' : k = 4 ∨ k = 5 := by omega
  by_cases ekl : ks.length = ks'.length
  case neg =>
    have HR := Lib.hid (HM4.out.trans (if_pos (.inr fun e => ekl (by rw [e]))))
    have dl : decide (ks.length = ks'.length) = false := by simpa using ekl
    have dl2 : ((ks.length : Int) != (ks'.length : Int)) = true := by rw [bne_iff_ne]; omega
    clear e0 e0' e45 ekl d0 d0'
    rcases e45' with rfl | rfl
    all_goals
      go_enter Tryz.func23, Tryz.ntmps23
      go_wp2
      go_ret
      exact ⟨ret_int HR.out.symm, HB.out⟩
  have dk : decide (ks.length = ks'.length) = true := by simpa using ekl
  have dk2 : ((ks.length : Int) != (ks'.length : Int)) = false := by rw [bne_eq_false_iff_eq]; omega
  by_cases ell : l.length = l'.length
  case neg =>
    have HR := Lib.hid (HM4.out.trans (if_pos (.inl ell)))
    have dl : decide (l.length = l'.length) = false := by simpa using ell
    have dl2 : ((l.length : Int) != (l'.length : Int)) = true := by rw [bne_iff_ne]; omega
    clear e0 e0' e45 ell ekl d0 d0'
    rcases e45' with rfl | rfl
    all_goals
      go_enter Tryz.func23, Tryz.ntmps23
      go_wp2
      go_ret
      exact ⟨ret_int HR.out.symm, HB.out⟩
  have dl : decide (l.length = l'.length) = true := by simpa using ell
  have dl2 : ((l.length : Int) != (l'.length : Int)) = false := by rw [bne_eq_false_iff_eq]; omega
  have HKL := Lib.hid ekl
  have Hell := Lib.hid ell
  clear e0 e0' e45 ell ekl d0 d0'
  rcases e45' with rfl | rfl
  · go_enter Tryz.func23, Tryz.ntmps23
    go_wp2
    clear dl dl2 dk dk2
    have HT0 := HT
    go_loopw [5] (fun i wr => ∃ j : Nat, j ≤ ks.length ∧ i = .int .i64 (j : Int) ∧ Hid (SoFar ks ks' j ∧ TwoV w wr #[.int .i64 4, .bool b, .int .i64 n, .string (strB t), .slice pk ks.length ck, .slice pl l.length cl] #[.int .i64 4, .bool b', .int .i64 n', .string (strB t'), .slice pk' ks'.length ck', .slice pl' l'.length cl'])) (fun i _ => ks.length - (intOf i).toNat)
    case atStart => exact ⟨0, Nat.zero_le _, rfl, Lib.hid ⟨fun i hi => by omega, HT0.out⟩⟩
    case round =>
      clear HT HT0 HB HC
      obtain ⟨j, hj, rfl, HT⟩ := hrel
      have hT1 := HT.out.2
      have c4 := cellOf (o := 4) hT1.1 rfl; have c5 := cellOf (o := 5) hT1.1 rfl
      have q4 := cellOf (o := 4) hT1.2.1 rfl; have q5 := cellOf (o := 5) hT1.2.1 rfl
      by_cases hlt : j < ks.length
      · have hlt1 : j + 1 ≤ ks.length := hlt
        have hlt2 : j < ks'.length := by have := HKL.out; omega
        have hbd : Below w.heap.size w wr.drew := below_trans hT1.2.2 (Below.refl _ _).drew
        obtain ⟨b1, o1, rfl, r1, y1⟩ := (HKS.out.1.below hbd).get hlt
        obtain ⟨b2, o2, rfl, r2, y2⟩ := (HKS.out.2.below hbd).get hlt2
        by_cases e : ks[j] = ks'[j]
        · have HS := Lib.hid (HT.out.1.step hlt hlt2 e)
          rw [← e] at r2
          clear e
          generalize ks[j] = s1 at *
          have hU0 : KeyTwo w #[.int .i64 4, .bool b, .int .i64 n, .string (strB t), .slice (some ⟨b1, o1, none⟩) ks.length ck, .slice pl l.length cl] #[.int .i64 4, .bool b', .int .i64 n', .string (strB t'), .slice (some ⟨b2, o2, none⟩) ks'.length ck', .slice pl' l'.length cl'] b1 (o1 + j) b2 (o2 + j) s1 s1 wr.drew := ⟨hT1.below (Below.refl _ _).drew, r1, r2⟩
          have hne : ∀ W, (binOp .neq 9 (.string (strB s1)) (.string (strB s1))).run Tryz.prog W = .ok (.bool false) W := fun W => by rw [run_neStr]; simp
          clear r1 r2 y1 y2 hbd hT1
          go_wp2
          refine plain_region_draws (fun W => KeyTwo w #[.int .i64 4, .bool b, .int .i64 n, .string (strB t), .slice (some ⟨b1, o1, none⟩) ks.length ck, .slice pl l.length cl] #[.int .i64 4, .bool b', .int .i64 n', .string (strB t'), .slice (some ⟨b2, o2, none⟩) ks'.length ck', .slice pl' l'.length cl'] b1 (o1 + j) b2 (o2 + j) s1 s1 W) (by kernel_rfl) hU0 (fun hU => ?_)
          refine take 0 58 (v := .pointer (some ⟨w.heap.size, 4, none⟩)) rfl rfl (by kernel_rfl) (by kernel_rfl) (by kernel_rfl) rfl (fun W hW => exec_fieldAddr rfl rfl (fa_value _ _ (by decide) W)) (by assumption) ?_
          simp only [Act.put, List.setIfInBounds_toArray, List.set_cons_zero, List.set_cons_succ]
          refine take 1 59 (v := .slice (some ⟨b1, o1, none⟩) ks.length ck) rfl rfl (by kernel_rfl) (by kernel_rfl) (by kernel_rfl) rfl (fun W hW => exec_load rfl rfl (run_load1 (w := W) Tryz.underlying23 rfl (cellOf hW.two.1 rfl))) (by assumption) ?_
          simp only [Act.put, List.setIfInBounds_toArray, List.set_cons_zero, List.set_cons_succ]
          refine take 2 60 (v := .int .i64 (j : Int)) rfl rfl (by kernel_rfl) (by kernel_rfl) (by kernel_rfl) rfl (fun W hW => exec_move rfl rfl) (by assumption) ?_
          simp only [Act.put, List.setIfInBounds_toArray, List.set_cons_zero, List.set_cons_succ]
          refine take 3 61 (v := .pointer (some ⟨b1, o1 + j, none⟩)) rfl rfl (by kernel_rfl) (by kernel_rfl) (by kernel_rfl) rfl (fun W hW => exec_indexAddr rfl rfl rfl (ia_keys _ _ _ _ _ hlt W)) (by assumption) ?_
          simp only [Act.put, List.setIfInBounds_toArray, List.set_cons_zero, List.set_cons_succ]
          refine take 4 62 (v := .string (strB s1)) rfl rfl (by kernel_rfl) (by kernel_rfl) (by kernel_rfl) rfl (fun W hW => exec_load rfl rfl (run_load1 (w := W) Tryz.underlying9 rfl hW.one)) (by assumption) ?_
          simp only [Act.put, List.setIfInBounds_toArray, List.set_cons_zero, List.set_cons_succ]
          refine take 5 63 (v := .pointer (some ⟨w.heap.size + 1, 4, none⟩)) rfl rfl (by kernel_rfl) (by kernel_rfl) (by kernel_rfl) rfl (fun W hW => exec_fieldAddr rfl rfl (fa_value _ _ (by decide) W)) (by assumption) ?_
          simp only [Act.put, List.setIfInBounds_toArray, List.set_cons_zero, List.set_cons_succ]
          refine take 6 64 (v := .slice (some ⟨b2, o2, none⟩) ks'.length ck') rfl rfl (by kernel_rfl) (by kernel_rfl) (by kernel_rfl) rfl (fun W hW => exec_load rfl rfl (run_load1 (w := W) Tryz.underlying23 rfl (cellOf hW.two.2.1 rfl))) (by assumption) ?_
          simp only [Act.put, List.setIfInBounds_toArray, List.set_cons_zero, List.set_cons_succ]
          refine take 7 65 (v := .int .i64 (j : Int)) rfl rfl (by kernel_rfl) (by kernel_rfl) (by kernel_rfl) rfl (fun W hW => exec_move rfl rfl) (by assumption) ?_
          simp only [Act.put, List.setIfInBounds_toArray, List.set_cons_zero, List.set_cons_succ]
          refine take 8 66 (v := .pointer (some ⟨b2, o2 + j, none⟩)) rfl rfl (by kernel_rfl) (by kernel_rfl) (by kernel_rfl) rfl (fun W hW => exec_indexAddr rfl rfl rfl (ia_keys _ _ _ _ _ hlt2 W)) (by assumption) ?_
          simp only [Act.put, List.setIfInBounds_toArray, List.set_cons_zero, List.set_cons_succ]
          refine take 9 67 (v := .string (strB s1)) rfl rfl (by kernel_rfl) (by kernel_rfl) (by kernel_rfl) rfl (fun W hW => exec_load rfl rfl (run_load1 (w := W) Tryz.underlying9 rfl hW.sec)) (by assumption) ?_
          simp only [Act.put, List.setIfInBounds_toArray, List.set_cons_zero, List.set_cons_succ]
          refine take 10 68 (v := .bool false) rfl rfl (by kernel_rfl) (by kernel_rfl) (by kernel_rfl) rfl (fun W hW => exec_bins rfl rfl rfl (hne W)) (by assumption) ?_
          simp only [Act.put, List.setIfInBounds_toArray, List.set_cons_zero, List.set_cons_succ]
          refine done (by kernel_rfl) ?_ _
          have HT0 := Lib.hid (And.intro HS.out hU.two)
          have c4 := cellOf (o := 4) hU.two.1 rfl
          have q4 := cellOf (o := 4) hU.two.2.1 rfl
          clear hU hU0 hne HS HT
          go_wp2
          go_roundw
          case rel => exact ⟨j + 1, by omega, by go_num, HT0⟩
          case measure => simp [intOf]; omega
        · have HR := Lib.hid (HM4.out.trans (if_pos (.inr fun e2 => e (by subst e2; rfl))))
          generalize ks[j] = s1 at *
          generalize ks'[j] = s2 at *
          have hU0 : KeyTwo w #[.int .i64 4, .bool b, .int .i64 n, .string (strB t), .slice (some ⟨b1, o1, none⟩) ks.length ck, .slice pl l.length cl] #[.int .i64 4, .bool b', .int .i64 n', .string (strB t'), .slice (some ⟨b2, o2, none⟩) ks'.length ck', .slice pl' l'.length cl'] b1 (o1 + j) b2 (o2 + j) s1 s2 wr.drew := ⟨hT1.below (Below.refl _ _).drew, r1, r2⟩
          have hne : ∀ W, (binOp .neq 9 (.string (strB s1)) (.string (strB s2))).run Tryz.prog W = .ok (.bool true) W := fun W => by rw [run_neStr]; simp [e]
          clear r1 r2 y1 y2 hbd hT1 e
          go_wp2
          refine plain_region_draws (fun W => KeyTwo w #[.int .i64 4, .bool b, .int .i64 n, .string (strB t), .slice (some ⟨b1, o1, none⟩) ks.length ck, .slice pl l.length cl] #[.int .i64 4, .bool b', .int .i64 n', .string (strB t'), .slice (some ⟨b2, o2, none⟩) ks'.length ck', .slice pl' l'.length cl'] b1 (o1 + j) b2 (o2 + j) s1 s2 W) (by kernel_rfl) hU0 (fun hU => ?_)
          refine take 0 58 (v := .pointer (some ⟨w.heap.size, 4, none⟩)) rfl rfl (by kernel_rfl) (by kernel_rfl) (by kernel_rfl) rfl (fun W hW => exec_fieldAddr rfl rfl (fa_value _ _ (by decide) W)) (by assumption) ?_
          simp only [Act.put, List.setIfInBounds_toArray, List.set_cons_zero, List.set_cons_succ]
          refine take 1 59 (v := .slice (some ⟨b1, o1, none⟩) ks.length ck) rfl rfl (by kernel_rfl) (by kernel_rfl) (by kernel_rfl) rfl (fun W hW => exec_load rfl rfl (run_load1 (w := W) Tryz.underlying23 rfl (cellOf hW.two.1 rfl))) (by assumption) ?_
          simp only [Act.put, List.setIfInBounds_toArray, List.set_cons_zero, List.set_cons_succ]
          refine take 2 60 (v := .int .i64 (j : Int)) rfl rfl (by kernel_rfl) (by kernel_rfl) (by kernel_rfl) rfl (fun W hW => exec_move rfl rfl) (by assumption) ?_
          simp only [Act.put, List.setIfInBounds_toArray, List.set_cons_zero, List.set_cons_succ]
          refine take 3 61 (v := .pointer (some ⟨b1, o1 + j, none⟩)) rfl rfl (by kernel_rfl) (by kernel_rfl) (by kernel_rfl) rfl (fun W hW => exec_indexAddr rfl rfl rfl (ia_keys _ _ _ _ _ hlt W)) (by assumption) ?_
          simp only [Act.put, List.setIfInBounds_toArray, List.set_cons_zero, List.set_cons_succ]
          refine take 4 62 (v := .string (strB s1)) rfl rfl (by kernel_rfl) (by kernel_rfl) (by kernel_rfl) rfl (fun W hW => exec_load rfl rfl (run_load1 (w := W) Tryz.underlying9 rfl hW.one)) (by assumption) ?_
          simp only [Act.put, List.setIfInBounds_toArray, List.set_cons_zero, List.set_cons_succ]
          refine take 5 63 (v := .pointer (some ⟨w.heap.size + 1, 4, none⟩)) rfl rfl (by kernel_rfl) (by kernel_rfl) (by kernel_rfl) rfl (fun W hW => exec_fieldAddr rfl rfl (fa_value _ _ (by decide) W)) (by assumption) ?_
          simp only [Act.put, List.setIfInBounds_toArray, List.set_cons_zero, List.set_cons_succ]
          refine take 6 64 (v := .slice (some ⟨b2, o2, none⟩) ks'.length ck') rfl rfl (by kernel_rfl) (by kernel_rfl) (by kernel_rfl) rfl (fun W hW => exec_load rfl rfl (run_load1 (w := W) Tryz.underlying23 rfl (cellOf hW.two.2.1 rfl))) (by assumption) ?_
          simp only [Act.put, List.setIfInBounds_toArray, List.set_cons_zero, List.set_cons_succ]
          refine take 7 65 (v := .int .i64 (j : Int)) rfl rfl (by kernel_rfl) (by kernel_rfl) (by kernel_rfl) rfl (fun W hW => exec_move rfl rfl) (by assumption) ?_
          simp only [Act.put, List.setIfInBounds_toArray, List.set_cons_zero, List.set_cons_succ]
          refine take 8 66 (v := .pointer (some ⟨b2, o2 + j, none⟩)) rfl rfl (by kernel_rfl) (by kernel_rfl) (by kernel_rfl) rfl (fun W hW => exec_indexAddr rfl rfl rfl (ia_keys _ _ _ _ _ hlt2 W)) (by assumption) ?_
          simp only [Act.put, List.setIfInBounds_toArray, List.set_cons_zero, List.set_cons_succ]
          refine take 9 67 (v := .string (strB s2)) rfl rfl (by kernel_rfl) (by kernel_rfl) (by kernel_rfl) rfl (fun W hW => exec_load rfl rfl (run_load1 (w := W) Tryz.underlying9 rfl hW.sec)) (by assumption) ?_
          simp only [Act.put, List.setIfInBounds_toArray, List.set_cons_zero, List.set_cons_succ]
          refine take 10 68 (v := .bool true) rfl rfl (by kernel_rfl) (by kernel_rfl) (by kernel_rfl) rfl (fun W hW => exec_bins rfl rfl rfl (hne W)) (by assumption) ?_
          simp only [Act.put, List.setIfInBounds_toArray, List.set_cons_zero, List.set_cons_succ]
          refine done (by kernel_rfl) ?_ _
          have HF := Lib.hid hU.two.2.2
          clear hU hU0 hne HT
          go_wp2
          go_ret
          exact ⟨ret_int HR.out.symm, HF.out⟩
      · obtain rfl : j = ks.length := by omega
        have hkk := HT.out.1.all HKL.out
        have HR := Lib.hid (HM4.out.trans (if_neg (by rintro (h | h); exact h Hell.out; exact h hkk)))
        have HT0 := Lib.hid hT1
        clear hT1 hkk HM4 HT
        go_wp2
        go_loopw [6, 7] (fun o i wr => ∃ (j : Nat) (nb : Bool), j ≤ l.length ∧ i = .int .i64 (j : Int) ∧ o = .bool nb ∧ Hid (R = combE (metN nb) (eqVs (l.drop j) (l'.drop j)) ∧ TwoV w wr #[.int .i64 4, .bool b, .int .i64 n, .string (strB t), .slice pk ks.length ck, .slice pl l.length cl] #[.int .i64 4, .bool b', .int .i64 n', .string (strB t'), .slice pk' ks'.length ck', .slice pl' l'.length cl'])) (fun _ i _ => l.length - (intOf i).toNat)
        case atStart => exact ⟨0, false, Nat.zero_le _, rfl, rfl, Lib.hid ⟨by rw [HR.out]; exact (combE_two _ (eqVs_range _ _)).symm, HT0.out⟩⟩
        case round =>
          clear HT0 c4 c5 q4 q5
          obtain ⟨j, nb, hj, rfl, rfl, HT⟩ := hrel
          have hT1 := HT.out.2
          have c4 := cellOf (o := 4) hT1.1 rfl; have c5 := cellOf (o := 5) hT1.1 rfl
          have q4 := cellOf (o := 4) hT1.2.1 rfl; have q5 := cellOf (o := 5) hT1.2.1 rfl
          by_cases hlt : j < l.length
          · have hlt1 : j + 1 ≤ l.length := hlt
            have hlt2 : j < l'.length := by have := Hell.out; omega
            have hbd : Below w.heap.size w wr.drew := below_trans hT1.2.2 (Below.refl _ _).drew
            obtain ⟨g1, o1, pk1, ck1, pl1, cl1, rfl, ⟨a0, a1, a2, a3, a4, a5⟩, hv1⟩ := (HL.out.1.below hbd).at hlt
            obtain ⟨g2, o2, pk2, ck2, pl2, cl2, rfl, ⟨r0, r1, r2, r3, r4, r5⟩, hv2⟩ := (HL.out.2.below hbd).at hlt2
            have hz := @combE_zero (metN nb) l[j] l'[j] (l.drop (j + 1)) (l'.drop (j + 1))
            have hone := @combE_one (metN nb) l[j] l'[j] (l.drop (j + 1)) (l'.drop (j + 1))
            have htwo := @combE_some (metN nb) l[j] l'[j] (l.drop (j + 1)) (l'.drop (j + 1))
            rw [← List.drop_eq_getElem_cons hlt, ← List.drop_eq_getElem_cons hlt2] at hz hone htwo
            have hrange := eqV_range l[j] l'[j]
            have HC := Lib.hid (HI.out l[j] (List.getElem_mem hlt) l'[j] (List.getElem_mem hlt2))
            generalize l[j] = s1 at *
            generalize l'[j] = s2 at *
            generalize eqV s1 s2 = E at *
            have hU0 : EqdU w #[.int .i64 4, .bool b, .int .i64 n, .string (strB t), .slice pk ks.length ck, .slice (some ⟨g1, o1, none⟩) l.length cl] #[.int .i64 4, .bool b', .int .i64 n', .string (strB t'), .slice pk' ks'.length ck', .slice (some ⟨g2, o2, none⟩) l'.length cl'] s1 s2 g1 (o1 + j * 6) g2 (o2 + j * 6) (.int .i64 s1.kind) (.bool s1.b) (.int .i64 s1.n) (.string (strB s1.text)) (.slice pk1 s1.keys.length ck1) (.slice pl1 s1.list.length cl1) (.int .i64 s2.kind) (.bool s2.b) (.int .i64 s2.n) (.string (strB s2.text)) (.slice pk2 s2.keys.length ck2) (.slice pl2 s2.list.length cl2) wr.drew := ⟨hT1.below (Below.refl _ _).drew, ⟨hbd, a0, a1, a2, a3, a4, a5, r0, r1, r2, r3, r4, r5, hv1, hv2⟩⟩
            have HD := Lib.hid (And.intro hz (And.intro hone (And.intro htwo HT.out.1)))
            clear a0 a1 a2 a3 a4 a5 r0 r1 r2 r3 r4 r5 hv1 hv2 hbd hT1 hz hone htwo HT
            rcases hrange with rfl | rfl | rfl
            · have HN := Lib.hid (HD.out.2.2.2.trans (HD.out.1 rfl))
              clear HD
              go_wp2
              refine plain_region_draws (fun W => EqdU w #[.int .i64 4, .bool b, .int .i64 n, .string (strB t), .slice pk ks.length ck, .slice (some ⟨g1, o1, none⟩) l.length cl] #[.int .i64 4, .bool b', .int .i64 n', .string (strB t'), .slice pk' ks'.length ck', .slice (some ⟨g2, o2, none⟩) l'.length cl'] s1 s2 g1 (o1 + j * 6) g2 (o2 + j * 6) (.int .i64 s1.kind) (.bool s1.b) (.int .i64 s1.n) (.string (strB s1.text)) (.slice pk1 s1.keys.length ck1) (.slice pl1 s1.list.length cl1) (.int .i64 s2.kind) (.bool s2.b) (.int .i64 s2.n) (.string (strB s2.text)) (.slice pk2 s2.keys.length ck2) (.slice pl2 s2.list.length cl2) W) (by kernel_rfl) hU0 (fun hU => ?_)
              generalize hE : (0 : Int) = E at HC
              refine take 0 76 (v := .pointer (some ⟨w.heap.size, 5, none⟩)) rfl rfl (by kernel_rfl) (by kernel_rfl) (by kernel_rfl) rfl (fun W hW => exec_fieldAddr rfl rfl (fa_value _ _ (by decide) W)) (by assumption) ?_
              simp only [Act.put, List.setIfInBounds_toArray, List.set_cons_zero, List.set_cons_succ]
              refine take 1 77 (v := .slice (some ⟨g1, o1, none⟩) l.length cl) rfl rfl (by kernel_rfl) (by kernel_rfl) (by kernel_rfl) rfl (fun W hW => exec_load rfl rfl (run_load1 (w := W) Tryz.underlying24 rfl (cellOf hW.two.1 rfl))) (by assumption) ?_
              simp only [Act.put, List.setIfInBounds_toArray, List.set_cons_zero, List.set_cons_succ]
              refine take 2 78 (v := .int .i64 (j : Int)) rfl rfl (by kernel_rfl) (by kernel_rfl) (by kernel_rfl) rfl (fun W hW => exec_move rfl rfl) (by assumption) ?_
              simp only [Act.put, List.setIfInBounds_toArray, List.set_cons_zero, List.set_cons_succ]
              refine take 3 79 (v := .pointer (some ⟨g1, o1 + j * 6, none⟩)) rfl rfl (by kernel_rfl) (by kernel_rfl) (by kernel_rfl) rfl (fun W hW => exec_indexAddr rfl rfl rfl (ia_vals _ _ _ _ _ hlt W)) (by assumption) ?_
              simp only [Act.put, List.setIfInBounds_toArray, List.set_cons_zero, List.set_cons_succ]
              refine take 4 80 (v := .agg #[.int .i64 s1.kind, .bool s1.b, .int .i64 s1.n, .string (strB s1.text), .slice pk1 s1.keys.length ck1, .slice pl1 s1.list.length cl1]) rfl rfl (by kernel_rfl) (by kernel_rfl) (by kernel_rfl) rfl (fun W hW => exec_load rfl rfl (get_six hW.p.h0 hW.p.h1 hW.p.h2 hW.p.h3 hW.p.h4 hW.p.h5)) (by assumption) ?_
              simp only [Act.put, List.setIfInBounds_toArray, List.set_cons_zero, List.set_cons_succ]
              refine take 5 81 (v := .pointer (some ⟨w.heap.size + 1, 5, none⟩)) rfl rfl (by kernel_rfl) (by kernel_rfl) (by kernel_rfl) rfl (fun W hW => exec_fieldAddr rfl rfl (fa_value _ _ (by decide) W)) (by assumption) ?_
              simp only [Act.put, List.setIfInBounds_toArray, List.set_cons_zero, List.set_cons_succ]
              refine take 6 82 (v := .slice (some ⟨g2, o2, none⟩) l'.length cl') rfl rfl (by kernel_rfl) (by kernel_rfl) (by kernel_rfl) rfl (fun W hW => exec_load rfl rfl (run_load1 (w := W) Tryz.underlying24 rfl (cellOf hW.two.2.1 rfl))) (by assumption) ?_
              simp only [Act.put, List.setIfInBounds_toArray, List.set_cons_zero, List.set_cons_succ]
              refine take 7 83 (v := .int .i64 (j : Int)) rfl rfl (by kernel_rfl) (by kernel_rfl) (by kernel_rfl) rfl (fun W hW => exec_move rfl rfl) (by assumption) ?_
              simp only [Act.put, List.setIfInBounds_toArray, List.set_cons_zero, List.set_cons_succ]
              refine take 8 84 (v := .pointer (some ⟨g2, o2 + j * 6, none⟩)) rfl rfl (by kernel_rfl) (by kernel_rfl) (by kernel_rfl) rfl (fun W hW => exec_indexAddr rfl rfl rfl (ia_vals _ _ _ _ _ hlt2 W)) (by assumption) ?_
              simp only [Act.put, List.setIfInBounds_toArray, List.set_cons_zero, List.set_cons_succ]
              refine take 9 85 (v := .agg #[.int .i64 s2.kind, .bool s2.b, .int .i64 s2.n, .string (strB s2.text), .slice pk2 s2.keys.length ck2, .slice pl2 s2.list.length cl2]) rfl rfl (by kernel_rfl) (by kernel_rfl) (by kernel_rfl) rfl (fun W hW => exec_load rfl rfl (get_six hW.p.q0 hW.p.q1 hW.p.q2 hW.p.q3 hW.p.q4 hW.p.q5)) (by assumption) ?_
              simp only [Act.put, List.setIfInBounds_toArray, List.set_cons_zero, List.set_cons_succ]
              refine onlyCall 10 86 rfl rfl (by kernel_rfl) rfl (exec_call [.agg #[.int .i64 s1.kind, .bool s1.b, .int .i64 s1.n, .string (strB s1.text), .slice pk1 s1.keys.length ck1, .slice pl1 s1.list.length cl1], .agg #[.int .i64 s2.kind, .bool s2.b, .int .i64 s2.n, .string (strB s2.text), .slice pk2 s2.keys.length ck2, .slice pl2 s2.list.length cl2]] rfl rfl Tryz.func23 (by kernel_rfl) (by kernel_rfl)) ?_
              refine (HC.out _ _ _ hU.p.r1 hU.p.r2).mono ?_
              rintro e w5 ⟨rfl, hb5⟩
              have hU2 := hU.keep hb5
              clear hb5
              refine ⟨_, rfl, .inr hU2, ?_⟩
              simp only [Act.put, List.setIfInBounds_toArray, List.set_cons_zero, List.set_cons_succ]
              refine take 11 8 (v := .int .i64 E) rfl rfl (by kernel_rfl) (by kernel_rfl) (by kernel_rfl) rfl (fun W hW => exec_assign rfl rfl) (by assumption) ?_
              simp only [Act.put, List.setIfInBounds_toArray, List.set_cons_zero, List.set_cons_succ]
              refine done (by kernel_rfl) ?_ _
              subst hE
              have HF := Lib.hid hU2.two.2.2
              clear hU hU0 hU2 HC
              go_wp2
              go_ret
              exact ⟨ret_int HN.out.symm, HF.out⟩
            · have HN := Lib.hid (HD.out.2.2.2.trans (HD.out.2.1 rfl))
              clear HD
              go_wp2
              refine plain_region_draws (fun W => EqdU w #[.int .i64 4, .bool b, .int .i64 n, .string (strB t), .slice pk ks.length ck, .slice (some ⟨g1, o1, none⟩) l.length cl] #[.int .i64 4, .bool b', .int .i64 n', .string (strB t'), .slice pk' ks'.length ck', .slice (some ⟨g2, o2, none⟩) l'.length cl'] s1 s2 g1 (o1 + j * 6) g2 (o2 + j * 6) (.int .i64 s1.kind) (.bool s1.b) (.int .i64 s1.n) (.string (strB s1.text)) (.slice pk1 s1.keys.length ck1) (.slice pl1 s1.list.length cl1) (.int .i64 s2.kind) (.bool s2.b) (.int .i64 s2.n) (.string (strB s2.text)) (.slice pk2 s2.keys.length ck2) (.slice pl2 s2.list.length cl2) W) (by kernel_rfl) hU0 (fun hU => ?_)
              generalize hE : (1 : Int) = E at HC
              refine take 0 76 (v := .pointer (some ⟨w.heap.size, 5, none⟩)) rfl rfl (by kernel_rfl) (by kernel_rfl) (by kernel_rfl) rfl (fun W hW => exec_fieldAddr rfl rfl (fa_value _ _ (by decide) W)) (by assumption) ?_
              simp only [Act.put, List.setIfInBounds_toArray, List.set_cons_zero, List.set_cons_succ]
              refine take 1 77 (v := .slice (some ⟨g1, o1, none⟩) l.length cl) rfl rfl (by kernel_rfl) (by kernel_rfl) (by kernel_rfl) rfl (fun W hW => exec_load rfl rfl (run_load1 (w := W) Tryz.underlying24 rfl (cellOf hW.two.1 rfl))) (by assumption) ?_
              simp only [Act.put, List.setIfInBounds_toArray, List.set_cons_zero, List.set_cons_succ]
              refine take 2 78 (v := .int .i64 (j : Int)) rfl rfl (by kernel_rfl) (by kernel_rfl) (by kernel_rfl) rfl (fun W hW => exec_move rfl rfl) (by assumption) ?_
              simp only [Act.put, List.setIfInBounds_toArray, List.set_cons_zero, List.set_cons_succ]
              refine take 3 79 (v := .pointer (some ⟨g1, o1 + j * 6, none⟩)) rfl rfl (by kernel_rfl) (by kernel_rfl) (by kernel_rfl) rfl (fun W hW => exec_indexAddr rfl rfl rfl (ia_vals _ _ _ _ _ hlt W)) (by assumption) ?_
              simp only [Act.put, List.setIfInBounds_toArray, List.set_cons_zero, List.set_cons_succ]
              refine take 4 80 (v := .agg #[.int .i64 s1.kind, .bool s1.b, .int .i64 s1.n, .string (strB s1.text), .slice pk1 s1.keys.length ck1, .slice pl1 s1.list.length cl1]) rfl rfl (by kernel_rfl) (by kernel_rfl) (by kernel_rfl) rfl (fun W hW => exec_load rfl rfl (get_six hW.p.h0 hW.p.h1 hW.p.h2 hW.p.h3 hW.p.h4 hW.p.h5)) (by assumption) ?_
              simp only [Act.put, List.setIfInBounds_toArray, List.set_cons_zero, List.set_cons_succ]
              refine take 5 81 (v := .pointer (some ⟨w.heap.size + 1, 5, none⟩)) rfl rfl (by kernel_rfl) (by kernel_rfl) (by kernel_rfl) rfl (fun W hW => exec_fieldAddr rfl rfl (fa_value _ _ (by decide) W)) (by assumption) ?_
              simp only [Act.put, List.setIfInBounds_toArray, List.set_cons_zero, List.set_cons_succ]
              refine take 6 82 (v := .slice (some ⟨g2, o2, none⟩) l'.length cl') rfl rfl (by kernel_rfl) (by kernel_rfl) (by kernel_rfl) rfl (fun W hW => exec_load rfl rfl (run_load1 (w := W) Tryz.underlying24 rfl (cellOf hW.two.2.1 rfl))) (by assumption) ?_
              simp only [Act.put, List.setIfInBounds_toArray, List.set_cons_zero, List.set_cons_succ]
              refine take 7 83 (v := .int .i64 (j : Int)) rfl rfl (by kernel_rfl) (by kernel_rfl) (by kernel_rfl) rfl (fun W hW => exec_move rfl rfl) (by assumption) ?_
              simp only [Act.put, List.setIfInBounds_toArray, List.set_cons_zero, List.set_cons_succ]
              refine take 8 84 (v := .pointer (some ⟨g2, o2 + j * 6, none⟩)) rfl rfl (by kernel_rfl) (by kernel_rfl) (by kernel_rfl) rfl (fun W hW => exec_indexAddr rfl rfl rfl (ia_vals _ _ _ _ _ hlt2 W)) (by assumption) ?_
              simp only [Act.put, List.setIfInBounds_toArray, List.set_cons_zero, List.set_cons_succ]
              refine take 9 85 (v := .agg #[.int .i64 s2.kind, .bool s2.b, .int .i64 s2.n, .string (strB s2.text), .slice pk2 s2.keys.length ck2, .slice pl2 s2.list.length cl2]) rfl rfl (by kernel_rfl) (by kernel_rfl) (by kernel_rfl) rfl (fun W hW => exec_load rfl rfl (get_six hW.p.q0 hW.p.q1 hW.p.q2 hW.p.q3 hW.p.q4 hW.p.q5)) (by assumption) ?_
              simp only [Act.put, List.setIfInBounds_toArray, List.set_cons_zero, List.set_cons_succ]
              refine onlyCall 10 86 rfl rfl (by kernel_rfl) rfl (exec_call [.agg #[.int .i64 s1.kind, .bool s1.b, .int .i64 s1.n, .string (strB s1.text), .slice pk1 s1.keys.length ck1, .slice pl1 s1.list.length cl1], .agg #[.int .i64 s2.kind, .bool s2.b, .int .i64 s2.n, .string (strB s2.text), .slice pk2 s2.keys.length ck2, .slice pl2 s2.list.length cl2]] rfl rfl Tryz.func23 (by kernel_rfl) (by kernel_rfl)) ?_
              refine (HC.out _ _ _ hU.p.r1 hU.p.r2).mono ?_
              rintro e w5 ⟨rfl, hb5⟩
              have hU2 := hU.keep hb5
              clear hb5
              refine ⟨_, rfl, .inr hU2, ?_⟩
              simp only [Act.put, List.setIfInBounds_toArray, List.set_cons_zero, List.set_cons_succ]
              refine take 11 8 (v := .int .i64 E) rfl rfl (by kernel_rfl) (by kernel_rfl) (by kernel_rfl) rfl (fun W hW => exec_assign rfl rfl) (by assumption) ?_
              simp only [Act.put, List.setIfInBounds_toArray, List.set_cons_zero, List.set_cons_succ]
              refine done (by kernel_rfl) ?_ _
              subst hE
              have HT0 := Lib.hid (And.intro HN.out hU2.two)
              clear hU hU0 hU2 HC HN
              cases nb
              all_goals
                go_wp2
                go_roundw
                case rel => exact ⟨j + 1, true, by omega, by go_num, rfl, HT0⟩
                case measure => simp [intOf]; omega
            · have HN := Lib.hid (HD.out.2.2.2.trans (HD.out.2.2.1 rfl))
              clear HD
              go_wp2
              refine plain_region_draws (fun W => EqdU w #[.int .i64 4, .bool b, .int .i64 n, .string (strB t), .slice pk ks.length ck, .slice (some ⟨g1, o1, none⟩) l.length cl] #[.int .i64 4, .bool b', .int .i64 n', .string (strB t'), .slice pk' ks'.length ck', .slice (some ⟨g2, o2, none⟩) l'.length cl'] s1 s2 g1 (o1 + j * 6) g2 (o2 + j * 6) (.int .i64 s1.kind) (.bool s1.b) (.int .i64 s1.n) (.string (strB s1.text)) (.slice pk1 s1.keys.length ck1) (.slice pl1 s1.list.length cl1) (.int .i64 s2.kind) (.bool s2.b) (.int .i64 s2.n) (.string (strB s2.text)) (.slice pk2 s2.keys.length ck2) (.slice pl2 s2.list.length cl2) W) (by kernel_rfl) hU0 (fun hU => ?_)
              generalize hE : (2 : Int) = E at HC
              refine take 0 76 (v := .pointer (some ⟨w.heap.size, 5, none⟩)) rfl rfl (by kernel_rfl) (by kernel_rfl) (by kernel_rfl) rfl (fun W hW => exec_fieldAddr rfl rfl (fa_value _ _ (by decide) W)) (by assumption) ?_
              simp only [Act.put, List.setIfInBounds_toArray, List.set_cons_zero, List.set_cons_succ]
              refine take 1 77 (v := .slice (some ⟨g1, o1, none⟩) l.length cl) rfl rfl (by kernel_rfl) (by kernel_rfl) (by kernel_rfl) rfl (fun W hW => exec_load rfl rfl (run_load1 (w := W) Tryz.underlying24 rfl (cellOf hW.two.1 rfl))) (by assumption) ?_
              simp only [Act.put, List.setIfInBounds_toArray, List.set_cons_zero, List.set_cons_succ]
              refine take 2 78 (v := .int .i64 (j : Int)) rfl rfl (by kernel_rfl) (by kernel_rfl) (by kernel_rfl) rfl (fun W hW => exec_move rfl rfl) (by assumption) ?_
              simp only [Act.put, List.setIfInBounds_toArray, List.set_cons_zero, List.set_cons_succ]
              refine take 3 79 (v := .pointer (some ⟨g1, o1 + j * 6, none⟩)) rfl rfl (by kernel_rfl) (by kernel_rfl) (by kernel_rfl) rfl (fun W hW => exec_indexAddr rfl rfl rfl (ia_vals _ _ _ _ _ hlt W)) (by assumption) ?_
              simp only [Act.put, List.setIfInBounds_toArray, List.set_cons_zero, List.set_cons_succ]
              refine take 4 80 (v := .agg #[.int .i64 s1.kind, .bool s1.b, .int .i64 s1.n, .string (strB s1.text), .slice pk1 s1.keys.length ck1, .slice pl1 s1.list.length cl1]) rfl rfl (by kernel_rfl) (by kernel_rfl) (by kernel_rfl) rfl (fun W hW => exec_load rfl rfl (get_six hW.p.h0 hW.p.h1 hW.p.h2 hW.p.h3 hW.p.h4 hW.p.h5)) (by assumption) ?_
              simp only [Act.put, List.setIfInBounds_toArray, List.set_cons_zero, List.set_cons_succ]
              refine take 5 81 (v := .pointer (some ⟨w.heap.size + 1, 5, none⟩)) rfl rfl (by kernel_rfl) (by kernel_rfl) (by kernel_rfl) rfl (fun W hW => exec_fieldAddr rfl rfl (fa_value _ _ (by decide) W)) (by assumption) ?_
              simp only [Act.put, List.setIfInBounds_toArray, List.set_cons_zero, List.set_cons_succ]
              refine take 6 82 (v := .slice (some ⟨g2, o2, none⟩) l'.length cl') rfl rfl (by kernel_rfl) (by kernel_rfl) (by kernel_rfl) rfl (fun W hW => exec_load rfl rfl (run_load1 (w := W) Tryz.underlying24 rfl (cellOf hW.two.2.1 rfl))) (by assumption) ?_
              simp only [Act.put, List.setIfInBounds_toArray, List.set_cons_zero, List.set_cons_succ]
              refine take 7 83 (v := .int .i64 (j : Int)) rfl rfl (by kernel_rfl) (by kernel_rfl) (by kernel_rfl) rfl (fun W hW => exec_move rfl rfl) (by assumption) ?_
              simp only [Act.put, List.setIfInBounds_toArray, List.set_cons_zero, List.set_cons_succ]
              refine take 8 84 (v := .pointer (some ⟨g2, o2 + j * 6, none⟩)) rfl rfl (by kernel_rfl) (by kernel_rfl) (by kernel_rfl) rfl (fun W hW => exec_indexAddr rfl rfl rfl (ia_vals _ _ _ _ _ hlt2 W)) (by assumption) ?_
              simp only [Act.put, List.setIfInBounds_toArray, List.set_cons_zero, List.set_cons_succ]
              refine take 9 85 (v := .agg #[.int .i64 s2.kind, .bool s2.b, .int .i64 s2.n, .string (strB s2.text), .slice pk2 s2.keys.length ck2, .slice pl2 s2.list.length cl2]) rfl rfl (by kernel_rfl) (by kernel_rfl) (by kernel_rfl) rfl (fun W hW => exec_load rfl rfl (get_six hW.p.q0 hW.p.q1 hW.p.q2 hW.p.q3 hW.p.q4 hW.p.q5)) (by assumption) ?_
              simp only [Act.put, List.setIfInBounds_toArray, List.set_cons_zero, List.set_cons_succ]
              refine onlyCall 10 86 rfl rfl (by kernel_rfl) rfl (exec_call [.agg #[.int .i64 s1.kind, .bool s1.b, .int .i64 s1.n, .string (strB s1.text), .slice pk1 s1.keys.length ck1, .slice pl1 s1.list.length cl1], .agg #[.int .i64 s2.kind, .bool s2.b, .int .i64 s2.n, .string (strB s2.text), .slice pk2 s2.keys.length ck2, .slice pl2 s2.list.length cl2]] rfl rfl Tryz.func23 (by kernel_rfl) (by kernel_rfl)) ?_
              refine (HC.out _ _ _ hU.p.r1 hU.p.r2).mono ?_
              rintro e w5 ⟨rfl, hb5⟩
              have hU2 := hU.keep hb5
              clear hb5
              refine ⟨_, rfl, .inr hU2, ?_⟩
              simp only [Act.put, List.setIfInBounds_toArray, List.set_cons_zero, List.set_cons_succ]
              refine take 11 8 (v := .int .i64 E) rfl rfl (by kernel_rfl) (by kernel_rfl) (by kernel_rfl) rfl (fun W hW => exec_assign rfl rfl) (by assumption) ?_
              simp only [Act.put, List.setIfInBounds_toArray, List.set_cons_zero, List.set_cons_succ]
              refine done (by kernel_rfl) ?_ _
              subst hE
              have HT0 := Lib.hid (And.intro HN.out hU2.two)
              clear hU hU0 hU2 HC HN
              cases nb
              all_goals
                go_wp2
                go_roundw
                case rel => exact ⟨j + 1, _, by omega, by go_num, rfl, HT0⟩
                case measure => simp [intOf]; omega
          · obtain rfl : j = l.length := by omega
            have hE := HT.out.1
            rw [List.drop_length, combE_end _ (metN_cases nb)] at hE
            have HE := Lib.hid hE
            have HF := Lib.hid hT1.2.2
            clear hT1 hE HT
            cases nb
            all_goals
              go_wp2
              go_ret
              exact ⟨ret_int (by rw [HE.out]; rfl), HF.out⟩
  · go_enter Tryz.func23, Tryz.ntmps23
    go_wp2
    clear dl dl2 dk dk2
    have HT0 := HT
    go_loopw [5] (fun i wr => ∃ j : Nat, j ≤ ks.length ∧ i = .int .i64 (j : Int) ∧ Hid (SoFar ks ks' j ∧ TwoV w wr #[.int .i64 5, .bool b, .int .i64 n, .string (strB t), .slice pk ks.length ck, .slice pl l.length cl] #[.int .i64 5, .bool b', .int .i64 n', .string (strB t'), .slice pk' ks'.length ck', .slice pl' l'.length cl'])) (fun i _ => ks.length - (intOf i).toNat)
    case atStart => exact ⟨0, Nat.zero_le _, rfl, Lib.hid ⟨fun i hi => by omega, HT0.out⟩⟩
    case round =>
      clear HT HT0 HB HC
      obtain ⟨j, hj, rfl, HT⟩ := hrel
      have hT1 := HT.out.2
      have c4 := cellOf (o := 4) hT1.1 rfl; have c5 := cellOf (o := 5) hT1.1 rfl
      have q4 := cellOf (o := 4) hT1.2.1 rfl; have q5 := cellOf (o := 5) hT1.2.1 rfl
      by_cases hlt : j < ks.length
      · have hlt1 : j + 1 ≤ ks.length := hlt
        have hlt2 : j < ks'.length := by have := HKL.out; omega
        have hbd : Below w.heap.size w wr.drew := below_trans hT1.2.2 (Below.refl _ _).drew
        obtain ⟨b1, o1, rfl, r1, y1⟩ := (HKS.out.1.below hbd).get hlt
        obtain ⟨b2, o2, rfl, r2, y2⟩ := (HKS.out.2.below hbd).get hlt2
        by_cases e : ks[j] = ks'[j]
        · have HS := Lib.hid (HT.out.1.step hlt hlt2 e)
          rw [← e] at r2
          clear e
          generalize ks[j] = s1 at *
          have hU0 : KeyTwo w #[.int .i64 5, .bool b, .int .i64 n, .string (strB t), .slice (some ⟨b1, o1, none⟩) ks.length ck, .slice pl l.length cl] #[.int .i64 5, .bool b', .int .i64 n', .string (strB t'), .slice (some ⟨b2, o2, none⟩) ks'.length ck', .slice pl' l'.length cl'] b1 (o1 + j) b2 (o2 + j) s1 s1 wr.drew := ⟨hT1.below (Below.refl _ _).drew, r1, r2⟩
          have hne : ∀ W, (binOp .neq 9 (.string (strB s1)) (.string (strB s1))).run Tryz.prog W = .ok (.bool false) W := fun W => by rw [run_neStr]; simp
          clear r1 r2 y1 y2 hbd hT1
          go_wp2
          refine plain_region_draws (fun W => KeyTwo w #[.int .i64 5, .bool b, .int .i64 n, .string (strB t), .slice (some ⟨b1, o1, none⟩) ks.length ck, .slice pl l.length cl] #[.int .i64 5, .bool b', .int .i64 n', .string (strB t'), .slice (some ⟨b2, o2, none⟩) ks'.length ck', .slice pl' l'.length cl'] b1 (o1 + j) b2 (o2 + j) s1 s1 W) (by kernel_rfl) hU0 (fun hU => ?_)
          refine take 0 58 (v := .pointer (some ⟨w.heap.size, 4, none⟩)) rfl rfl (by kernel_rfl) (by kernel_rfl) (by kernel_rfl) rfl (fun W hW => exec_fieldAddr rfl rfl (fa_value _ _ (by decide) W)) (by assumption) ?_
          simp only [Act.put, List.setIfInBounds_toArray, List.set_cons_zero, List.set_cons_succ]
          refine take 1 59 (v := .slice (some ⟨b1, o1, none⟩) ks.length ck) rfl rfl (by kernel_rfl) (by kernel_rfl) (by kernel_rfl) rfl (fun W hW => exec_load rfl rfl (run_load1 (w := W) Tryz.underlying23 rfl (cellOf hW.two.1 rfl))) (by assumption) ?_
          simp only [Act.put, List.setIfInBounds_toArray, List.set_cons_zero, List.set_cons_succ]
          refine take 2 60 (v := .int .i64 (j : Int)) rfl rfl (by kernel_rfl) (by kernel_rfl) (by kernel_rfl) rfl (fun W hW => exec_move rfl rfl) (by assumption) ?_
          simp only [Act.put, List.setIfInBounds_toArray, List.set_cons_zero, List.set_cons_succ]
          refine take 3 61 (v := .pointer (some ⟨b1, o1 + j, none⟩)) rfl rfl (by kernel_rfl) (by kernel_rfl) (by kernel_rfl) rfl (fun W hW => exec_indexAddr rfl rfl rfl (ia_keys _ _ _ _ _ hlt W)) (by assumption) ?_
          simp only [Act.put, List.setIfInBounds_toArray, List.set_cons_zero, List.set_cons_succ]
          refine take 4 62 (v := .string (strB s1)) rfl rfl (by kernel_rfl) (by kernel_rfl) (by kernel_rfl) rfl (fun W hW => exec_load rfl rfl (run_load1 (w := W) Tryz.underlying9 rfl hW.one)) (by assumption) ?_
          simp only [Act.put, List.setIfInBounds_toArray, List.set_cons_zero, List.set_cons_succ]
          refine take 5 63 (v := .pointer (some ⟨w.heap.size + 1, 4, none⟩)) rfl rfl (by kernel_rfl) (by kernel_rfl) (by kernel_rfl) rfl (fun W hW => exec_fieldAddr rfl rfl (fa_value _ _ (by decide) W)) (by assumption) ?_
          simp only [Act.put, List.setIfInBounds_toArray, List.set_cons_zero, List.set_cons_succ]
          refine take 6 64 (v := .slice (some ⟨b2, o2, none⟩) ks'.length ck') rfl rfl (by kernel_rfl) (by kernel_rfl) (by kernel_rfl) rfl (fun W hW => exec_load rfl rfl (run_load1 (w := W) Tryz.underlying23 rfl (cellOf hW.two.2.1 rfl))) (by assumption) ?_
          simp only [Act.put, List.setIfInBounds_toArray, List.set_cons_zero, List.set_cons_succ]
          refine take 7 65 (v := .int .i64 (j : Int)) rfl rfl (by kernel_rfl) (by kernel_rfl) (by kernel_rfl) rfl (fun W hW => exec_move rfl rfl) (by assumption) ?_
          simp only [Act.put, List.setIfInBounds_toArray, List.set_cons_zero, List.set_cons_succ]
          refine take 8 66 (v := .pointer (some ⟨b2, o2 + j, none⟩)) rfl rfl (by kernel_rfl) (by kernel_rfl) (by kernel_rfl) rfl (fun W hW => exec_indexAddr rfl rfl rfl (ia_keys _ _ _ _ _ hlt2 W)) (by assumption) ?_
          simp only [Act.put, List.setIfInBounds_toArray, List.set_cons_zero, List.set_cons_succ]
          refine take 9 67 (v := .string (strB s1)) rfl rfl (by kernel_rfl) (by kernel_rfl) (by kernel_rfl) rfl (fun W hW => exec_load rfl rfl (run_load1 (w := W) Tryz.underlying9 rfl hW.sec)) (by assumption) ?_
          simp only [Act.put, List.setIfInBounds_toArray, List.set_cons_zero, List.set_cons_succ]
          refine take 10 68 (v := .bool false) rfl rfl (by kernel_rfl) (by kernel_rfl) (by kernel_rfl) rfl (fun W hW => exec_bins rfl rfl rfl (hne W)) (by assumption) ?_
          simp only [Act.put, List.setIfInBounds_toArray, List.set_cons_zero, List.set_cons_succ]
          refine done (by kernel_rfl) ?_ _
          have HT0 := Lib.hid (And.intro HS.out hU.two)
          have c4 := cellOf (o := 4) hU.two.1 rfl
          have q4 := cellOf (o := 4) hU.two.2.1 rfl
          clear hU hU0 hne HS HT
          go_wp2
          go_roundw
          case rel => exact ⟨j + 1, by omega, by go_num, HT0⟩
          case measure => simp [intOf]; omega
        · have HR := Lib.hid (HM4.out.trans (if_pos (.inr fun e2 => e (by subst e2; rfl))))
          generalize ks[j] = s1 at *
          generalize ks'[j] = s2 at *
          have hU0 : KeyTwo w #[.int .i64 5, .bool b, .int .i64 n, .string (strB t), .slice (some ⟨b1, o1, none⟩) ks.length ck, .slice pl l.length cl] #[.int .i64 5, .bool b', .int .i64 n', .string (strB t'), .slice (some ⟨b2, o2, none⟩) ks'.length ck', .slice pl' l'.length cl'] b1 (o1 + j) b2 (o2 + j) s1 s2 wr.drew := ⟨hT1.below (Below.refl _ _).drew, r1, r2⟩
          have hne : ∀ W, (binOp .neq 9 (.string (strB s1)) (.string (strB s2))).run Tryz.prog W = .ok (.bool true) W := fun W => by rw [run_neStr]; simp [e]
          clear r1 r2 y1 y2 hbd hT1 e
          go_wp2
          refine plain_region_draws (fun W => KeyTwo w #[.int .i64 5, .bool b, .int .i64 n, .string (strB t), .slice (some ⟨b1, o1, none⟩) ks.length ck, .slice pl l.length cl] #[.int .i64 5, .bool b', .int .i64 n', .string (strB t'), .slice (some ⟨b2, o2, none⟩) ks'.length ck', .slice pl' l'.length cl'] b1 (o1 + j) b2 (o2 + j) s1 s2 W) (by kernel_rfl) hU0 (fun hU => ?_)
          refine take 0 58 (v := .pointer (some ⟨w.heap.size, 4, none⟩)) rfl rfl (by kernel_rfl) (by kernel_rfl) (by kernel_rfl) rfl (fun W hW => exec_fieldAddr rfl rfl (fa_value _ _ (by decide) W)) (by assumption) ?_
          simp only [Act.put, List.setIfInBounds_toArray, List.set_cons_zero, List.set_cons_succ]
          refine take 1 59 (v := .slice (some ⟨b1, o1, none⟩) ks.length ck) rfl rfl (by kernel_rfl) (by kernel_rfl) (by kernel_rfl) rfl (fun W hW => exec_load rfl rfl (run_load1 (w := W) Tryz.underlying23 rfl (cellOf hW.two.1 rfl))) (by assumption) ?_
          simp only [Act.put, List.setIfInBounds_toArray, List.set_cons_zero, List.set_cons_succ]
          refine take 2 60 (v := .int .i64 (j : Int)) rfl rfl (by kernel_rfl) (by kernel_rfl) (by kernel_rfl) rfl (fun W hW => exec_move rfl rfl) (by assumption) ?_
          simp only [Act.put, List.setIfInBounds_toArray, List.set_cons_zero, List.set_cons_succ]
          refine take 3 61 (v := .pointer (some ⟨b1, o1 + j, none⟩)) rfl rfl (by kernel_rfl) (by kernel_rfl) (by kernel_rfl) rfl (fun W hW => exec_indexAddr rfl rfl rfl (ia_keys _ _ _ _ _ hlt W)) (by assumption) ?_
          simp only [Act.put, List.setIfInBounds_toArray, List.set_cons_zero, List.set_cons_succ]
          refine take 4 62 (v := .string (strB s1)) rfl rfl (by kernel_rfl) (by kernel_rfl) (by kernel_rfl) rfl (fun W hW => exec_load rfl rfl (run_load1 (w := W) Tryz.underlying9 rfl hW.one)) (by assumption) ?_
          simp only [Act.put, List.setIfInBounds_toArray, List.set_cons_zero, List.set_cons_succ]
          refine take 5 63 (v := .pointer (some ⟨w.heap.size + 1, 4, none⟩)) rfl rfl (by kernel_rfl) (by kernel_rfl) (by kernel_rfl) rfl (fun W hW => exec_fieldAddr rfl rfl (fa_value _ _ (by decide) W)) (by assumption) ?_
          simp only [Act.put, List.setIfInBounds_toArray, List.set_cons_zero, List.set_cons_succ]
          refine take 6 64 (v := .slice (some ⟨b2, o2, none⟩) ks'.length ck') rfl rfl (by kernel_rfl) (by kernel_rfl) (by kernel_rfl) rfl (fun W hW => exec_load rfl rfl (run_load1 (w := W) Tryz.underlying23 rfl (cellOf hW.two.2.1 rfl))) (by assumption) ?_
          simp only [Act.put, List.setIfInBounds_toArray, List.set_cons_zero, List.set_cons_succ]
          refine take 7 65 (v := .int .i64 (j : Int)) rfl rfl (by kernel_rfl) (by kernel_rfl) (by kernel_rfl) rfl (fun W hW => exec_move rfl rfl) (by assumption) ?_
          simp only [Act.put, List.setIfInBounds_toArray, List.set_cons_zero, List.set_cons_succ]
          refine take 8 66 (v := .pointer (some ⟨b2, o2 + j, none⟩)) rfl rfl (by kernel_rfl) (by kernel_rfl) (by kernel_rfl) rfl (fun W hW => exec_indexAddr rfl rfl rfl (ia_keys _ _ _ _ _ hlt2 W)) (by assumption) ?_
          simp only [Act.put, List.setIfInBounds_toArray, List.set_cons_zero, List.set_cons_succ]
          refine take 9 67 (v := .string (strB s2)) rfl rfl (by kernel_rfl) (by kernel_rfl) (by kernel_rfl) rfl (fun W hW => exec_load rfl rfl (run_load1 (w := W) Tryz.underlying9 rfl hW.sec)) (by assumption) ?_
          simp only [Act.put, List.setIfInBounds_toArray, List.set_cons_zero, List.set_cons_succ]
          refine take 10 68 (v := .bool true) rfl rfl (by kernel_rfl) (by kernel_rfl) (by kernel_rfl) rfl (fun W hW => exec_bins rfl rfl rfl (hne W)) (by assumption) ?_
          simp only [Act.put, List.setIfInBounds_toArray, List.set_cons_zero, List.set_cons_succ]
          refine done (by kernel_rfl) ?_ _
          have HF := Lib.hid hU.two.2.2
          clear hU hU0 hne HT
          go_wp2
          go_ret
          exact ⟨ret_int HR.out.symm, HF.out⟩
      · obtain rfl : j = ks.length := by omega
        have hkk := HT.out.1.all HKL.out
        have HR := Lib.hid (HM4.out.trans (if_neg (by rintro (h | h); exact h Hell.out; exact h hkk)))
        have HT0 := Lib.hid hT1
        clear hT1 hkk HM4 HT
        go_wp2
        go_loopw [6, 7] (fun o i wr => ∃ (j : Nat) (nb : Bool), j ≤ l.length ∧ i = .int .i64 (j : Int) ∧ o = .bool nb ∧ Hid (R = combE (metN nb) (eqVs (l.drop j) (l'.drop j)) ∧ TwoV w wr #[.int .i64 5, .bool b, .int .i64 n, .string (strB t), .slice pk ks.length ck, .slice pl l.length cl] #[.int .i64 5, .bool b', .int .i64 n', .string (strB t'), .slice pk' ks'.length ck', .slice pl' l'.length cl'])) (fun _ i _ => l.length - (intOf i).toNat)
        case atStart => exact ⟨0, false, Nat.zero_le _, rfl, rfl, Lib.hid ⟨by rw [HR.out]; exact (combE_two _ (eqVs_range _ _)).symm, HT0.out⟩⟩
        case round =>
          clear HT0 c4 c5 q4 q5
          obtain ⟨j, nb, hj, rfl, rfl, HT⟩ := hrel
          have hT1 := HT.out.2
          have c4 := cellOf (o := 4) hT1.1 rfl; have c5 := cellOf (o := 5) hT1.1 rfl
          have q4 := cellOf (o := 4) hT1.2.1 rfl; have q5 := cellOf (o := 5) hT1.2.1 rfl
          by_cases hlt : j < l.length
          · have hlt1 : j + 1 ≤ l.length := hlt
            have hlt2 : j < l'.length := by have := Hell.out; omega
            have hbd : Below w.heap.size w wr.drew := below_trans hT1.2.2 (Below.refl _ _).drew
            obtain ⟨g1, o1, pk1, ck1, pl1, cl1, rfl, ⟨a0, a1, a2, a3, a4, a5⟩, hv1⟩ := (HL.out.1.below hbd).at hlt
            obtain ⟨g2, o2, pk2, ck2, pl2, cl2, rfl, ⟨r0, r1, r2, r3, r4, r5⟩, hv2⟩ := (HL.out.2.below hbd).at hlt2
            have hz := @combE_zero (metN nb) l[j] l'[j] (l.drop (j + 1)) (l'.drop (j + 1))
            have hone := @combE_one (metN nb) l[j] l'[j] (l.drop (j + 1)) (l'.drop (j + 1))
            have htwo := @combE_some (metN nb) l[j] l'[j] (l.drop (j + 1)) (l'.drop (j + 1))
            rw [← List.drop_eq_getElem_cons hlt, ← List.drop_eq_getElem_cons hlt2] at hz hone htwo
            have hrange := eqV_range l[j] l'[j]
            have HC := Lib.hid (HI.out l[j] (List.getElem_mem hlt) l'[j] (List.getElem_mem hlt2))
            generalize l[j] = s1 at *
            generalize l'[j] = s2 at *
            generalize eqV s1 s2 = E at *
            have hU0 : EqdU w #[.int .i64 5, .bool b, .int .i64 n, .string (strB t), .slice pk ks.length ck, .slice (some ⟨g1, o1, none⟩) l.length cl] #[.int .i64 5, .bool b', .int .i64 n', .string (strB t'), .slice pk' ks'.length ck', .slice (some ⟨g2, o2, none⟩) l'.length cl'] s1 s2 g1 (o1 + j * 6) g2 (o2 + j * 6) (.int .i64 s1.kind) (.bool s1.b) (.int .i64 s1.n) (.string (strB s1.text)) (.slice pk1 s1.keys.length ck1) (.slice pl1 s1.list.length cl1) (.int .i64 s2.kind) (.bool s2.b) (.int .i64 s2.n) (.string (strB s2.text)) (.slice pk2 s2.keys.length ck2) (.slice pl2 s2.list.length cl2) wr.drew := ⟨hT1.below (Below.refl _ _).drew, ⟨hbd, a0, a1, a2, a3, a4, a5, r0, r1, r2, r3, r4, r5, hv1, hv2⟩⟩
            have HD := Lib.hid (And.intro hz (And.intro hone (And.intro htwo HT.out.1)))
            clear a0 a1 a2 a3 a4 a5 r0 r1 r2 r3 r4 r5 hv1 hv2 hbd hT1 hz hone htwo HT
            rcases hrange with rfl | rfl | rfl
            · have HN := Lib.hid (HD.out.2.2.2.trans (HD.out.1 rfl))
              clear HD
              go_wp2
              refine plain_region_draws (fun W => EqdU w #[.int .i64 5, .bool b, .int .i64 n, .string (strB t), .slice pk ks.length ck, .slice (some ⟨g1, o1, none⟩) l.length cl] #[.int .i64 5, .bool b', .int .i64 n', .string (strB t'), .slice pk' ks'.length ck', .slice (some ⟨g2, o2, none⟩) l'.length cl'] s1 s2 g1 (o1 + j * 6) g2 (o2 + j * 6) (.int .i64 s1.kind) (.bool s1.b) (.int .i64 s1.n) (.string (strB s1.text)) (.slice pk1 s1.keys.length ck1) (.slice pl1 s1.list.length cl1) (.int .i64 s2.kind) (.bool s2.b) (.int .i64 s2.n) (.string (strB s2.text)) (.slice pk2 s2.keys.length ck2) (.slice pl2 s2.list.length cl2) W) (by kernel_rfl) hU0 (fun hU => ?_)
              generalize hE : (0 : Int) = E at HC
              refine take 0 76 (v := .pointer (some ⟨w.heap.size, 5, none⟩)) rfl rfl (by kernel_rfl) (by kernel_rfl) (by kernel_rfl) rfl (fun W hW => exec_fieldAddr rfl rfl (fa_value _ _ (by decide) W)) (by assumption) ?_
              simp only [Act.put, List.setIfInBounds_toArray, List.set_cons_zero, List.set_cons_succ]
              refine take 1 77 (v := .slice (some ⟨g1, o1, none⟩) l.length cl) rfl rfl (by kernel_rfl) (by kernel_rfl) (by kernel_rfl) rfl (fun W hW => exec_load rfl rfl (run_load1 (w := W) Tryz.underlying24 rfl (cellOf hW.two.1 rfl))) (by assumption) ?_
              simp only [Act.put, List.setIfInBounds_toArray, List.set_cons_zero, List.set_cons_succ]
              refine take 2 78 (v := .int .i64 (j : Int)) rfl rfl (by kernel_rfl) (by kernel_rfl) (by kernel_rfl) rfl (fun W hW => exec_move rfl rfl) (by assumption) ?_
              simp only [Act.put, List.setIfInBounds_toArray, List.set_cons_zero, List.set_cons_succ]
              refine take 3 79 (v := .pointer (some ⟨g1, o1 + j * 6, none⟩)) rfl rfl (by kernel_rfl) (by kernel_rfl) (by kernel_rfl) rfl (fun W hW => exec_indexAddr rfl rfl rfl (ia_vals _ _ _ _ _ hlt W)) (by assumption) ?_
              simp only [Act.put, List.setIfInBounds_toArray, List.set_cons_zero, List.set_cons_succ]
              refine take 4 80 (v := .agg #[.int .i64 s1.kind, .bool s1.b, .int .i64 s1.n, .string (strB s1.text), .slice pk1 s1.keys.length ck1, .slice pl1 s1.list.length cl1]) rfl rfl (by kernel_rfl) (by kernel_rfl) (by kernel_rfl) rfl (fun W hW => exec_load rfl rfl (get_six hW.p.h0 hW.p.h1 hW.p.h2 hW.p.h3 hW.p.h4 hW.p.h5)) (by assumption) ?_
              simp only [Act.put, List.setIfInBounds_toArray, List.set_cons_zero, List.set_cons_succ]
              refine take 5 81 (v := .pointer (some ⟨w.heap.size + 1, 5, none⟩)) rfl rfl (by kernel_rfl) (by kernel_rfl) (by kernel_rfl) rfl (fun W hW => exec_fieldAddr rfl rfl (fa_value _ _ (by decide) W)) (by assumption) ?_
              simp only [Act.put, List.setIfInBounds_toArray, List.set_cons_zero, List.set_cons_succ]
              refine take 6 82 (v := .slice (some ⟨g2, o2, none⟩) l'.length cl') rfl rfl (by kernel_rfl) (by kernel_rfl) (by kernel_rfl) rfl (fun W hW => exec_load rfl rfl (run_load1 (w := W) Tryz.underlying24 rfl (cellOf hW.two.2.1 rfl))) (by assumption) ?_
              simp only [Act.put, List.setIfInBounds_toArray, List.set_cons_zero, List.set_cons_succ]
              refine take 7 83 (v := .int .i64 (j : Int)) rfl rfl (by kernel_rfl) (by kernel_rfl) (by kernel_rfl) rfl (fun W hW => exec_move rfl rfl) (by assumption) ?_
              simp only [Act.put, List.setIfInBounds_toArray, List.set_cons_zero, List.set_cons_succ]
              refine take 8 84 (v := .pointer (some ⟨g2, o2 + j * 6, none⟩)) rfl rfl (by kernel_rfl) (by kernel_rfl) (by kernel_rfl) rfl (fun W hW => exec_indexAddr rfl rfl rfl (ia_vals _ _ _ _ _ hlt2 W)) (by assumption) ?_
              simp only [Act.put, List.setIfInBounds_toArray, List.set_cons_zero, List.set_cons_succ]
              refine take 9 85 (v := .agg #[.int .i64 s2.kind, .bool s2.b, .int .i64 s2.n, .string (strB s2.text), .slice pk2 s2.keys.length ck2, .slice pl2 s2.list.length cl2]) rfl rfl (by kernel_rfl) (by kernel_rfl) (by kernel_rfl) rfl (fun W hW => exec_load rfl rfl (get_six hW.p.q0 hW.p.q1 hW.p.q2 hW.p.q3 hW.p.q4 hW.p.q5)) (by assumption) ?_
              simp only [Act.put, List.setIfInBounds_toArray, List.set_cons_zero, List.set_cons_succ]
              refine onlyCall 10 86 rfl rfl (by kernel_rfl) rfl (exec_call [.agg #[.int .i64 s1.kind, .bool s1.b, .int .i64 s1.n, .string (strB s1.text), .slice pk1 s1.keys.length ck1, .slice pl1 s1.list.length cl1], .agg #[.int .i64 s2.kind, .bool s2.b, .int .i64 s2.n, .string (strB s2.text), .slice pk2 s2.keys.length ck2, .slice pl2 s2.list.length cl2]] rfl rfl Tryz.func23 (by kernel_rfl) (by kernel_rfl)) ?_
              refine (HC.out _ _ _ hU.p.r1 hU.p.r2).mono ?_
              rintro e w5 ⟨rfl, hb5⟩
              have hU2 := hU.keep hb5
              clear hb5
              refine ⟨_, rfl, .inr hU2, ?_⟩
              simp only [Act.put, List.setIfInBounds_toArray, List.set_cons_zero, List.set_cons_succ]
              refine take 11 8 (v := .int .i64 E) rfl rfl (by kernel_rfl) (by kernel_rfl) (by kernel_rfl) rfl (fun W hW => exec_assign rfl rfl) (by assumption) ?_
              simp only [Act.put, List.setIfInBounds_toArray, List.set_cons_zero, List.set_cons_succ]
              refine done (by kernel_rfl) ?_ _
              subst hE
              have HF := Lib.hid hU2.two.2.2
              clear hU hU0 hU2 HC
              go_wp2
              go_ret
              exact ⟨ret_int HN.out.symm, HF.out⟩
            · have HN := Lib.hid (HD.out.2.2.2.trans (HD.out.2.1 rfl))
              clear HD
              go_wp2
              refine plain_region_draws (fun W => EqdU w #[.int .i64 5, .bool b, .int .i64 n, .string (strB t), .slice pk ks.length ck, .slice (some ⟨g1, o1, none⟩) l.length cl] #[.int .i64 5, .bool b', .int .i64 n', .string (strB t'), .slice pk' ks'.length ck', .slice (some ⟨g2, o2, none⟩) l'.length cl'] s1 s2 g1 (o1 + j * 6) g2 (o2 + j * 6) (.int .i64 s1.kind) (.bool s1.b) (.int .i64 s1.n) (.string (strB s1.text)) (.slice pk1 s1.keys.length ck1) (.slice pl1 s1.list.length cl1) (.int .i64 s2.kind) (.bool s2.b) (.int .i64 s2.n) (.string (strB s2.text)) (.slice pk2 s2.keys.length ck2) (.slice pl2 s2.list.length cl2) W) (by kernel_rfl) hU0 (fun hU => ?_)
              generalize hE : (1 : Int) = E at HC
              refine take 0 76 (v := .pointer (some ⟨w.heap.size, 5, none⟩)) rfl rfl (by kernel_rfl) (by kernel_rfl) (by kernel_rfl) rfl (fun W hW => exec_fieldAddr rfl rfl (fa_value _ _ (by decide) W)) (by assumption) ?_
              simp only [Act.put, List.setIfInBounds_toArray, List.set_cons_zero, List.set_cons_succ]
              refine take 1 77 (v := .slice (some ⟨g1, o1, none⟩) l.length cl) rfl rfl (by kernel_rfl) (by kernel_rfl) (by kernel_rfl) rfl (fun W hW => exec_load rfl rfl (run_load1 (w := W) Tryz.underlying24 rfl (cellOf hW.two.1 rfl))) (by assumption) ?_
              simp only [Act.put, List.setIfInBounds_toArray, List.set_cons_zero, List.set_cons_succ]
              refine take 2 78 (v := .int .i64 (j : Int)) rfl rfl (by kernel_rfl) (by kernel_rfl) (by kernel_rfl) rfl (fun W hW => exec_move rfl rfl) (by assumption) ?_
              simp only [Act.put, List.setIfInBounds_toArray, List.set_cons_zero, List.set_cons_succ]
              refine take 3 79 (v := .pointer (some ⟨g1, o1 + j * 6, none⟩)) rfl rfl (by kernel_rfl) (by kernel_rfl) (by kernel_rfl) rfl (fun W hW => exec_indexAddr rfl rfl rfl (ia_vals _ _ _ _ _ hlt W)) (by assumption) ?_
              simp only [Act.put, List.setIfInBounds_toArray, List.set_cons_zero, List.set_cons_succ]
              refine take 4 80 (v := .agg #[.int .i64 s1.kind, .bool s1.b, .int .i64 s1.n, .string (strB s1.text), .slice pk1 s1.keys.length ck1, .slice pl1 s1.list.length cl1]) rfl rfl (by kernel_rfl) (by kernel_rfl) (by kernel_rfl) rfl (fun W hW => exec_load rfl rfl (get_six hW.p.h0 hW.p.h1 hW.p.h2 hW.p.h3 hW.p.h4 hW.p.h5)) (by assumption) ?_
              simp only [Act.put, List.setIfInBounds_toArray, List.set_cons_zero, List.set_cons_succ]
              refine take 5 81 (v := .pointer (some ⟨w.heap.size + 1, 5, none⟩)) rfl rfl (by kernel_rfl) (by kernel_rfl) (by kernel_rfl) rfl (fun W hW => exec_fieldAddr rfl rfl (fa_value _ _ (by decide) W)) (by assumption) ?_
              simp only [Act.put, List.setIfInBounds_toArray, List.set_cons_zero, List.set_cons_succ]
              refine take 6 82 (v := .slice (some ⟨g2, o2, none⟩) l'.length cl') rfl rfl (by kernel_rfl) (by kernel_rfl) (by kernel_rfl) rfl (fun W hW => exec_load rfl rfl (run_load1 (w := W) Tryz.underlying24 rfl (cellOf hW.two.2.1 rfl))) (by assumption) ?_
              simp only [Act.put, List.setIfInBounds_toArray, List.set_cons_zero, List.set_cons_succ]
              refine take 7 83 (v := .int .i64 (j : Int)) rfl rfl (by kernel_rfl) (by kernel_rfl) (by kernel_rfl) rfl (fun W hW => exec_move rfl rfl) (by assumption) ?_
              simp only [Act.put, List.setIfInBounds_toArray, List.set_cons_zero, List.set_cons_succ]
              refine take 8 84 (v := .pointer (some ⟨g2, o2 + j * 6, none⟩)) rfl rfl (by kernel_rfl) (by kernel_rfl) (by kernel_rfl) rfl (fun W hW => exec_indexAddr rfl rfl rfl (ia_vals _ _ _ _ _ hlt2 W)) (by assumption) ?_
              simp only [Act.put, List.setIfInBounds_toArray, List.set_cons_zero, List.set_cons_succ]
              refine take 9 85 (v := .agg #[.int .i64 s2.kind, .bool s2.b, .int .i64 s2.n, .string (strB s2.text), .slice pk2 s2.keys.length ck2, .slice pl2 s2.list.length cl2]) rfl rfl (by kernel_rfl) (by kernel_rfl) (by kernel_rfl) rfl (fun W hW => exec_load rfl rfl (get_six hW.p.q0 hW.p.q1 hW.p.q2 hW.p.q3 hW.p.q4 hW.p.q5)) (by assumption) ?_
              simp only [Act.put, List.setIfInBounds_toArray, List.set_cons_zero, List.set_cons_succ]
              refine onlyCall 10 86 rfl rfl (by kernel_rfl) rfl (exec_call [.agg #[.int .i64 s1.kind, .bool s1.b, .int .i64 s1.n, .string (strB s1.text), .slice pk1 s1.keys.length ck1, .slice pl1 s1.list.length cl1], .agg #[.int .i64 s2.kind, .bool s2.b, .int .i64 s2.n, .string (strB s2.text), .slice pk2 s2.keys.length ck2, .slice pl2 s2.list.length cl2]] rfl rfl Tryz.func23 (by kernel_rfl) (by kernel_rfl)) ?_
              refine (HC.out _ _ _ hU.p.r1 hU.p.r2).mono ?_
              rintro e w5 ⟨rfl, hb5⟩
              have hU2 := hU.keep hb5
              clear hb5
              refine ⟨_, rfl, .inr hU2, ?_⟩
              simp only [Act.put, List.setIfInBounds_toArray, List.set_cons_zero, List.set_cons_succ]
              refine take 11 8 (v := .int .i64 E) rfl rfl (by kernel_rfl) (by kernel_rfl) (by kernel_rfl) rfl (fun W hW => exec_assign rfl rfl) (by assumption) ?_
              simp only [Act.put, List.setIfInBounds_toArray, List.set_cons_zero, List.set_cons_succ]
              refine done (by kernel_rfl) ?_ _
              subst hE
              have HT0 := Lib.hid (And.intro HN.out hU2.two)
              clear hU hU0 hU2 HC HN
              cases nb
              all_goals
                go_wp2
                go_roundw
                case rel => exact ⟨j + 1, true, by omega, by go_num, rfl, HT0⟩
                case measure => simp [intOf]; omega
            · have HN := Lib.hid (HD.out.2.2.2.trans (HD.out.2.2.1 rfl))
              clear HD
              go_wp2
              refine plain_region_draws (fun W => EqdU w #[.int .i64 5, .bool b, .int .i64 n, .string (strB t), .slice pk ks.length ck, .slice (some ⟨g1, o1, none⟩) l.length cl] #[.int .i64 5, .bool b', .int .i64 n', .string (strB t'), .slice pk' ks'.length ck', .slice (some ⟨g2, o2, none⟩) l'.length cl'] s1 s2 g1 (o1 + j * 6) g2 (o2 + j * 6) (.int .i64 s1.kind) (.bool s1.b) (.int .i64 s1.n) (.string (strB s1.text)) (.slice pk1 s1.keys.length ck1) (.slice pl1 s1.list.length cl1) (.int .i64 s2.kind) (.bool s2.b) (.int .i64 s2.n) (.string (strB s2.text)) (.slice pk2 s2.keys.length ck2) (.slice pl2 s2.list.length cl2) W) (by kernel_rfl) hU0 (fun hU => ?_)
              generalize hE : (2 : Int) = E at HC
              refine take 0 76 (v := .pointer (some ⟨w.heap.size, 5, none⟩)) rfl rfl (by kernel_rfl) (by kernel_rfl) (by kernel_rfl) rfl (fun W hW => exec_fieldAddr rfl rfl (fa_value _ _ (by decide) W)) (by assumption) ?_
              simp only [Act.put, List.setIfInBounds_toArray, List.set_cons_zero, List.set_cons_succ]
              refine take 1 77 (v := .slice (some ⟨g1, o1, none⟩) l.length cl) rfl rfl (by kernel_rfl) (by kernel_rfl) (by kernel_rfl) rfl (fun W hW => exec_load rfl rfl (run_load1 (w := W) Tryz.underlying24 rfl (cellOf hW.two.1 rfl))) (by assumption) ?_
              simp only [Act.put, List.setIfInBounds_toArray, List.set_cons_zero, List.set_cons_succ]
              refine take 2 78 (v := .int .i64 (j : Int)) rfl rfl (by kernel_rfl) (by kernel_rfl) (by kernel_rfl) rfl (fun W hW => exec_move rfl rfl) (by assumption) ?_
              simp only [Act.put, List.setIfInBounds_toArray, List.set_cons_zero, List.set_cons_succ]
              refine take 3 79 (v := .pointer (some ⟨g1, o1 + j * 6, none⟩)) rfl rfl (by kernel_rfl) (by kernel_rfl) (by kernel_rfl) rfl (fun W hW => exec_indexAddr rfl rfl rfl (ia_vals _ _ _ _ _ hlt W)) (by assumption) ?_
              simp only [Act.put, List.setIfInBounds_toArray, List.set_cons_zero, List.set_cons_succ]
              refine take 4 80 (v := .agg #[.int .i64 s1.kind, .bool s1.b, .int .i64 s1.n, .string (strB s1.text), .slice pk1 s1.keys.length ck1, .slice pl1 s1.list.length cl1]) rfl rfl (by kernel_rfl) (by kernel_rfl) (by kernel_rfl) rfl (fun W hW => exec_load rfl rfl (get_six hW.p.h0 hW.p.h1 hW.p.h2 hW.p.h3 hW.p.h4 hW.p.h5)) (by assumption) ?_
              simp only [Act.put, List.setIfInBounds_toArray, List.set_cons_zero, List.set_cons_succ]
              refine take 5 81 (v := .pointer (some ⟨w.heap.size + 1, 5, none⟩)) rfl rfl (by kernel_rfl) (by kernel_rfl) (by kernel_rfl) rfl (fun W hW => exec_fieldAddr rfl rfl (fa_value _ _ (by decide) W)) (by assumption) ?_
              simp only [Act.put, List.setIfInBounds_toArray, List.set_cons_zero, List.set_cons_succ]
              refine take 6 82 (v := .slice (some ⟨g2, o2, none⟩) l'.length cl') rfl rfl (by kernel_rfl) (by kernel_rfl) (by kernel_rfl) rfl (fun W hW => exec_load rfl rfl (run_load1 (w := W) Tryz.underlying24 rfl (cellOf hW.two.2.1 rfl))) (by assumption) ?_
              simp only [Act.put, List.setIfInBounds_toArray, List.set_cons_zero, List.set_cons_succ]
              refine take 7 83 (v := .int .i64 (j : Int)) rfl rfl (by kernel_rfl) (by kernel_rfl) (by kernel_rfl) rfl (fun W hW => exec_move rfl rfl) (by assumption) ?_
              simp only [Act.put, List.setIfInBounds_toArray, List.set_cons_zero, List.set_cons_succ]
              refine take 8 84 (v := .pointer (some ⟨g2, o2 + j * 6, none⟩)) rfl rfl (by kernel_rfl) (by kernel_rfl) (by kernel_rfl) rfl (fun W hW => exec_indexAddr rfl rfl rfl (ia_vals _ _ _ _ _ hlt2 W)) (by assumption) ?_
              simp only [Act.put, List.setIfInBounds_toArray, List.set_cons_zero, List.set_cons_succ]
              refine take 9 85 (v := .agg #[.int .i64 s2.kind, .bool s2.b, .int .i64 s2.n, .string (strB s2.text), .slice pk2 s2.keys.length ck2, .slice pl2 s2.list.length cl2]) rfl rfl (by kernel_rfl) (by kernel_rfl) (by kernel_rfl) rfl (fun W hW => exec_load rfl rfl (get_six hW.p.q0 hW.p.q1 hW.p.q2 hW.p.q3 hW.p.q4 hW.p.q5)) (by assumption) ?_
              simp only [Act.put, List.setIfInBounds_toArray, List.set_cons_zero, List.set_cons_succ]
              refine onlyCall 10 86 rfl rfl (by kernel_rfl) rfl (exec_call [.agg #[.int .i64 s1.kind, .bool s1.b, .int .i64 s1.n, .string (strB s1.text), .slice pk1 s1.keys.length ck1, .slice pl1 s1.list.length cl1], .agg #[.int .i64 s2.kind, .bool s2.b, .int .i64 s2.n, .string (strB s2.text), .slice pk2 s2.keys.length ck2, .slice pl2 s2.list.length cl2]] rfl rfl Tryz.func23 (by kernel_rfl) (by kernel_rfl)) ?_
              refine (HC.out _ _ _ hU.p.r1 hU.p.r2).mono ?_
              rintro e w5 ⟨rfl, hb5⟩
              have hU2 := hU.keep hb5
              clear hb5
              refine ⟨_, rfl, .inr hU2, ?_⟩
              simp only [Act.put, List.setIfInBounds_toArray, List.set_cons_zero, List.set_cons_succ]
              refine take 11 8 (v := .int .i64 E) rfl rfl (by kernel_rfl) (by kernel_rfl) (by kernel_rfl) rfl (fun W hW => exec_assign rfl rfl) (by assumption) ?_
              simp only [Act.put, List.setIfInBounds_toArray, List.set_cons_zero, List.set_cons_succ]
              refine done (by kernel_rfl) ?_ _
              subst hE
              have HT0 := Lib.hid (And.intro HN.out hU2.two)
              clear hU hU0 hU2 HC HN
              cases nb
              all_goals
                go_wp2
                go_roundw
                case rel => exact ⟨j + 1, _, by omega, by go_num, rfl, HT0⟩
                case measure => simp [intOf]; omega
          · obtain rfl : j = l.length := by omega
            have hE := HT.out.1
            rw [List.drop_length, combE_end _ (metN_cases nb)] at hE
            have HE := Lib.hid hE
            have HF := Lib.hid hT1.2.2
            clear hT1 hE HT
            cases nb
            all_goals
              go_wp2
              go_ret
              exact ⟨ret_int (by rw [HE.out]; rfl), HF.out⟩
end Go.Proofs.YtnkaegdnjfpliaaGreatDoor

/-! The document's Less. -/
namespace Go.Proofs.YtnkaegdnjfpliaaGreatDoor
set_option linter.unusedSimpArgs false
set_option linter.unusedVariables false
open Go.RowKit

/-- What the document answers to Less. -/
def lessD (a b : V) : Int := if a.kind == b.kind && (a.kind == 2 || a.kind == 3 || a.kind == 1) then truthN (decide (cmpV a b < 0)) else 1
set_option maxRecDepth 100000 in
set_option maxHeartbeats 4000000 in
theorem lessR_any {u : List UInt8 → Bool} {a b : V} (ma : mayV u a = true) (mb : mayV u b = true) {w : World} {x y : Array Value} (ha : VRd w a x) (hb : VRd w b y) :
    Calls Tryz.prog 24 #[.agg x, .agg y] w fun e w' => e = .returned (.int .i64 (lessD a b)) ∧ Below w.heap.size w w' := by
  have hT := TwoV.start w x y
  obtain ⟨pk, ck, pl, cl, rfl, _⟩ := ha.open
  obtain ⟨pk', ck', pl', cl', rfl, _⟩ := hb.open
  have HC := Lib.hid (compareR_any a ma b mb _ _ _ (ha.below hT.2.2) (hb.below hT.2.2))
  have HR := Lib.hid (show lessD a b = if a.kind == b.kind && (a.kind == 2 || a.kind == 3 || a.kind == 1) then truthN (decide (cmpV a b < 0)) else 1 from rfl)
  have px0 := cellOf (o := 0) hT.1 rfl; have px1 := cellOf (o := 1) hT.1 rfl; have px2 := cellOf (o := 2) hT.1 rfl; have px3 := cellOf (o := 3) hT.1 rfl; have px4 := cellOf (o := 4) hT.1 rfl; have px5 := cellOf (o := 5) hT.1 rfl
  have py0 := cellOf (o := 0) hT.2.1 rfl; have py1 := cellOf (o := 1) hT.2.1 rfl; have py2 := cellOf (o := 2) hT.2.1 rfl; have py3 := cellOf (o := 3) hT.2.1 rfl; have py4 := cellOf (o := 4) hT.2.1 rfl; have py5 := cellOf (o := 5) hT.2.1 rfl
  have HT := Lib.hid hT
  clear hT ha hb ma mb
  generalize lessD a b = L at *
  generalize cmpV a b = R at *
  generalize a.kind = ka at *
  generalize b.kind = kb at *
  by_cases hk : ka = kb
  · subst hk
    have dk : (ka != ka) = false := by simp
    by_cases h1 : ka = 2 ∨ ka = 3 ∨ ka = 1
    · have hR : L = truthN (decide (R < 0)) := by rw [HR.out, if_pos (by rcases h1 with rfl | rfl | rfl <;> simp)]
      clear HR
      have HR := Lib.hid hR
      clear hR
      rcases h1 with rfl | rfl | rfl
      all_goals
        go_enter Tryz.func24, Tryz.ntmps24
        go_wp2_with (first
          | (go_at_call 19; refine HC.out.mono ?_; rintro e w3 ⟨rfl, hb3⟩; have HB := Lib.hid (below_trans HT.out.2.2 hb3); clear hb3)
          | (go_at_call 64; refine (truthR_any _ _).mono ?_; rintro e w' ⟨rfl, rfl⟩))
        go_ret
        exact ⟨ret_int HR.out.symm, HB.out⟩
    · have d2 : (ka != 2) = true := by simp; omega
      have d3 : (ka != 3) = true := by simp; omega
      have d1 : (ka != 1) = true := by simp; omega
      have hR : L = 1 := by rw [HR.out, if_neg (by simp; omega)]
      clear HR h1
      have HR := Lib.hid hR
      clear hR
      go_enter Tryz.func24, Tryz.ntmps24
      go_wp2_with (first
        | (go_at_call 19; refine HC.out.mono ?_; rintro e w3 ⟨rfl, hb3⟩; have HB := Lib.hid (below_trans HT.out.2.2 hb3); clear hb3)
        | (go_at_call 64; refine (truthR_any _ _).mono ?_; rintro e w' ⟨rfl, rfl⟩))
      go_ret
      exact ⟨ret_int HR.out.symm, HT.out.2.2⟩
  · have dk : (ka != kb) = true := by simpa using hk
    have hR : L = 1 := by rw [HR.out, if_neg (by simp [hk])]
    clear HR hk
    have HR := Lib.hid hR
    clear hR
    go_enter Tryz.func24, Tryz.ntmps24
    go_wp2_with (first
      | (go_at_call 19; refine HC.out.mono ?_; rintro e w3 ⟨rfl, hb3⟩; have HB := Lib.hid (below_trans HT.out.2.2 hb3); clear hb3)
      | (go_at_call 64; refine (truthR_any _ _).mono ?_; rintro e w' ⟨rfl, rfl⟩))
    go_ret
    exact ⟨ret_int HR.out.symm, HT.out.2.2⟩
end Go.Proofs.YtnkaegdnjfpliaaGreatDoor

/-! What ValueEqual asks: the plain laws. Nothing of the program is named here. -/
namespace Go.Proofs.YtnkaegdnjfpliaaGreatDoor
set_option linter.unusedSimpArgs false
set_option linter.unusedVariables false

theorem eqV_mk2 (k : Int) (b : Bool) (n : Int) (t : List UInt8) (ks : List (List UInt8)) (l : List V) (k' : Int) (b' : Bool) (n' : Int) (t' : List UInt8) (ks' : List (List UInt8)) (l' : List V) : eqV (.mk k b n t ks l) (.mk k' b' n' t' ks' l') =
    if k = 0 ∨ k' = 0 then 1
    else if k ≠ k' then 0
    else if k ≠ 4 ∧ k ≠ 5 then (if cmpV (.mk k b n t ks l) (.mk k' b' n' t' ks' l') = 0 then 2 else 0)
    else if l.length ≠ l'.length ∨ ks ≠ ks' then 0
    else eqVs l l' := eqV_mk _ _ _ _ _ _ _
theorem eqVs_symm : ∀ (l m : List V), (∀ a ∈ l, ∀ b, eqV a b = eqV b a) → eqVs l m = eqVs m l := by
  intro l
  induction l with
  | nil => intro m _; cases m <;> simp [eqVs]
  | cons a x ih =>
    intro m h
    cases m with
    | nil => simp [eqVs]
    | cons b y => rw [eqVs_cons, eqVs_cons, h a (by simp) b, ih y fun c hc d => h c (by simp [hc]) d]
theorem eqV_symm : ∀ a b : V, eqV a b = eqV b a := by
  refine V.ind fun k b n t ks l ih => ?_
  intro v
  cases v with
  | mk k' b' n' t' ks' l' =>
    rw [eqV_mk2, eqV_mk2]
    have hl := eqVs_symm l l' ih
    have hc := (ord_cmpV (.mk k b n t ks l)).anti (.mk k' b' n' t' ks' l')
    by_cases h1 : k = 0 ∨ k' = 0
    · have h1' : k' = 0 ∨ k = 0 := h1.symm
      rw [if_pos h1, if_pos h1']
    · have h1' : ¬ (k' = 0 ∨ k = 0) := fun h => h1 h.symm
      rw [if_neg h1, if_neg h1']
      by_cases h2 : k = k'
      · subst h2
        have e : ¬ (k ≠ k) := by simp
        rw [if_neg e, if_neg e]
        by_cases h3 : k ≠ 4 ∧ k ≠ 5
        · rw [if_pos h3, if_pos h3]
          by_cases h4 : cmpV (.mk k b n t ks l) (.mk k b' n' t' ks' l') = 0
          · have h4' : cmpV (.mk k b' n' t' ks' l') (.mk k b n t ks l) = 0 := by omega
            rw [if_pos h4, if_pos h4']
          · have h4' : ¬ cmpV (.mk k b' n' t' ks' l') (.mk k b n t ks l) = 0 := by omega
            rw [if_neg h4, if_neg h4']
        · rw [if_neg h3, if_neg h3]
          by_cases h5 : l.length ≠ l'.length ∨ ks ≠ ks'
          · have h5' : l'.length ≠ l.length ∨ ks' ≠ ks := by rcases h5 with h | h; exact .inl (Ne.symm h); exact .inr (Ne.symm h)
            rw [if_pos h5, if_pos h5']
          · have h5' : ¬ (l'.length ≠ l.length ∨ ks' ≠ ks) := fun h => h5 (by rcases h with h | h; exact .inl (Ne.symm h); exact .inr (Ne.symm h))
            rw [if_neg h5, if_neg h5', hl]
      · have h2' : k' ≠ k := fun e => h2 e.symm
        rw [if_pos h2, if_pos h2']
theorem eqVs_self : ∀ l : List V, (∀ a ∈ l, eqV a a ≠ 0) → eqVs l l ≠ 0 := by
  intro l
  induction l with
  | nil => intro _; simp [eqVs]
  | cons a x ih =>
    intro h
    have h1 := h a (by simp)
    have h2 := ih fun c hc => h c (by simp [hc])
    rw [eqVs_cons, if_neg (by omega)]
    split <;> omega
theorem eqV_self : ∀ a : V, eqV a a ≠ 0 := by
  refine V.ind fun k b n t ks l ih => ?_
  rw [eqV_mk2]
  by_cases h1 : k = 0 ∨ k = 0
  · rw [if_pos h1]; omega
  · have e : ¬ (k ≠ k) := by simp
    rw [if_neg h1, if_neg e]
    by_cases h3 : k ≠ 4 ∧ k ≠ 5
    · have h4 := (ord_cmpV (.mk k b n t ks l)).self
      rw [if_pos h3, if_pos h4]; omega
    · have e5 : ¬ (l.length ≠ l.length ∨ ks ≠ ks) := by simp
      rw [if_neg h3, if_neg e5]
      exact eqVs_self l ih
theorem eqVs_two : ∀ l m : List V, (∀ a ∈ l, ∀ b ∈ m, eqV a b = 2 → cmpV a b = 0) → l.length = m.length → eqVs l m = 2 → cmpL cmpV l m = 0 := by
  intro l
  induction l with
  | nil => intro m _ hl _; cases m with
    | nil => rfl
    | cons => simp at hl
  | cons a x ih =>
    intro m h hl he
    cases m with
    | nil => simp at hl
    | cons b y =>
      rw [eqVs_cons] at he
      have r1 := eqV_range a b
      have r2 := eqVs_range x y
      have e1 : eqV a b = 2 ∧ eqVs x y = 2 := by
        split at he
        · omega
        · split at he
          · omega
          · omega
      have c1 := h a (by simp) b (by simp) e1.1
      unfold cmpL
      rw [if_neg (by omega)]
      exact ih y (fun c hc d hd => h c (by simp [hc]) d (by simp [hd])) (by simpa using hl) e1.2
theorem cmpV_mk (k : Int) (b : Bool) (n : Int) (t : List UInt8) (ks : List (List UInt8)) (l : List V) (v : V) : cmpV (.mk k b n t ks l) v = orI (cmpI (rankV k) (rankV v.kind)) (orI (cmpI (b2i b) (b2i v.b)) (orI (cmpB t v.text) (orI (cmpL cmpB ks v.keys) (orI (cmpL cmpV l v.list) (cmpI n v.n))))) := cmpV_eq _ _
theorem eqV_two {u : List UInt8 → Bool} : ∀ a : V, mayV u a = true → ∀ b : V, mayV u b = true → eqV a b = 2 → cmpV a b = 0 := by
  refine V.ind fun k b n t ks l ih => ?_
  intro ha v hv h
  obtain ⟨h1, h2⟩ := mayV_iff.1 ha
  obtain ⟨g1, g2⟩ := mayV_iff.1 hv
  have F := oneV_iff.1 h1
  have G := oneV_iff.1 g1
  rw [eqV_mk] at h
  split at h
  · omega
  · split at h
    · omega
    · rename_i hk0 hk
      have hk : k = v.kind := by omega
      split at h
      · split at h
        · assumption
        · omega
      · rename_i hs
        split at h
        · omega
        · rename_i hl
          have hlen : l.length = v.list.length := by
            by_cases e : l.length = v.list.length
            · exact e
            · exact absurd (Or.inl e) hl
          have hks : ks = v.keys := by
            by_cases e : ks = v.keys
            · exact e
            · exact absurd (Or.inr e) hl
          have hc := eqVs_two l v.list (fun a ha b hb => ih a ha (h2 a ha) b (g2 b hb)) hlen h
          have f1 := F.b
          have f2 := F.n
          have f3 := F.text
          have g1 := G.b
          have g2 := G.n
          have g3 := G.text
          simp only [V.kind, V.b, V.n, V.text] at f1 f2 f3
          rw [cmpV_mk]
          rw [f1 (by omega), g1 (by omega), f2 (by omega) (by omega) (by omega), g2 (by omega) (by omega) (by omega), f3 (by omega), g3 (by omega), ← hk, ← hks, hc]
          have e1 := cmpI_self (rankV k)
          have e2 := cmpI_self (b2i false)
          have e3 := cmpI_self 0
          have e4 : cmpB ([] : List UInt8) [] = 0 := rfl
          have e5 : cmpL cmpB ks ks = 0 := cmpL_self ks fun a _ => (ord_cmpB a).self
          rw [e1, e2, e3, e4, e5]
          rfl
theorem eqV_zero {u : List UInt8 → Bool} {a b : V} (ha : mayV u a = true) (hb : mayV u b = true) (h : eqV a b = 0) : cmpV a b ≠ 0 := by
  intro hc
  have := cmpV_zero a ha b hb hc
  subst this
  exact eqV_self a h
end Go.Proofs.YtnkaegdnjfpliaaGreatDoor

/-! The law ValueEquals. Printed by gen_equals.py. -/
namespace Go.Proofs.YtnkaegdnjfpliaaGreatDoor
set_option linter.unusedSimpArgs false
set_option linter.unusedVariables false
open Go.RowKit

section
variable {w W : World} {X Y : Array Value} {a b : V} {p q : Nat} {x y : Array Value}
theorem OrdU.eq1 (h : OrdU w X Y a b p q x y W) (hE : Env w) (ht : totV a + totV b ≤ 1000000) {C : Int} (hC : (if okV a && okV b then eqV a b else 1) = C) : Calls Tryz.prog 25 #[.agg x, .agg y] W fun e w' => e = .returned (.int .i64 C) ∧ OrdU w X Y a b p q x y w' :=
  (equalPub_any (hE.b h.two.2.2) (h.rm (by omega)) (h.rn (by omega)) (by omega)).mono fun _ _ h' => by rw [hC] at h'; exact ⟨h'.1, h.keep h'.2⟩
theorem OrdU.eq2 (h : OrdU w X Y a b p q x y W) (hE : Env w) (ht : totV a + totV b ≤ 1000000) {C : Int} (hC : (if okV b && okV a then eqV b a else 1) = C) : Calls Tryz.prog 25 #[.agg y, .agg x] W fun e w' => e = .returned (.int .i64 C) ∧ OrdU w X Y a b p q x y w' :=
  (equalPub_any (hE.b h.two.2.2) (h.rn (by omega)) (h.rm (by omega)) (by omega)).mono fun _ _ h' => by rw [hC] at h'; exact ⟨h'.1, h.keep h'.2⟩
theorem OrdU.less (h : OrdU w X Y a b p q x y W) (hE : Env w) (ht : totV a + totV b ≤ 1000000) {C : Int} (hC : lessV a b = C) : Calls Tryz.prog 26 #[.agg x, .agg y] W fun e w' => e = .returned (.int .i64 C) ∧ OrdU w X Y a b p q x y w' :=
  (less_any (hE.b h.two.2.2) (h.rm (by omega)) (h.rn (by omega)) (by omega)).mono fun _ _ h' => by rw [hC] at h'; exact ⟨h'.1, h.keep h'.2⟩
theorem OrdU.refe (h : OrdU w X Y a b p q x y W) (ha : VRd w a X) (hb : VRd w b Y) (oa : okV a = true) (ob : okV b = true) : Calls Tryz.prog 23 #[.agg X, .agg Y] W fun e w' => e = .returned (.int .i64 (eqV a b)) ∧ OrdU w X Y a b p q x y w' :=
  (equalR_any a (okV_may oa) b (okV_may ob) W X Y (ha.below h.two.2.2) (hb.below h.two.2.2)).mono fun _ _ h' => ⟨h'.1, h.keep h'.2⟩
theorem OrdU.refl (h : OrdU w X Y a b p q x y W) (ha : VRd w a X) (hb : VRd w b Y) (oa : okV a = true) (ob : okV b = true) : Calls Tryz.prog 24 #[.agg X, .agg Y] W fun e w' => e = .returned (.int .i64 (lessD a b)) ∧ OrdU w X Y a b p q x y w' :=
  (lessR_any (okV_may oa) (okV_may ob) (ha.below h.two.2.2) (hb.below h.two.2.2)).mono fun _ _ h' => ⟨h'.1, h.keep h'.2⟩
end
theorem lessV_ok {a b : V} (h : (okV a && okV b) = true) : lessV a b = lessD a b := by unfold lessV lessD; rw [h, Bool.true_and]
theorem lessV_no {a b : V} (h : (okV a && okV b) = false) : lessV a b = 1 := by unfold lessV; rw [h, Bool.false_and]; rfl
set_option maxRecDepth 100000 in
set_option maxHeartbeats 8000000 in
theorem equals_law {w : World} {a b : V} {x y : Array Value} (hE : Env w) (ha : VRd w a x) (hb : VRd w b y) :
    Calls Tryz.prog 4 #[.agg x, .agg y] w fun e w' => e = .returned (.bool true) ∧ Below w.heap.size w w' := by
  have hT := TwoV.start w x y
  obtain ⟨pk, ck, pl, cl, rfl, _⟩ := ha.open
  obtain ⟨pk', ck', pl', cl', rfl, _⟩ := hb.open
  have hb1 := below_new (w := (w.alloc (.cells #[.int .i64 a.kind, .bool a.b, .int .i64 a.n, .string (strB a.text), .slice pk a.keys.length ck, .slice pl a.list.length cl] 26)).alloc (.cells #[.int .i64 b.kind, .bool b.b, .int .i64 b.n, .string (strB b.text), .slice pk' b.keys.length ck', .slice pl' b.list.length cl'] 26)) (.cells #[.int .i64 a.kind, .bool a.b, .int .i64 a.n, .string (strB a.text), .slice pk a.keys.length ck, .slice pl a.list.length cl, .int .i64 b.kind, .bool b.b, .int .i64 b.n, .string (strB b.text), .slice pk' b.keys.length ck', .slice pl' b.list.length cl'] 26)
  have hbb := below_trans hT.2.2 hb1
  have hh := heap_alloc_new ((w.alloc (.cells #[.int .i64 a.kind, .bool a.b, .int .i64 a.n, .string (strB a.text), .slice pk a.keys.length ck, .slice pl a.list.length cl] 26)).alloc (.cells #[.int .i64 b.kind, .bool b.b, .int .i64 b.n, .string (strB b.text), .slice pk' b.keys.length ck', .slice pl' b.list.length cl'] 26)) (.cells #[.int .i64 a.kind, .bool a.b, .int .i64 a.n, .string (strB a.text), .slice pk a.keys.length ck, .slice pl a.list.length cl, .int .i64 b.kind, .bool b.b, .int .i64 b.n, .string (strB b.text), .slice pk' b.keys.length ck', .slice pl' b.list.length cl'] 26)
  simp only [World.size_alloc] at hh
  have HSM := Lib.hid ((small_any (LRd.two hh (ha.below hbb) (hb.below hbb))).mono (R' := fun e w' => e = .returned (.bool (decide (totVs [a, b] ≤ 2000))) ∧ TwoV w w' #[.int .i64 a.kind, .bool a.b, .int .i64 a.n, .string (strB a.text), .slice pk a.keys.length ck, .slice pl a.list.length cl] #[.int .i64 b.kind, .bool b.b, .int .i64 b.n, .string (strB b.text), .slice pk' b.keys.length ck', .slice pl' b.list.length cl']) fun _ _ h' => ⟨h'.1, (hT.below hb1).below h'.2⟩)
  have hts : totVs [a, b] = totV a + totV b := by simp [totVs]
  clear hh hbb hb1
  by_cases hs : totVs [a, b] ≤ 2000
  · rw [decide_eq_true hs] at HSM
    have ht : totV a + totV b ≤ 1000000 := by omega
    have HTT := Lib.hid (And.intro (show totV a ≤ 1000000 by omega) (show totV b ≤ 1000000 by omega))
    have HCP := Lib.hid (And.intro (fun (W : World) (h : TwoV w W #[.int .i64 a.kind, .bool a.b, .int .i64 a.n, .string (strB a.text), .slice pk a.keys.length ck, .slice pl a.list.length cl] #[.int .i64 b.kind, .bool b.b, .int .i64 b.n, .string (strB b.text), .slice pk' b.keys.length ck', .slice pl' b.list.length cl']) => copied_in (v := a) (by omega) (ha.below h.2.2)) (fun (W : World) (h : TwoV w W #[.int .i64 a.kind, .bool a.b, .int .i64 a.n, .string (strB a.text), .slice pk a.keys.length ck, .slice pl a.list.length cl] #[.int .i64 b.kind, .bool b.b, .int .i64 b.n, .string (strB b.text), .slice pk' b.keys.length ck', .slice pl' b.list.length cl']) => copied_in (v := b) (by omega) (hb.below h.2.2)))
    have HFI := Lib.hid (fun (W : World) (g : Nat) (h : Below w.heap.size w W) (hg : W.heap[g]? = some (.cells #[.int .i64 a.kind, .bool a.b, .int .i64 a.n, .string (strB a.text), .slice pk a.keys.length ck, .slice pl a.list.length cl, .int .i64 b.kind, .bool b.b, .int .i64 b.n, .string (strB b.text), .slice pk' b.keys.length ck', .slice pl' b.list.length cl'] 26 (0, 0))) => fine2_in h hg ha hb ht)
    have HK1 := Lib.hid (fun (p q : Nat) (m n : Array Value) (W : World) (h : OrdU w #[.int .i64 a.kind, .bool a.b, .int .i64 a.n, .string (strB a.text), .slice pk a.keys.length ck, .slice pl a.list.length cl] #[.int .i64 b.kind, .bool b.b, .int .i64 b.n, .string (strB b.text), .slice pk' b.keys.length ck', .slice pl' b.list.length cl'] a b p q m n W) => h.keptm ha (by omega))
    have HK2 := Lib.hid (fun (p q : Nat) (m n : Array Value) (W : World) (h : OrdU w #[.int .i64 a.kind, .bool a.b, .int .i64 a.n, .string (strB a.text), .slice pk a.keys.length ck, .slice pl a.list.length cl] #[.int .i64 b.kind, .bool b.b, .int .i64 b.n, .string (strB b.text), .slice pk' b.keys.length ck', .slice pl' b.list.length cl'] a b p q m n W) => h.keptn hb (by omega))
    have HWK := Lib.hid (fun (p q : Nat) (m n : Array Value) (W : World) (h : OrdU w #[.int .i64 a.kind, .bool a.b, .int .i64 a.n, .string (strB a.text), .slice pk a.keys.length ck, .slice pl a.list.length cl] #[.int .i64 b.kind, .bool b.b, .int .i64 b.n, .string (strB b.text), .slice pk' b.keys.length ck', .slice pl' b.list.length cl'] a b p q m n W) => h.works hE)
    by_cases ok : (okV a && okV b) = true
    · have hca : (if okV a && okV b then eqV a b else 1) = eqV a b := by rw [ok]; rfl
      have hcb : (if okV b && okV a then eqV b a else 1) = eqV a b := by rw [Bool.and_comm, ok]; exact eqV_symm b a
      have hla := lessV_ok ok
      have HQ1 := Lib.hid (fun (p q : Nat) (m n : Array Value) (W : World) (h : OrdU w #[.int .i64 a.kind, .bool a.b, .int .i64 a.n, .string (strB a.text), .slice pk a.keys.length ck, .slice pl a.list.length cl] #[.int .i64 b.kind, .bool b.b, .int .i64 b.n, .string (strB b.text), .slice pk' b.keys.length ck', .slice pl' b.list.length cl'] a b p q m n W) => h.eq1 hE ht hca)
      have HQ2 := Lib.hid (fun (p q : Nat) (m n : Array Value) (W : World) (h : OrdU w #[.int .i64 a.kind, .bool a.b, .int .i64 a.n, .string (strB a.text), .slice pk a.keys.length ck, .slice pl a.list.length cl] #[.int .i64 b.kind, .bool b.b, .int .i64 b.n, .string (strB b.text), .slice pk' b.keys.length ck', .slice pl' b.list.length cl'] a b p q m n W) => h.eq2 hE ht hcb)
      have HL1 := Lib.hid (fun (p q : Nat) (m n : Array Value) (W : World) (h : OrdU w #[.int .i64 a.kind, .bool a.b, .int .i64 a.n, .string (strB a.text), .slice pk a.keys.length ck, .slice pl a.list.length cl] #[.int .i64 b.kind, .bool b.b, .int .i64 b.n, .string (strB b.text), .slice pk' b.keys.length ck', .slice pl' b.list.length cl'] a b p q m n W) => h.less hE ht hla)
      have HRE := Lib.hid (fun (p q : Nat) (m n : Array Value) (W : World) (h : OrdU w #[.int .i64 a.kind, .bool a.b, .int .i64 a.n, .string (strB a.text), .slice pk a.keys.length ck, .slice pl a.list.length cl] #[.int .i64 b.kind, .bool b.b, .int .i64 b.n, .string (strB b.text), .slice pk' b.keys.length ck', .slice pl' b.list.length cl'] a b p q m n W) => h.refe ha hb (Bool.and_eq_true_iff.1 ok).1 (Bool.and_eq_true_iff.1 ok).2)
      have HRL := Lib.hid (fun (p q : Nat) (m n : Array Value) (W : World) (h : OrdU w #[.int .i64 a.kind, .bool a.b, .int .i64 a.n, .string (strB a.text), .slice pk a.keys.length ck, .slice pl a.list.length cl] #[.int .i64 b.kind, .bool b.b, .int .i64 b.n, .string (strB b.text), .slice pk' b.keys.length ck', .slice pl' b.list.length cl'] a b p q m n W) => h.refl ha hb (Bool.and_eq_true_iff.1 ok).1 (Bool.and_eq_true_iff.1 ok).2)
      rw [ok] at HFI
      clear hE ha hb hT hts hs ht hca hcb hla ok
      generalize eqV a b = E at *
      generalize lessD a b = L at *
      go_enter Tryz.func4, Tryz.ntmps4
      go_wp2_with (first
        | (go_at_call 15
           (refine (HSM.out).mono ?_
            rintro e w1 ⟨rfl, hT1⟩
            have px0 := cellOf (o := 0) hT1.1 rfl; have px1 := cellOf (o := 1) hT1.1 rfl; have px2 := cellOf (o := 2) hT1.1 rfl; have px3 := cellOf (o := 3) hT1.1 rfl; have px4 := cellOf (o := 4) hT1.1 rfl; have px5 := cellOf (o := 5) hT1.1 rfl
            have py0 := cellOf (o := 0) hT1.2.1 rfl; have py1 := cellOf (o := 1) hT1.2.1 rfl; have py2 := cellOf (o := 2) hT1.2.1 rfl; have py3 := cellOf (o := 3) hT1.2.1 rfl; have py4 := cellOf (o := 4) hT1.2.1 rfl; have py5 := cellOf (o := 5) hT1.2.1 rfl
            have HT := Lib.hid hT1
            clear hT1 HSM)))
      have hT : TwoV w _ #[.int .i64 a.kind, .bool a.b, .int .i64 a.n, .string (strB a.text), .slice pk a.keys.length ck, .slice pl a.list.length cl] #[.int .i64 b.kind, .bool b.b, .int .i64 b.n, .string (strB b.text), .slice pk' b.keys.length ck', .slice pl' b.list.length cl'] := HT.out.below (Below.refl _ _).drew
      refine plain_region_draws (fun W => TwoV w W #[.int .i64 a.kind, .bool a.b, .int .i64 a.n, .string (strB a.text), .slice pk a.keys.length ck, .slice pl a.list.length cl] #[.int .i64 b.kind, .bool b.b, .int .i64 b.n, .string (strB b.text), .slice pk' b.keys.length ck', .slice pl' b.list.length cl']) (by kernel_rfl) hT (fun hT => ?_)
      clear HT
      generalize World.drew _ = W0 at *
      have n0 : w.heap.size + 2 ≤ W0.heap.size := (Array.getElem?_eq_some_iff.1 hT.2.1).1
      refine take 0 15 (v := .agg #[.int .i64 a.kind, .bool a.b, .int .i64 a.n, .string (strB a.text), .slice pk a.keys.length ck, .slice pl a.list.length cl]) rfl rfl (by kernel_rfl) (by kernel_rfl) (by kernel_rfl) rfl (fun W hW => exec_load rfl rfl (get_val hW.1)) (by assumption) ?_
      simp only [Act.put, List.setIfInBounds_toArray, List.set_cons_zero, List.set_cons_succ]
      refine take 2 17 (v := .agg #[.int .i64 b.kind, .bool b.b, .int .i64 b.n, .string (strB b.text), .slice pk' b.keys.length ck', .slice pl' b.list.length cl']) rfl rfl (by kernel_rfl) (by kernel_rfl) (by kernel_rfl) rfl (fun W hW => exec_load rfl rfl (get_val hW.2.1)) (by assumption) ?_
      simp only [Act.put, List.setIfInBounds_toArray, List.set_cons_zero, List.set_cons_succ]
      refine any_order [1, 3, 4, 5] (CopF a b) 2 (by kernel_rfl) (by kernel_rfl) rfl (by kernel_rfl) (by kernel_rfl) (Nat.le_of_ble_eq_true (by kernel_rfl)) (fun _ hb => hT.below hb) (fun i _ => copF_keep i) ?_ [16, 18, 5, 6] (by kernel_rfl) ?_
      · intro i hi a1 w1 v lo hi1 hs
        have hT1 := hT.below hs.below
        simp only [List.mem_cons, List.not_mem_nil, or_false] at hi
        rcases hi with rfl | rfl | rfl | rfl
        · refine opCall 1 16 rfl rfl rfl (exec_call [.agg #[.int .i64 a.kind, .bool a.b, .int .i64 a.n, .string (strB a.text), .slice pk a.keys.length ck, .slice pl a.list.length cl]] rfl (congrArg (fun z => [z]) (hs.old 15 (.agg #[.int .i64 a.kind, .bool a.b, .int .i64 a.n, .string (strB a.text), .slice pk a.keys.length ck, .slice pl a.list.length cl]) (by kernel_rfl) rfl)) Tryz.func17 (by kernel_rfl) (by kernel_rfl)) ?_
          exact (HCP.out.1 _ hT1).mono fun e w' ⟨u, h1, h2, y, h3, h4⟩ => ⟨u, h1, u, rfl, h2, y, h3, h4⟩
        · refine opCall 3 18 rfl rfl rfl (exec_call [.agg #[.int .i64 b.kind, .bool b.b, .int .i64 b.n, .string (strB b.text), .slice pk' b.keys.length ck', .slice pl' b.list.length cl']] rfl (congrArg (fun z => [z]) (hs.old 17 (.agg #[.int .i64 b.kind, .bool b.b, .int .i64 b.n, .string (strB b.text), .slice pk' b.keys.length ck', .slice pl' b.list.length cl']) (by kernel_rfl) rfl)) Tryz.func17 (by kernel_rfl) (by kernel_rfl)) ?_
          exact (HCP.out.2 _ hT1).mono fun e w' ⟨u, h1, h2, y, h3, h4⟩ => ⟨u, h1, u, rfl, h2, y, h3, h4⟩
        · exact opRun 4 5 rfl rfl rfl (exec_allocV rfl) ⟨_, rfl, below_new _, rfl, by simp, heap_alloc_new _ _⟩
        · exact opRun 5 6 rfl rfl rfl (exec_allocV rfl) ⟨_, rfl, below_new _, rfl, by simp, heap_alloc_new _ _⟩
      intro v lo hi1 W1 hb hf hd
      obtain ⟨⟨x3, e1, s1⟩, r1⟩ := hf 1 (by simp)
      obtain ⟨⟨y3, e3, s3⟩, r3⟩ := hf 3 (by simp)
      obtain ⟨⟨e4, l4, h4⟩, r4⟩ := hf 4 (by simp)
      obtain ⟨⟨e5, l5, h5⟩, r5⟩ := hf 5 (by simp)
      have d14 := hd 1 (by simp) 4 (by simp) (by omega)
      have d15 := hd 1 (by simp) 5 (by simp) (by omega)
      have d34 := hd 3 (by simp) 4 (by simp) (by omega)
      have d35 := hd 3 (by simp) 5 (by simp) (by omega)
      have d45 := hd 4 (by simp) 5 (by simp) (by omega)
      clear hf hd
      simp only [List.zip_cons_cons, List.zip_nil_right, List.zip_nil_left, List.foldl_cons, List.foldl_nil, e1, e3, e4, e5, Act.put, List.setIfInBounds_toArray, List.set_cons_zero, List.set_cons_succ]
      clear e1 e3 e4 e5
      generalize lo 4 = p at *
      generalize lo 5 = q at *
      obtain ⟨pk3, ck3, pl3, cl3, rfl, _⟩ := (s1.open HTT.out.1).open
      obtain ⟨pk4, ck4, pl4, cl4, rfl, _⟩ := (s3.open HTT.out.2).open
      obtain ⟨W2, st1, hT2, W3, st2, hU⟩ := OrdU.made (hT.below hb) s1 s3 h4 h5 (by omega) (by omega) (by omega) (by omega) (by omega) (by omega) (by omega)
      refine onlySkip 6 rfl rfl (by kernel_rfl) rfl (exec_store rfl rfl rfl st1) (.inr hT2) ?_
      refine onlySkip 7 rfl rfl (by kernel_rfl) rfl (exec_store rfl rfl rfl st2) (.inl (by kernel_rfl)) ?_
      refine done (by kernel_rfl) ?_ _
      have HU := Lib.hid hU
      clear hU hT hT2 s1 s3 h4 h5 r1 r3 r4 r5 d14 d15 d34 d35 d45 l4 l5 st1 st2 hb n0
      have px0 := cellOf (o := 0) HU.out.two.1 rfl; have px1 := cellOf (o := 1) HU.out.two.1 rfl; have px2 := cellOf (o := 2) HU.out.two.1 rfl; have px3 := cellOf (o := 3) HU.out.two.1 rfl; have px4 := cellOf (o := 4) HU.out.two.1 rfl; have px5 := cellOf (o := 5) HU.out.two.1 rfl
      have py0 := cellOf (o := 0) HU.out.two.2.1 rfl; have py1 := cellOf (o := 1) HU.out.two.2.1 rfl; have py2 := cellOf (o := 2) HU.out.two.2.1 rfl; have py3 := cellOf (o := 3) HU.out.two.2.1 rfl; have py4 := cellOf (o := 4) HU.out.two.2.1 rfl; have py5 := cellOf (o := 5) HU.out.two.2.1 rfl
      have pm0 := cellOf (o := 0) HU.out.hm rfl; have pm1 := cellOf (o := 1) HU.out.hm rfl; have pm2 := cellOf (o := 2) HU.out.hm rfl; have pm3 := cellOf (o := 3) HU.out.hm rfl; have pm4 := cellOf (o := 4) HU.out.hm rfl; have pm5 := cellOf (o := 5) HU.out.hm rfl
      have pn0 := cellOf (o := 0) HU.out.hn rfl; have pn1 := cellOf (o := 1) HU.out.hn rfl; have pn2 := cellOf (o := 2) HU.out.hn rfl; have pn3 := cellOf (o := 3) HU.out.hn rfl; have pn4 := cellOf (o := 4) HU.out.hn rfl; have pn5 := cellOf (o := 5) HU.out.hn rfl
      go_wp2_with (first
        | (go_at_call 18
           (
            refine (HFI.out _ _ (below_trans HU.out.two.2.2 (below_new _)) (heap_alloc_new _ _)).mono ?_
            rintro e w2 ⟨rfl, hb⟩
            have hU := (HU.out.keep (below_new _)).keep hb
            have HU := Lib.hid hU
            have px0 := cellOf (o := 0) HU.out.two.1 rfl; have px1 := cellOf (o := 1) HU.out.two.1 rfl; have px2 := cellOf (o := 2) HU.out.two.1 rfl; have px3 := cellOf (o := 3) HU.out.two.1 rfl; have px4 := cellOf (o := 4) HU.out.two.1 rfl; have px5 := cellOf (o := 5) HU.out.two.1 rfl
            have py0 := cellOf (o := 0) HU.out.two.2.1 rfl; have py1 := cellOf (o := 1) HU.out.two.2.1 rfl; have py2 := cellOf (o := 2) HU.out.two.2.1 rfl; have py3 := cellOf (o := 3) HU.out.two.2.1 rfl; have py4 := cellOf (o := 4) HU.out.two.2.1 rfl; have py5 := cellOf (o := 5) HU.out.two.2.1 rfl
            have pm0 := cellOf (o := 0) HU.out.hm rfl; have pm1 := cellOf (o := 1) HU.out.hm rfl; have pm2 := cellOf (o := 2) HU.out.hm rfl; have pm3 := cellOf (o := 3) HU.out.hm rfl; have pm4 := cellOf (o := 4) HU.out.hm rfl; have pm5 := cellOf (o := 5) HU.out.hm rfl
            have pn0 := cellOf (o := 0) HU.out.hn rfl; have pn1 := cellOf (o := 1) HU.out.hn rfl; have pn2 := cellOf (o := 2) HU.out.hn rfl; have pn3 := cellOf (o := 3) HU.out.hn rfl; have pn4 := cellOf (o := 4) HU.out.hn rfl; have pn5 := cellOf (o := 5) HU.out.hn rfl
            clear hU hb)))
      have hU : OrdU w #[.int .i64 a.kind, .bool a.b, .int .i64 a.n, .string (strB a.text), .slice pk a.keys.length ck, .slice pl a.list.length cl] #[.int .i64 b.kind, .bool b.b, .int .i64 b.n, .string (strB b.text), .slice pk' b.keys.length ck', .slice pl' b.list.length cl'] a b p q #[.int .i64 a.kind, .bool a.b, .int .i64 a.n, .string (strB a.text), .slice pk3 a.keys.length ck3, .slice pl3 a.list.length cl3] #[.int .i64 b.kind, .bool b.b, .int .i64 b.n, .string (strB b.text), .slice pk4 b.keys.length ck4, .slice pl4 b.list.length cl4] _ := HU.out.keep (Below.refl _ _).drew
      refine plain_region_draws (fun W => OrdU w #[.int .i64 a.kind, .bool a.b, .int .i64 a.n, .string (strB a.text), .slice pk a.keys.length ck, .slice pl a.list.length cl] #[.int .i64 b.kind, .bool b.b, .int .i64 b.n, .string (strB b.text), .slice pk' b.keys.length ck', .slice pl' b.list.length cl'] a b p q #[.int .i64 a.kind, .bool a.b, .int .i64 a.n, .string (strB a.text), .slice pk3 a.keys.length ck3, .slice pl3 a.list.length cl3] #[.int .i64 b.kind, .bool b.b, .int .i64 b.n, .string (strB b.text), .slice pk4 b.keys.length ck4, .slice pl4 b.list.length cl4] W) (by kernel_rfl) hU (fun hU => ?_)
      clear HU
      generalize World.drew _ = W5 at *
      refine take 0 23 (v := .agg #[.int .i64 a.kind, .bool a.b, .int .i64 a.n, .string (strB a.text), .slice pk a.keys.length ck, .slice pl a.list.length cl]) rfl rfl (by kernel_rfl) (by kernel_rfl) (by kernel_rfl) rfl (fun W hW => exec_load rfl rfl (get_val hW.two.1)) (by assumption) ?_
      simp only [Act.put, List.setIfInBounds_toArray, List.set_cons_zero, List.set_cons_succ]
      refine take 1 24 (v := .agg #[.int .i64 b.kind, .bool b.b, .int .i64 b.n, .string (strB b.text), .slice pk' b.keys.length ck', .slice pl' b.list.length cl']) rfl rfl (by kernel_rfl) (by kernel_rfl) (by kernel_rfl) rfl (fun W hW => exec_load rfl rfl (get_val hW.two.2.1)) (by assumption) ?_
      simp only [Act.put, List.setIfInBounds_toArray, List.set_cons_zero, List.set_cons_succ]
      refine take 3 26 (v := .agg #[.int .i64 a.kind, .bool a.b, .int .i64 a.n, .string (strB a.text), .slice pk a.keys.length ck, .slice pl a.list.length cl]) rfl rfl (by kernel_rfl) (by kernel_rfl) (by kernel_rfl) rfl (fun W hW => exec_load rfl rfl (get_val hW.two.1)) (by assumption) ?_
      simp only [Act.put, List.setIfInBounds_toArray, List.set_cons_zero, List.set_cons_succ]
      refine take 4 27 (v := .agg #[.int .i64 b.kind, .bool b.b, .int .i64 b.n, .string (strB b.text), .slice pk' b.keys.length ck', .slice pl' b.list.length cl']) rfl rfl (by kernel_rfl) (by kernel_rfl) (by kernel_rfl) rfl (fun W hW => exec_load rfl rfl (get_val hW.two.2.1)) (by assumption) ?_
      simp only [Act.put, List.setIfInBounds_toArray, List.set_cons_zero, List.set_cons_succ]
      refine onlyCall 2 25 rfl rfl (by kernel_rfl) rfl (exec_call [.agg #[.int .i64 a.kind, .bool a.b, .int .i64 a.n, .string (strB a.text), .slice pk a.keys.length ck, .slice pl a.list.length cl], .agg #[.int .i64 b.kind, .bool b.b, .int .i64 b.n, .string (strB b.text), .slice pk' b.keys.length ck', .slice pl' b.list.length cl']] rfl rfl Tryz.func23 (by kernel_rfl) (by kernel_rfl)) ?_
      refine (HRE.out _ _ _ _ _ hU).mono ?_
      rintro e w5 ⟨rfl, hU⟩
      refine ⟨_, rfl, .inr (by assumption), ?_⟩
      simp only [Act.put, List.setIfInBounds_toArray, List.set_cons_zero, List.set_cons_succ]
      refine onlyCall 5 28 rfl rfl (by kernel_rfl) rfl (exec_call [.agg #[.int .i64 a.kind, .bool a.b, .int .i64 a.n, .string (strB a.text), .slice pk a.keys.length ck, .slice pl a.list.length cl], .agg #[.int .i64 b.kind, .bool b.b, .int .i64 b.n, .string (strB b.text), .slice pk' b.keys.length ck', .slice pl' b.list.length cl']] rfl rfl Tryz.func24 (by kernel_rfl) (by kernel_rfl)) ?_
      refine (HRL.out _ _ _ _ _ hU).mono ?_
      rintro e w5 ⟨rfl, hU⟩
      refine ⟨_, rfl, .inr (by assumption), ?_⟩
      simp only [Act.put, List.setIfInBounds_toArray, List.set_cons_zero, List.set_cons_succ]
      refine take 6 7 (v := .int .i64 E) rfl rfl (by kernel_rfl) (by kernel_rfl) (by kernel_rfl) rfl (fun W hW => exec_assign rfl rfl) (by assumption) ?_
      simp only [Act.put, List.setIfInBounds_toArray, List.set_cons_zero, List.set_cons_succ]
      refine take 7 8 (v := .int .i64 L) rfl rfl (by kernel_rfl) (by kernel_rfl) (by kernel_rfl) rfl (fun W hW => exec_assign rfl rfl) (by assumption) ?_
      simp only [Act.put, List.setIfInBounds_toArray, List.set_cons_zero, List.set_cons_succ]
      refine done (by kernel_rfl) ?_ _
      have HU := Lib.hid hU
      clear hU
      have px0 := cellOf (o := 0) HU.out.two.1 rfl; have px1 := cellOf (o := 1) HU.out.two.1 rfl; have px2 := cellOf (o := 2) HU.out.two.1 rfl; have px3 := cellOf (o := 3) HU.out.two.1 rfl; have px4 := cellOf (o := 4) HU.out.two.1 rfl; have px5 := cellOf (o := 5) HU.out.two.1 rfl
      have py0 := cellOf (o := 0) HU.out.two.2.1 rfl; have py1 := cellOf (o := 1) HU.out.two.2.1 rfl; have py2 := cellOf (o := 2) HU.out.two.2.1 rfl; have py3 := cellOf (o := 3) HU.out.two.2.1 rfl; have py4 := cellOf (o := 4) HU.out.two.2.1 rfl; have py5 := cellOf (o := 5) HU.out.two.2.1 rfl
      have pm0 := cellOf (o := 0) HU.out.hm rfl; have pm1 := cellOf (o := 1) HU.out.hm rfl; have pm2 := cellOf (o := 2) HU.out.hm rfl; have pm3 := cellOf (o := 3) HU.out.hm rfl; have pm4 := cellOf (o := 4) HU.out.hm rfl; have pm5 := cellOf (o := 5) HU.out.hm rfl
      have pn0 := cellOf (o := 0) HU.out.hn rfl; have pn1 := cellOf (o := 1) HU.out.hn rfl; have pn2 := cellOf (o := 2) HU.out.hn rfl; have pn3 := cellOf (o := 3) HU.out.hn rfl; have pn4 := cellOf (o := 4) HU.out.hn rfl; have pn5 := cellOf (o := 5) HU.out.hn rfl
      go_wp2_with (first
        | (go_at_call 25
           (
            refine (HQ1.out _ _ _ _ _ HU.out).mono ?_
            rintro e w5 ⟨rfl, hU⟩
            have HU := Lib.hid hU
            have px0 := cellOf (o := 0) HU.out.two.1 rfl; have px1 := cellOf (o := 1) HU.out.two.1 rfl; have px2 := cellOf (o := 2) HU.out.two.1 rfl; have px3 := cellOf (o := 3) HU.out.two.1 rfl; have px4 := cellOf (o := 4) HU.out.two.1 rfl; have px5 := cellOf (o := 5) HU.out.two.1 rfl
            have py0 := cellOf (o := 0) HU.out.two.2.1 rfl; have py1 := cellOf (o := 1) HU.out.two.2.1 rfl; have py2 := cellOf (o := 2) HU.out.two.2.1 rfl; have py3 := cellOf (o := 3) HU.out.two.2.1 rfl; have py4 := cellOf (o := 4) HU.out.two.2.1 rfl; have py5 := cellOf (o := 5) HU.out.two.2.1 rfl
            have pm0 := cellOf (o := 0) HU.out.hm rfl; have pm1 := cellOf (o := 1) HU.out.hm rfl; have pm2 := cellOf (o := 2) HU.out.hm rfl; have pm3 := cellOf (o := 3) HU.out.hm rfl; have pm4 := cellOf (o := 4) HU.out.hm rfl; have pm5 := cellOf (o := 5) HU.out.hm rfl
            have pn0 := cellOf (o := 0) HU.out.hn rfl; have pn1 := cellOf (o := 1) HU.out.hn rfl; have pn2 := cellOf (o := 2) HU.out.hn rfl; have pn3 := cellOf (o := 3) HU.out.hn rfl; have pn4 := cellOf (o := 4) HU.out.hn rfl; have pn5 := cellOf (o := 5) HU.out.hn rfl
            clear hU HQ1))
        | (go_at_call 25
           (
            refine (HQ2.out _ _ _ _ _ HU.out).mono ?_
            rintro e w6 ⟨rfl, hU⟩
            have HU := Lib.hid hU
            have px0 := cellOf (o := 0) HU.out.two.1 rfl; have px1 := cellOf (o := 1) HU.out.two.1 rfl; have px2 := cellOf (o := 2) HU.out.two.1 rfl; have px3 := cellOf (o := 3) HU.out.two.1 rfl; have px4 := cellOf (o := 4) HU.out.two.1 rfl; have px5 := cellOf (o := 5) HU.out.two.1 rfl
            have py0 := cellOf (o := 0) HU.out.two.2.1 rfl; have py1 := cellOf (o := 1) HU.out.two.2.1 rfl; have py2 := cellOf (o := 2) HU.out.two.2.1 rfl; have py3 := cellOf (o := 3) HU.out.two.2.1 rfl; have py4 := cellOf (o := 4) HU.out.two.2.1 rfl; have py5 := cellOf (o := 5) HU.out.two.2.1 rfl
            have pm0 := cellOf (o := 0) HU.out.hm rfl; have pm1 := cellOf (o := 1) HU.out.hm rfl; have pm2 := cellOf (o := 2) HU.out.hm rfl; have pm3 := cellOf (o := 3) HU.out.hm rfl; have pm4 := cellOf (o := 4) HU.out.hm rfl; have pm5 := cellOf (o := 5) HU.out.hm rfl
            have pn0 := cellOf (o := 0) HU.out.hn rfl; have pn1 := cellOf (o := 1) HU.out.hn rfl; have pn2 := cellOf (o := 2) HU.out.hn rfl; have pn3 := cellOf (o := 3) HU.out.hn rfl; have pn4 := cellOf (o := 4) HU.out.hn rfl; have pn5 := cellOf (o := 5) HU.out.hn rfl
            clear hU HQ2))
        | (go_at_call 26
           (
            refine (HL1.out _ _ _ _ _ HU.out).mono ?_
            rintro e w7 ⟨rfl, hU⟩
            have HU := Lib.hid hU
            have px0 := cellOf (o := 0) HU.out.two.1 rfl; have px1 := cellOf (o := 1) HU.out.two.1 rfl; have px2 := cellOf (o := 2) HU.out.two.1 rfl; have px3 := cellOf (o := 3) HU.out.two.1 rfl; have px4 := cellOf (o := 4) HU.out.two.1 rfl; have px5 := cellOf (o := 5) HU.out.two.1 rfl
            have py0 := cellOf (o := 0) HU.out.two.2.1 rfl; have py1 := cellOf (o := 1) HU.out.two.2.1 rfl; have py2 := cellOf (o := 2) HU.out.two.2.1 rfl; have py3 := cellOf (o := 3) HU.out.two.2.1 rfl; have py4 := cellOf (o := 4) HU.out.two.2.1 rfl; have py5 := cellOf (o := 5) HU.out.two.2.1 rfl
            have pm0 := cellOf (o := 0) HU.out.hm rfl; have pm1 := cellOf (o := 1) HU.out.hm rfl; have pm2 := cellOf (o := 2) HU.out.hm rfl; have pm3 := cellOf (o := 3) HU.out.hm rfl; have pm4 := cellOf (o := 4) HU.out.hm rfl; have pm5 := cellOf (o := 5) HU.out.hm rfl
            have pn0 := cellOf (o := 0) HU.out.hn rfl; have pn1 := cellOf (o := 1) HU.out.hn rfl; have pn2 := cellOf (o := 2) HU.out.hn rfl; have pn3 := cellOf (o := 3) HU.out.hn rfl; have pn4 := cellOf (o := 4) HU.out.hn rfl; have pn5 := cellOf (o := 5) HU.out.hn rfl
            clear hU))
        | (go_at_call 22
           (
            refine (HK1.out _ _ _ _ _ HU.out).mono ?_
            rintro e w8 ⟨rfl, hU⟩
            have HU := Lib.hid hU
            have px0 := cellOf (o := 0) HU.out.two.1 rfl; have px1 := cellOf (o := 1) HU.out.two.1 rfl; have px2 := cellOf (o := 2) HU.out.two.1 rfl; have px3 := cellOf (o := 3) HU.out.two.1 rfl; have px4 := cellOf (o := 4) HU.out.two.1 rfl; have px5 := cellOf (o := 5) HU.out.two.1 rfl
            have py0 := cellOf (o := 0) HU.out.two.2.1 rfl; have py1 := cellOf (o := 1) HU.out.two.2.1 rfl; have py2 := cellOf (o := 2) HU.out.two.2.1 rfl; have py3 := cellOf (o := 3) HU.out.two.2.1 rfl; have py4 := cellOf (o := 4) HU.out.two.2.1 rfl; have py5 := cellOf (o := 5) HU.out.two.2.1 rfl
            have pm0 := cellOf (o := 0) HU.out.hm rfl; have pm1 := cellOf (o := 1) HU.out.hm rfl; have pm2 := cellOf (o := 2) HU.out.hm rfl; have pm3 := cellOf (o := 3) HU.out.hm rfl; have pm4 := cellOf (o := 4) HU.out.hm rfl; have pm5 := cellOf (o := 5) HU.out.hm rfl
            have pn0 := cellOf (o := 0) HU.out.hn rfl; have pn1 := cellOf (o := 1) HU.out.hn rfl; have pn2 := cellOf (o := 2) HU.out.hn rfl; have pn3 := cellOf (o := 3) HU.out.hn rfl; have pn4 := cellOf (o := 4) HU.out.hn rfl; have pn5 := cellOf (o := 5) HU.out.hn rfl
            clear hU HK1))
        | (go_at_call 22
           (
            refine (HK2.out _ _ _ _ _ HU.out).mono ?_
            rintro e w9 ⟨rfl, hU⟩
            have HU := Lib.hid hU
            have px0 := cellOf (o := 0) HU.out.two.1 rfl; have px1 := cellOf (o := 1) HU.out.two.1 rfl; have px2 := cellOf (o := 2) HU.out.two.1 rfl; have px3 := cellOf (o := 3) HU.out.two.1 rfl; have px4 := cellOf (o := 4) HU.out.two.1 rfl; have px5 := cellOf (o := 5) HU.out.two.1 rfl
            have py0 := cellOf (o := 0) HU.out.two.2.1 rfl; have py1 := cellOf (o := 1) HU.out.two.2.1 rfl; have py2 := cellOf (o := 2) HU.out.two.2.1 rfl; have py3 := cellOf (o := 3) HU.out.two.2.1 rfl; have py4 := cellOf (o := 4) HU.out.two.2.1 rfl; have py5 := cellOf (o := 5) HU.out.two.2.1 rfl
            have pm0 := cellOf (o := 0) HU.out.hm rfl; have pm1 := cellOf (o := 1) HU.out.hm rfl; have pm2 := cellOf (o := 2) HU.out.hm rfl; have pm3 := cellOf (o := 3) HU.out.hm rfl; have pm4 := cellOf (o := 4) HU.out.hm rfl; have pm5 := cellOf (o := 5) HU.out.hm rfl
            have pn0 := cellOf (o := 0) HU.out.hn rfl; have pn1 := cellOf (o := 1) HU.out.hn rfl; have pn2 := cellOf (o := 2) HU.out.hn rfl; have pn3 := cellOf (o := 3) HU.out.hn rfl; have pn4 := cellOf (o := 4) HU.out.hn rfl; have pn5 := cellOf (o := 5) HU.out.hn rfl
            clear hU HK2))
        | (go_at_call 16
           (
            refine (HWK.out _ _ _ _ _ HU.out).mono ?_
            rintro e w10 ⟨rfl, hU⟩
            have HU := Lib.hid hU
            have px0 := cellOf (o := 0) HU.out.two.1 rfl; have px1 := cellOf (o := 1) HU.out.two.1 rfl; have px2 := cellOf (o := 2) HU.out.two.1 rfl; have px3 := cellOf (o := 3) HU.out.two.1 rfl; have px4 := cellOf (o := 4) HU.out.two.1 rfl; have px5 := cellOf (o := 5) HU.out.two.1 rfl
            have py0 := cellOf (o := 0) HU.out.two.2.1 rfl; have py1 := cellOf (o := 1) HU.out.two.2.1 rfl; have py2 := cellOf (o := 2) HU.out.two.2.1 rfl; have py3 := cellOf (o := 3) HU.out.two.2.1 rfl; have py4 := cellOf (o := 4) HU.out.two.2.1 rfl; have py5 := cellOf (o := 5) HU.out.two.2.1 rfl
            have pm0 := cellOf (o := 0) HU.out.hm rfl; have pm1 := cellOf (o := 1) HU.out.hm rfl; have pm2 := cellOf (o := 2) HU.out.hm rfl; have pm3 := cellOf (o := 3) HU.out.hm rfl; have pm4 := cellOf (o := 4) HU.out.hm rfl; have pm5 := cellOf (o := 5) HU.out.hm rfl
            have pn0 := cellOf (o := 0) HU.out.hn rfl; have pn1 := cellOf (o := 1) HU.out.hn rfl; have pn2 := cellOf (o := 2) HU.out.hn rfl; have pn3 := cellOf (o := 3) HU.out.hn rfl; have pn4 := cellOf (o := 4) HU.out.hn rfl; have pn5 := cellOf (o := 5) HU.out.hn rfl
            clear hU)))
      go_ret
      exact ⟨rfl, HU.out.two.2.2⟩
    · have hok : (okV a && okV b) = false := by simpa using ok
      have hca : (if okV a && okV b then eqV a b else 1) = 1 := by rw [hok]; rfl
      have hcb : (if okV b && okV a then eqV b a else 1) = 1 := by rw [Bool.and_comm, hok]; rfl
      have hla := lessV_no hok
      have HQ1 := Lib.hid (fun (p q : Nat) (m n : Array Value) (W : World) (h : OrdU w #[.int .i64 a.kind, .bool a.b, .int .i64 a.n, .string (strB a.text), .slice pk a.keys.length ck, .slice pl a.list.length cl] #[.int .i64 b.kind, .bool b.b, .int .i64 b.n, .string (strB b.text), .slice pk' b.keys.length ck', .slice pl' b.list.length cl'] a b p q m n W) => h.eq1 hE ht hca)
      have HQ2 := Lib.hid (fun (p q : Nat) (m n : Array Value) (W : World) (h : OrdU w #[.int .i64 a.kind, .bool a.b, .int .i64 a.n, .string (strB a.text), .slice pk a.keys.length ck, .slice pl a.list.length cl] #[.int .i64 b.kind, .bool b.b, .int .i64 b.n, .string (strB b.text), .slice pk' b.keys.length ck', .slice pl' b.list.length cl'] a b p q m n W) => h.eq2 hE ht hcb)
      have HL1 := Lib.hid (fun (p q : Nat) (m n : Array Value) (W : World) (h : OrdU w #[.int .i64 a.kind, .bool a.b, .int .i64 a.n, .string (strB a.text), .slice pk a.keys.length ck, .slice pl a.list.length cl] #[.int .i64 b.kind, .bool b.b, .int .i64 b.n, .string (strB b.text), .slice pk' b.keys.length ck', .slice pl' b.list.length cl'] a b p q m n W) => h.less hE ht hla)
      rw [hok] at HFI
      clear hE ha hb hT hts hs ht hca hcb hla ok hok
      go_enter Tryz.func4, Tryz.ntmps4
      go_wp2_with (first
        | (go_at_call 15
           (refine (HSM.out).mono ?_
            rintro e w1 ⟨rfl, hT1⟩
            have px0 := cellOf (o := 0) hT1.1 rfl; have px1 := cellOf (o := 1) hT1.1 rfl; have px2 := cellOf (o := 2) hT1.1 rfl; have px3 := cellOf (o := 3) hT1.1 rfl; have px4 := cellOf (o := 4) hT1.1 rfl; have px5 := cellOf (o := 5) hT1.1 rfl
            have py0 := cellOf (o := 0) hT1.2.1 rfl; have py1 := cellOf (o := 1) hT1.2.1 rfl; have py2 := cellOf (o := 2) hT1.2.1 rfl; have py3 := cellOf (o := 3) hT1.2.1 rfl; have py4 := cellOf (o := 4) hT1.2.1 rfl; have py5 := cellOf (o := 5) hT1.2.1 rfl
            have HT := Lib.hid hT1
            clear hT1 HSM)))
      have hT : TwoV w _ #[.int .i64 a.kind, .bool a.b, .int .i64 a.n, .string (strB a.text), .slice pk a.keys.length ck, .slice pl a.list.length cl] #[.int .i64 b.kind, .bool b.b, .int .i64 b.n, .string (strB b.text), .slice pk' b.keys.length ck', .slice pl' b.list.length cl'] := HT.out.below (Below.refl _ _).drew
      refine plain_region_draws (fun W => TwoV w W #[.int .i64 a.kind, .bool a.b, .int .i64 a.n, .string (strB a.text), .slice pk a.keys.length ck, .slice pl a.list.length cl] #[.int .i64 b.kind, .bool b.b, .int .i64 b.n, .string (strB b.text), .slice pk' b.keys.length ck', .slice pl' b.list.length cl']) (by kernel_rfl) hT (fun hT => ?_)
      clear HT
      generalize World.drew _ = W0 at *
      have n0 : w.heap.size + 2 ≤ W0.heap.size := (Array.getElem?_eq_some_iff.1 hT.2.1).1
      refine take 0 15 (v := .agg #[.int .i64 a.kind, .bool a.b, .int .i64 a.n, .string (strB a.text), .slice pk a.keys.length ck, .slice pl a.list.length cl]) rfl rfl (by kernel_rfl) (by kernel_rfl) (by kernel_rfl) rfl (fun W hW => exec_load rfl rfl (get_val hW.1)) (by assumption) ?_
      simp only [Act.put, List.setIfInBounds_toArray, List.set_cons_zero, List.set_cons_succ]
      refine take 2 17 (v := .agg #[.int .i64 b.kind, .bool b.b, .int .i64 b.n, .string (strB b.text), .slice pk' b.keys.length ck', .slice pl' b.list.length cl']) rfl rfl (by kernel_rfl) (by kernel_rfl) (by kernel_rfl) rfl (fun W hW => exec_load rfl rfl (get_val hW.2.1)) (by assumption) ?_
      simp only [Act.put, List.setIfInBounds_toArray, List.set_cons_zero, List.set_cons_succ]
      refine any_order [1, 3, 4, 5] (CopF a b) 2 (by kernel_rfl) (by kernel_rfl) rfl (by kernel_rfl) (by kernel_rfl) (Nat.le_of_ble_eq_true (by kernel_rfl)) (fun _ hb => hT.below hb) (fun i _ => copF_keep i) ?_ [16, 18, 5, 6] (by kernel_rfl) ?_
      · intro i hi a1 w1 v lo hi1 hs
        have hT1 := hT.below hs.below
        simp only [List.mem_cons, List.not_mem_nil, or_false] at hi
        rcases hi with rfl | rfl | rfl | rfl
        · refine opCall 1 16 rfl rfl rfl (exec_call [.agg #[.int .i64 a.kind, .bool a.b, .int .i64 a.n, .string (strB a.text), .slice pk a.keys.length ck, .slice pl a.list.length cl]] rfl (congrArg (fun z => [z]) (hs.old 15 (.agg #[.int .i64 a.kind, .bool a.b, .int .i64 a.n, .string (strB a.text), .slice pk a.keys.length ck, .slice pl a.list.length cl]) (by kernel_rfl) rfl)) Tryz.func17 (by kernel_rfl) (by kernel_rfl)) ?_
          exact (HCP.out.1 _ hT1).mono fun e w' ⟨u, h1, h2, y, h3, h4⟩ => ⟨u, h1, u, rfl, h2, y, h3, h4⟩
        · refine opCall 3 18 rfl rfl rfl (exec_call [.agg #[.int .i64 b.kind, .bool b.b, .int .i64 b.n, .string (strB b.text), .slice pk' b.keys.length ck', .slice pl' b.list.length cl']] rfl (congrArg (fun z => [z]) (hs.old 17 (.agg #[.int .i64 b.kind, .bool b.b, .int .i64 b.n, .string (strB b.text), .slice pk' b.keys.length ck', .slice pl' b.list.length cl']) (by kernel_rfl) rfl)) Tryz.func17 (by kernel_rfl) (by kernel_rfl)) ?_
          exact (HCP.out.2 _ hT1).mono fun e w' ⟨u, h1, h2, y, h3, h4⟩ => ⟨u, h1, u, rfl, h2, y, h3, h4⟩
        · exact opRun 4 5 rfl rfl rfl (exec_allocV rfl) ⟨_, rfl, below_new _, rfl, by simp, heap_alloc_new _ _⟩
        · exact opRun 5 6 rfl rfl rfl (exec_allocV rfl) ⟨_, rfl, below_new _, rfl, by simp, heap_alloc_new _ _⟩
      intro v lo hi1 W1 hb hf hd
      obtain ⟨⟨x3, e1, s1⟩, r1⟩ := hf 1 (by simp)
      obtain ⟨⟨y3, e3, s3⟩, r3⟩ := hf 3 (by simp)
      obtain ⟨⟨e4, l4, h4⟩, r4⟩ := hf 4 (by simp)
      obtain ⟨⟨e5, l5, h5⟩, r5⟩ := hf 5 (by simp)
      have d14 := hd 1 (by simp) 4 (by simp) (by omega)
      have d15 := hd 1 (by simp) 5 (by simp) (by omega)
      have d34 := hd 3 (by simp) 4 (by simp) (by omega)
      have d35 := hd 3 (by simp) 5 (by simp) (by omega)
      have d45 := hd 4 (by simp) 5 (by simp) (by omega)
      clear hf hd
      simp only [List.zip_cons_cons, List.zip_nil_right, List.zip_nil_left, List.foldl_cons, List.foldl_nil, e1, e3, e4, e5, Act.put, List.setIfInBounds_toArray, List.set_cons_zero, List.set_cons_succ]
      clear e1 e3 e4 e5
      generalize lo 4 = p at *
      generalize lo 5 = q at *
      obtain ⟨pk3, ck3, pl3, cl3, rfl, _⟩ := (s1.open HTT.out.1).open
      obtain ⟨pk4, ck4, pl4, cl4, rfl, _⟩ := (s3.open HTT.out.2).open
      obtain ⟨W2, st1, hT2, W3, st2, hU⟩ := OrdU.made (hT.below hb) s1 s3 h4 h5 (by omega) (by omega) (by omega) (by omega) (by omega) (by omega) (by omega)
      refine onlySkip 6 rfl rfl (by kernel_rfl) rfl (exec_store rfl rfl rfl st1) (.inr hT2) ?_
      refine onlySkip 7 rfl rfl (by kernel_rfl) rfl (exec_store rfl rfl rfl st2) (.inl (by kernel_rfl)) ?_
      refine done (by kernel_rfl) ?_ _
      have HU := Lib.hid hU
      clear hU hT hT2 s1 s3 h4 h5 r1 r3 r4 r5 d14 d15 d34 d35 d45 l4 l5 st1 st2 hb n0
      have px0 := cellOf (o := 0) HU.out.two.1 rfl; have px1 := cellOf (o := 1) HU.out.two.1 rfl; have px2 := cellOf (o := 2) HU.out.two.1 rfl; have px3 := cellOf (o := 3) HU.out.two.1 rfl; have px4 := cellOf (o := 4) HU.out.two.1 rfl; have px5 := cellOf (o := 5) HU.out.two.1 rfl
      have py0 := cellOf (o := 0) HU.out.two.2.1 rfl; have py1 := cellOf (o := 1) HU.out.two.2.1 rfl; have py2 := cellOf (o := 2) HU.out.two.2.1 rfl; have py3 := cellOf (o := 3) HU.out.two.2.1 rfl; have py4 := cellOf (o := 4) HU.out.two.2.1 rfl; have py5 := cellOf (o := 5) HU.out.two.2.1 rfl
      have pm0 := cellOf (o := 0) HU.out.hm rfl; have pm1 := cellOf (o := 1) HU.out.hm rfl; have pm2 := cellOf (o := 2) HU.out.hm rfl; have pm3 := cellOf (o := 3) HU.out.hm rfl; have pm4 := cellOf (o := 4) HU.out.hm rfl; have pm5 := cellOf (o := 5) HU.out.hm rfl
      have pn0 := cellOf (o := 0) HU.out.hn rfl; have pn1 := cellOf (o := 1) HU.out.hn rfl; have pn2 := cellOf (o := 2) HU.out.hn rfl; have pn3 := cellOf (o := 3) HU.out.hn rfl; have pn4 := cellOf (o := 4) HU.out.hn rfl; have pn5 := cellOf (o := 5) HU.out.hn rfl
      go_wp2_with (first
        | (go_at_call 18
           (
            refine (HFI.out _ _ (below_trans HU.out.two.2.2 (below_new _)) (heap_alloc_new _ _)).mono ?_
            rintro e w2 ⟨rfl, hb⟩
            have hU := (HU.out.keep (below_new _)).keep hb
            have HU := Lib.hid hU
            have px0 := cellOf (o := 0) HU.out.two.1 rfl; have px1 := cellOf (o := 1) HU.out.two.1 rfl; have px2 := cellOf (o := 2) HU.out.two.1 rfl; have px3 := cellOf (o := 3) HU.out.two.1 rfl; have px4 := cellOf (o := 4) HU.out.two.1 rfl; have px5 := cellOf (o := 5) HU.out.two.1 rfl
            have py0 := cellOf (o := 0) HU.out.two.2.1 rfl; have py1 := cellOf (o := 1) HU.out.two.2.1 rfl; have py2 := cellOf (o := 2) HU.out.two.2.1 rfl; have py3 := cellOf (o := 3) HU.out.two.2.1 rfl; have py4 := cellOf (o := 4) HU.out.two.2.1 rfl; have py5 := cellOf (o := 5) HU.out.two.2.1 rfl
            have pm0 := cellOf (o := 0) HU.out.hm rfl; have pm1 := cellOf (o := 1) HU.out.hm rfl; have pm2 := cellOf (o := 2) HU.out.hm rfl; have pm3 := cellOf (o := 3) HU.out.hm rfl; have pm4 := cellOf (o := 4) HU.out.hm rfl; have pm5 := cellOf (o := 5) HU.out.hm rfl
            have pn0 := cellOf (o := 0) HU.out.hn rfl; have pn1 := cellOf (o := 1) HU.out.hn rfl; have pn2 := cellOf (o := 2) HU.out.hn rfl; have pn3 := cellOf (o := 3) HU.out.hn rfl; have pn4 := cellOf (o := 4) HU.out.hn rfl; have pn5 := cellOf (o := 5) HU.out.hn rfl
            clear hU hb))
        | (go_at_call 25
           (
            refine (HQ1.out _ _ _ _ _ HU.out).mono ?_
            rintro e w5 ⟨rfl, hU⟩
            have HU := Lib.hid hU
            have px0 := cellOf (o := 0) HU.out.two.1 rfl; have px1 := cellOf (o := 1) HU.out.two.1 rfl; have px2 := cellOf (o := 2) HU.out.two.1 rfl; have px3 := cellOf (o := 3) HU.out.two.1 rfl; have px4 := cellOf (o := 4) HU.out.two.1 rfl; have px5 := cellOf (o := 5) HU.out.two.1 rfl
            have py0 := cellOf (o := 0) HU.out.two.2.1 rfl; have py1 := cellOf (o := 1) HU.out.two.2.1 rfl; have py2 := cellOf (o := 2) HU.out.two.2.1 rfl; have py3 := cellOf (o := 3) HU.out.two.2.1 rfl; have py4 := cellOf (o := 4) HU.out.two.2.1 rfl; have py5 := cellOf (o := 5) HU.out.two.2.1 rfl
            have pm0 := cellOf (o := 0) HU.out.hm rfl; have pm1 := cellOf (o := 1) HU.out.hm rfl; have pm2 := cellOf (o := 2) HU.out.hm rfl; have pm3 := cellOf (o := 3) HU.out.hm rfl; have pm4 := cellOf (o := 4) HU.out.hm rfl; have pm5 := cellOf (o := 5) HU.out.hm rfl
            have pn0 := cellOf (o := 0) HU.out.hn rfl; have pn1 := cellOf (o := 1) HU.out.hn rfl; have pn2 := cellOf (o := 2) HU.out.hn rfl; have pn3 := cellOf (o := 3) HU.out.hn rfl; have pn4 := cellOf (o := 4) HU.out.hn rfl; have pn5 := cellOf (o := 5) HU.out.hn rfl
            clear hU HQ1))
        | (go_at_call 25
           (
            refine (HQ2.out _ _ _ _ _ HU.out).mono ?_
            rintro e w6 ⟨rfl, hU⟩
            have HU := Lib.hid hU
            have px0 := cellOf (o := 0) HU.out.two.1 rfl; have px1 := cellOf (o := 1) HU.out.two.1 rfl; have px2 := cellOf (o := 2) HU.out.two.1 rfl; have px3 := cellOf (o := 3) HU.out.two.1 rfl; have px4 := cellOf (o := 4) HU.out.two.1 rfl; have px5 := cellOf (o := 5) HU.out.two.1 rfl
            have py0 := cellOf (o := 0) HU.out.two.2.1 rfl; have py1 := cellOf (o := 1) HU.out.two.2.1 rfl; have py2 := cellOf (o := 2) HU.out.two.2.1 rfl; have py3 := cellOf (o := 3) HU.out.two.2.1 rfl; have py4 := cellOf (o := 4) HU.out.two.2.1 rfl; have py5 := cellOf (o := 5) HU.out.two.2.1 rfl
            have pm0 := cellOf (o := 0) HU.out.hm rfl; have pm1 := cellOf (o := 1) HU.out.hm rfl; have pm2 := cellOf (o := 2) HU.out.hm rfl; have pm3 := cellOf (o := 3) HU.out.hm rfl; have pm4 := cellOf (o := 4) HU.out.hm rfl; have pm5 := cellOf (o := 5) HU.out.hm rfl
            have pn0 := cellOf (o := 0) HU.out.hn rfl; have pn1 := cellOf (o := 1) HU.out.hn rfl; have pn2 := cellOf (o := 2) HU.out.hn rfl; have pn3 := cellOf (o := 3) HU.out.hn rfl; have pn4 := cellOf (o := 4) HU.out.hn rfl; have pn5 := cellOf (o := 5) HU.out.hn rfl
            clear hU HQ2))
        | (go_at_call 26
           (
            refine (HL1.out _ _ _ _ _ HU.out).mono ?_
            rintro e w7 ⟨rfl, hU⟩
            have HU := Lib.hid hU
            have px0 := cellOf (o := 0) HU.out.two.1 rfl; have px1 := cellOf (o := 1) HU.out.two.1 rfl; have px2 := cellOf (o := 2) HU.out.two.1 rfl; have px3 := cellOf (o := 3) HU.out.two.1 rfl; have px4 := cellOf (o := 4) HU.out.two.1 rfl; have px5 := cellOf (o := 5) HU.out.two.1 rfl
            have py0 := cellOf (o := 0) HU.out.two.2.1 rfl; have py1 := cellOf (o := 1) HU.out.two.2.1 rfl; have py2 := cellOf (o := 2) HU.out.two.2.1 rfl; have py3 := cellOf (o := 3) HU.out.two.2.1 rfl; have py4 := cellOf (o := 4) HU.out.two.2.1 rfl; have py5 := cellOf (o := 5) HU.out.two.2.1 rfl
            have pm0 := cellOf (o := 0) HU.out.hm rfl; have pm1 := cellOf (o := 1) HU.out.hm rfl; have pm2 := cellOf (o := 2) HU.out.hm rfl; have pm3 := cellOf (o := 3) HU.out.hm rfl; have pm4 := cellOf (o := 4) HU.out.hm rfl; have pm5 := cellOf (o := 5) HU.out.hm rfl
            have pn0 := cellOf (o := 0) HU.out.hn rfl; have pn1 := cellOf (o := 1) HU.out.hn rfl; have pn2 := cellOf (o := 2) HU.out.hn rfl; have pn3 := cellOf (o := 3) HU.out.hn rfl; have pn4 := cellOf (o := 4) HU.out.hn rfl; have pn5 := cellOf (o := 5) HU.out.hn rfl
            clear hU))
        | (go_at_call 22
           (
            refine (HK1.out _ _ _ _ _ HU.out).mono ?_
            rintro e w8 ⟨rfl, hU⟩
            have HU := Lib.hid hU
            have px0 := cellOf (o := 0) HU.out.two.1 rfl; have px1 := cellOf (o := 1) HU.out.two.1 rfl; have px2 := cellOf (o := 2) HU.out.two.1 rfl; have px3 := cellOf (o := 3) HU.out.two.1 rfl; have px4 := cellOf (o := 4) HU.out.two.1 rfl; have px5 := cellOf (o := 5) HU.out.two.1 rfl
            have py0 := cellOf (o := 0) HU.out.two.2.1 rfl; have py1 := cellOf (o := 1) HU.out.two.2.1 rfl; have py2 := cellOf (o := 2) HU.out.two.2.1 rfl; have py3 := cellOf (o := 3) HU.out.two.2.1 rfl; have py4 := cellOf (o := 4) HU.out.two.2.1 rfl; have py5 := cellOf (o := 5) HU.out.two.2.1 rfl
            have pm0 := cellOf (o := 0) HU.out.hm rfl; have pm1 := cellOf (o := 1) HU.out.hm rfl; have pm2 := cellOf (o := 2) HU.out.hm rfl; have pm3 := cellOf (o := 3) HU.out.hm rfl; have pm4 := cellOf (o := 4) HU.out.hm rfl; have pm5 := cellOf (o := 5) HU.out.hm rfl
            have pn0 := cellOf (o := 0) HU.out.hn rfl; have pn1 := cellOf (o := 1) HU.out.hn rfl; have pn2 := cellOf (o := 2) HU.out.hn rfl; have pn3 := cellOf (o := 3) HU.out.hn rfl; have pn4 := cellOf (o := 4) HU.out.hn rfl; have pn5 := cellOf (o := 5) HU.out.hn rfl
            clear hU HK1))
        | (go_at_call 22
           (
            refine (HK2.out _ _ _ _ _ HU.out).mono ?_
            rintro e w9 ⟨rfl, hU⟩
            have HU := Lib.hid hU
            have px0 := cellOf (o := 0) HU.out.two.1 rfl; have px1 := cellOf (o := 1) HU.out.two.1 rfl; have px2 := cellOf (o := 2) HU.out.two.1 rfl; have px3 := cellOf (o := 3) HU.out.two.1 rfl; have px4 := cellOf (o := 4) HU.out.two.1 rfl; have px5 := cellOf (o := 5) HU.out.two.1 rfl
            have py0 := cellOf (o := 0) HU.out.two.2.1 rfl; have py1 := cellOf (o := 1) HU.out.two.2.1 rfl; have py2 := cellOf (o := 2) HU.out.two.2.1 rfl; have py3 := cellOf (o := 3) HU.out.two.2.1 rfl; have py4 := cellOf (o := 4) HU.out.two.2.1 rfl; have py5 := cellOf (o := 5) HU.out.two.2.1 rfl
            have pm0 := cellOf (o := 0) HU.out.hm rfl; have pm1 := cellOf (o := 1) HU.out.hm rfl; have pm2 := cellOf (o := 2) HU.out.hm rfl; have pm3 := cellOf (o := 3) HU.out.hm rfl; have pm4 := cellOf (o := 4) HU.out.hm rfl; have pm5 := cellOf (o := 5) HU.out.hm rfl
            have pn0 := cellOf (o := 0) HU.out.hn rfl; have pn1 := cellOf (o := 1) HU.out.hn rfl; have pn2 := cellOf (o := 2) HU.out.hn rfl; have pn3 := cellOf (o := 3) HU.out.hn rfl; have pn4 := cellOf (o := 4) HU.out.hn rfl; have pn5 := cellOf (o := 5) HU.out.hn rfl
            clear hU HK2))
        | (go_at_call 16
           (
            refine (HWK.out _ _ _ _ _ HU.out).mono ?_
            rintro e w10 ⟨rfl, hU⟩
            have HU := Lib.hid hU
            have px0 := cellOf (o := 0) HU.out.two.1 rfl; have px1 := cellOf (o := 1) HU.out.two.1 rfl; have px2 := cellOf (o := 2) HU.out.two.1 rfl; have px3 := cellOf (o := 3) HU.out.two.1 rfl; have px4 := cellOf (o := 4) HU.out.two.1 rfl; have px5 := cellOf (o := 5) HU.out.two.1 rfl
            have py0 := cellOf (o := 0) HU.out.two.2.1 rfl; have py1 := cellOf (o := 1) HU.out.two.2.1 rfl; have py2 := cellOf (o := 2) HU.out.two.2.1 rfl; have py3 := cellOf (o := 3) HU.out.two.2.1 rfl; have py4 := cellOf (o := 4) HU.out.two.2.1 rfl; have py5 := cellOf (o := 5) HU.out.two.2.1 rfl
            have pm0 := cellOf (o := 0) HU.out.hm rfl; have pm1 := cellOf (o := 1) HU.out.hm rfl; have pm2 := cellOf (o := 2) HU.out.hm rfl; have pm3 := cellOf (o := 3) HU.out.hm rfl; have pm4 := cellOf (o := 4) HU.out.hm rfl; have pm5 := cellOf (o := 5) HU.out.hm rfl
            have pn0 := cellOf (o := 0) HU.out.hn rfl; have pn1 := cellOf (o := 1) HU.out.hn rfl; have pn2 := cellOf (o := 2) HU.out.hn rfl; have pn3 := cellOf (o := 3) HU.out.hn rfl; have pn4 := cellOf (o := 4) HU.out.hn rfl; have pn5 := cellOf (o := 5) HU.out.hn rfl
            clear hU)))
      go_ret
      exact ⟨rfl, HU.out.two.2.2⟩
  · have HW := Lib.hid (fun (W : World) (h : TwoV w W #[.int .i64 a.kind, .bool a.b, .int .i64 a.n, .string (strB a.text), .slice pk a.keys.length ck, .slice pl a.list.length cl] #[.int .i64 b.kind, .bool b.b, .int .i64 b.n, .string (strB b.text), .slice pk' b.keys.length ck', .slice pl' b.list.length cl']) => (works_any (hE.b h.2.2)).mono (R' := fun e w' => e = .returned (.bool true) ∧ TwoV w w' #[.int .i64 a.kind, .bool a.b, .int .i64 a.n, .string (strB a.text), .slice pk a.keys.length ck, .slice pl a.list.length cl] #[.int .i64 b.kind, .bool b.b, .int .i64 b.n, .string (strB b.text), .slice pk' b.keys.length ck', .slice pl' b.list.length cl']) fun _ _ h' => ⟨h'.1, h.below h'.2⟩)
    rw [decide_eq_false hs] at HSM
    clear hE ha hb hT hts hs
    go_enter Tryz.func4, Tryz.ntmps4
    go_wp2_with (first
        | (go_at_call 15
           (refine (HSM.out).mono ?_
            rintro e w1 ⟨rfl, hT1⟩
            have px0 := cellOf (o := 0) hT1.1 rfl; have px1 := cellOf (o := 1) hT1.1 rfl; have px2 := cellOf (o := 2) hT1.1 rfl; have px3 := cellOf (o := 3) hT1.1 rfl; have px4 := cellOf (o := 4) hT1.1 rfl; have px5 := cellOf (o := 5) hT1.1 rfl
            have py0 := cellOf (o := 0) hT1.2.1 rfl; have py1 := cellOf (o := 1) hT1.2.1 rfl; have py2 := cellOf (o := 2) hT1.2.1 rfl; have py3 := cellOf (o := 3) hT1.2.1 rfl; have py4 := cellOf (o := 4) hT1.2.1 rfl; have py5 := cellOf (o := 5) hT1.2.1 rfl
            have HT := Lib.hid hT1
            clear hT1))
        | (go_at_call 16
           (refine (HW.out _ HT.out).mono ?_
            rintro e w9 ⟨rfl, hT1⟩
            have px0 := cellOf (o := 0) hT1.1 rfl; have px1 := cellOf (o := 1) hT1.1 rfl; have px2 := cellOf (o := 2) hT1.1 rfl; have px3 := cellOf (o := 3) hT1.1 rfl; have px4 := cellOf (o := 4) hT1.1 rfl; have px5 := cellOf (o := 5) hT1.1 rfl
            have py0 := cellOf (o := 0) hT1.2.1 rfl; have py1 := cellOf (o := 1) hT1.2.1 rfl; have py2 := cellOf (o := 2) hT1.2.1 rfl; have py3 := cellOf (o := 3) hT1.2.1 rfl; have py4 := cellOf (o := 4) hT1.2.1 rfl; have py5 := cellOf (o := 5) hT1.2.1 rfl
            have HT := Lib.hid hT1
            clear hT1)))
    go_ret
    exact ⟨rfl, HT.out.2.2⟩
end Go.Proofs.YtnkaegdnjfpliaaGreatDoor

/-! ValueEquals: for every two values the law returns true, and the arguments read as they did. The listed tables of Go's library read as the program's text lays them. -/
namespace Go.Proofs.YtnkaegdnjfpliaaGreatDoor
set_option linter.unusedSimpArgs false
set_option linter.unusedVariables false
open Go.ChangeShapes Go.WideShapes Go.ChangeAt Go.RowKit Go.Joins

set_option maxRecDepth 100000 in
theorem valueEquals_lifted (os : Os) (started : os.Started) (H : Type) (enc : TypeId × Value → H) :
    ReturnsInHanded {} Tryz.checked os 4 .any (fun w args => (Rows.valueEqualsSpec.pre enc Tryz.prog Tryz.f4 [] false w args ∧ laidMetH Tryz.prog LD w) ∧ sizedMet enc Tryz.prog Tryz.f4 (OpenSpec.ofChange Rows.valueEqualsSpec) false w args)
      (Rows.valueEqualsSpec.post enc Tryz.prog Tryz.f4 false true false false) := by
  refine returns_tied started (by kernel_rfl) Tryz.func4 #[.agg (flatX 0 false 0 []), .agg (flatX 0 false 0 [])] (by kernel_rfl) (by kernel_rfl) (by kernel_rfl) (wit_shape _ _) (wit_laid _ _) ?_
  intro W base args ds gs before hval0 hW hz hE
  have hval : ∀ (j : Nat) t v, Tryz.f4.params[j]? = some t → args[j]? = some v → Value.okWide Tryz.prog W .any base t v := hval0
  have hW' := hW
  obtain ⟨p, q, hA0, hV, rfl, hfz, hnd⟩ := hW
  have hA : DataW.TrodAll enc Tryz.prog W 0 (fun _ => true) true Tryz.f4.params.toList args.toList ds p := hA0
  rw [Tryz.params4] at hA hval
  obtain ⟨v0, vs0, d0, ds0, p0, q0, hargs, rfl, rfl, h0, r0⟩ := trodAll_cons hA
  obtain ⟨v1, vs1, d1, ds1, p1, q1, rfl, rfl, rfl, h1, r1⟩ := trodAll_cons r0
  obtain ⟨rfl, rfl, rfl⟩ := trodAll_nil r1
  obtain ⟨rfl, rfl⟩ := trodVars_none hV
  obtain rfl : args = #[v0, v1] := by cases args; simp_all
  rw [Tryz.params4] at hz
  obtain ⟨z0, z1⟩ := fits_two hz
  obtain ⟨a0, x0, rfl, hx0, hr0⟩ := value_in (hval 0 26 v0 rfl rfl) h0 z0
  obtain ⟨a1, x1, rfl, hx1, hr1⟩ := value_in (hval 1 26 v1 rfl rfl) h1 z1
  clear hA0 hval0
  refine (equals_law hE hx0 hx1).mono fun e W' ⟨he, hg⟩ => ?_
  subst he
  exact ⟨_, rfl, law_post laidT (by decide +kernel) Tryz.underlying4 (by kernel_rfl) rfl hW' rfl hg⟩
theorem valueEquals_row : Rows.ValueEqualsSaid :=
  OpenClaim.holds_of_wide 4 Tryz.f4 rfl rfl rfl rfl rfl rfl rfl ⟨rfl, rfl, rfl, rfl, rfl⟩ rfl rfl rfl rfl rfl (by kernel_rfl) Tryz.func4 (by kernel_rfl)
    (of_decide_eq_true (by kernel_rfl)) (by unfold Func.isWrapper; first | (rw [if_pos (by decide +kernel)]; kernel_rfl) | (rw [if_neg (by decide +kernel)]; exact ⟨rfl, rfl⟩))
    (fun os started H enc _ => valueEquals_lifted os started H enc)
theorem equals_law_holds : Rows.ValueEqualsCardSaid :=
  Claim7.holds_tied_plain_at .later [] [.data, .data, .data, .data, .pinned] true (true, "541050135a4ae63573153b942905868de3e811d8a5bb89e3a2a615778747f658") true
    valueEquals_row (fun _ h => by cases h) (by kernel_rfl) (fun _ h => by cases h) valueEquals_row_tie rfl ⟨rfl, rfl⟩ (by kernel_rfl) rfl
    (fun f fn hf hfn => by
      obtain rfl : f = 4 := Option.some.inj ((show Tryz.prog.funcNamed "lattice/latticelaw01.ValueEquals" = some 4 by kernel_rfl).symm.trans hf) |>.symm
      obtain rfl : fn = Tryz.f4 := (Option.some.inj (Tryz.func4.symm.trans hfn)).symm
      exact ⟨by kernel_rfl, fun j t ht => by
        rw [Tryz.params4] at ht
        have hm : t ∈ [26, 26] := by simpa using Array.mem_of_getElem? ht
        have hall : ([26, 26].all fun u => !Tryz.prog.wantsStandIn u) = true := by kernel_rfl
        exact (show Tryz.prog.wantsStandIn t = false by simpa using List.all_eq_true.1 hall t hm)⟩)
    (by kernel_rfl)
#print axioms equals_law_holds
end Go.Proofs.YtnkaegdnjfpliaaGreatDoor
