/- value.may. -/
import Derived.Test.YtnkaegdnjfpliaaGreatDoorVbare
import Derived.Test.YtnkaegdnjfpliaaGreatDoorUtf
import Derived.Test.YtnkaegdnjfpliaaGreatDoorLays2
namespace Go.Proofs.YtnkaegdnjfpliaaGreatDoor
set_option linter.unusedSimpArgs false
set_option linter.unusedVariables false
open Go.RowKit

/-- What the program's tables hold. -/
structure Env (w : World) : Prop where
  tabs : Lib.Utf8Tabs 0 1 w
  len : ∃ m, w.cell? ⟨2, 0, none⟩ = some (.int .i64 m)
  pow : ∀ w', Below 6 w w' → Lib.TabIs Tryz.prog w' "internal/strconv.uint64pow10" .u64 Lib.pow10Tab
  size : 6 ≤ w.heap.size
theorem Env.below {w w' : World} (h : Env w) (g : Below 6 w w') : Env w' := by
  have cell : ∀ {b o : Nat} {v : Value}, b < 6 → w.cell? ⟨b, o, none⟩ = some v → w'.cell? ⟨b, o, none⟩ = some v := fun hb hc => belowCell g hb hc
  refine ⟨⟨fun c hc => cell (by decide) (h.tabs.1 c hc), fun i hi => ⟨cell (by decide) (h.tabs.2 i hi).1, cell (by decide) (h.tabs.2 i hi).2⟩⟩, ?_, fun w2 h2 => h.pow w2 (g.trans h2), Nat.le_trans h.size g.size⟩
  obtain ⟨m, hm⟩ := h.len
  exact ⟨m, cell (by decide) hm⟩
theorem Env.b {w w' : World} (h : Env w) (g : Below w.heap.size w w') : Env w' := h.below (g.mono h.size)
theorem valid_any {w : World} (hE : Env w) (l : List UInt8) (h : l.length ≤ 140737488355328) : Calls Tryz.prog 73 #[.string (strB l)] w fun e w' => e = .returned (.bool (Lib.validD l)) ∧ Below w.heap.size w w' :=
  Any.utf8_ValidString Tryz.laysValid (strB l) w (by rw [strB_size]; omega) hE.tabs
theorem less_eq : ∀ a b : List UInt8, Op.bytesLess a b = ltB a b := by
  intro a
  induction a with
  | nil => intro b; cases b <;> simp [Op.bytesLess, ltB, cmpB, cmpL]
  | cons x r ih =>
    intro b
    cases b with
    | nil => simp [Op.bytesLess, ltB, cmpB, cmpL]
    | cons y s =>
      have := ih s
      unfold ltB cmpB at *
      simp only [Op.bytesLess, cmpL, this]
      rcases cmpI_cases (x.toNat : Int) (y.toNat : Int) with ⟨h, e⟩ | ⟨h, e⟩ | ⟨h, e⟩ <;> rw [e]
      · have hx : x < y := by rw [UInt8.lt_iff_toNat_lt]; omega
        simp [hx]
      · have hx : x = y := UInt8.toNat_inj.1 (by omega)
        subst hx
        simp
      · have hx : ¬ x < y := by rw [UInt8.lt_iff_toNat_lt]; omega
        have hne : x ≠ y := fun e => by subst e; omega
        simp [hx, hne]
theorem risesB_snoc2 : ∀ (x : List (List UInt8)) (a b : List UInt8), risesB (x ++ [a, b]) = (risesB (x ++ [a]) && ltB a b) := by
  intro x
  induction x with
  | nil => intro a b; simp [risesB]
  | cons y r ih =>
    intro a b
    cases r with
    | nil => simp [risesB]
    | cons z r => 
      have := ih a b
      simp only [List.cons_append, risesB] at this ⊢
      rw [this, Bool.and_assoc]
theorem risesB_step {l : List (List UInt8)} {j : Nat} (h : j + 1 < l.length) : risesB (l.take (j + 2)) = (risesB (l.take (j + 1)) && ltB l[j] l[j + 1]) := by
  have e1 : l.take (j + 1) = l.take j ++ [l[j]] := List.take_succ_eq_append_getElem (by omega)
  have e2 : l.take (j + 2) = l.take j ++ [l[j], l[j + 1]] := by
    rw [show j + 2 = (j + 1) + 1 from rfl, List.take_succ_eq_append_getElem h, e1, List.append_assoc]; rfl
  rw [e1, e2, risesB_snoc2]
theorem risesB_take {l : List (List UInt8)} (h : risesB l = true) : ∀ j, j ≤ l.length → risesB (l.take j) = true := by
  intro j hj
  obtain ⟨d, hd⟩ : ∃ d, l.length = j + d := ⟨l.length - j, by omega⟩
  induction d generalizing j with
  | zero => rw [List.take_of_length_le (by omega)]; exact h
  | succ d ih =>
    have h1 := ih (j + 1) (by omega) (by omega)
    cases j with
    | zero => simp [risesB]
    | succ j =>
      rw [risesB_step (by omega)] at h1
      exact (Bool.and_eq_true _ _ ▸ h1).1
theorem risesB_low {l : List (List UInt8)} {j : Nat} (h : ¬ 0 < j) : risesB (l.take (j + 1)) = true := by
  obtain rfl : j = 0 := by omega
  cases l with
  | nil => rfl
  | cons a r => simp [risesB]
/-- May a value alone be, as the code tells it? -/
theorem oneV_bare (u : List UInt8 → Bool) (v : V) : oneV u v = (bareF v && u v.text && (!(v.kind == 5) || v.keys.length == v.list.length) && (v.keys.all u && risesB v.keys)) := by
  unfold oneV bareF
  generalize decide (0 ≤ v.kind) = a1
  generalize decide (v.kind ≤ 7) = a2
  generalize bareV v = a3
  generalize (!(v.kind == 6 || v.kind == 7) || decide (0 ≤ v.n)) = a4
  generalize u v.text = a5
  generalize (!(v.kind == 5) || v.keys.length == v.list.length) = a6
  simp only [Bool.and_assoc]
set_option maxRecDepth 100000 in
set_option maxHeartbeats 8000000 in
theorem may_any {v : V} {w : World} {x : Array Value} (hE : Env w) (hx : VRd w v x) : Calls Tryz.prog 86 #[.agg x] w fun e w' => e = .returned (.bool (oneV Lib.validD v)) ∧ Below w.heap.size w w' := by
  have hR := oneV_bare Lib.validD v
  have hT := OneB.start w x
  have hb1 := bare_any (hx.below hT.2)
  have hall : ∀ {W : World}, Below w.heap.size w W → Calls Tryz.prog 73 #[.string (strB v.text)] W fun e w' => e = .returned (.bool (Lib.validD v.text)) ∧ Below W.heap.size W w' := by
    obtain ⟨pk, ck, pl, cl, _, ht, _, _⟩ := hx.open
    exact fun hb => valid_any (hE.b hb) v.text ht
  have hEb : ∀ {W : World}, Below w.heap.size w W → Env W := fun hb => hE.b hb
  obtain ⟨pk, ck, pl, cl, rfl, _, hk1, hl1⟩ := hx.open
  cases v with
  | mk k b n t ks l =>
  simp only [V.kind, V.b, V.n, V.text, V.keys, V.list] at *
  generalize oneV Lib.validD (.mk k b n t ks l) = R at hR ⊢
  generalize bareF (.mk k b n t ks l) = R1 at hR hb1
  have z1 : (ks.length : Int) ≤ 140737488355328 := by have := hk1.1; have := hk1.2.1; omega
  generalize hX : (#[.int .i64 k, .bool b, .int .i64 n, .string (strB t), .slice pk ks.length ck, .slice pl l.length cl] : Array Value) = X at *
  have HT := Lib.hid hT
  have HB := Lib.hid hb1
  have HV := Lib.hid (fun (W : World) (hb : Below w.heap.size w W) => hall hb)
  have HE := Lib.hid (fun (W : World) (hb : Below w.heap.size w W) => hEb hb)
  have HK := Lib.hid hk1
  clear hx hl1 hk1 hT hb1 hall hEb hE
  subst hX
  cases R1
  · have HR := Lib.hid hR
    clear hR
    go_enter Tryz.func86, Tryz.ntmps86
    go_wp2_with (first
      | (go_at_call 114; refine HB.out.mono ?_; rintro e w1 ⟨rfl, hb1⟩; have HT1 := Lib.hid (HT.out.below hb1); clear hb1))
    go_ret
    exact ⟨ret_bool (by rw [HR.out]; rfl), HT1.out.2⟩
  have hV0 := HV.out
  generalize hr2 : Lib.validD t = R2 at hR hV0
  have HV0 := Lib.hid hV0
  clear hV0
  cases R2
  · have HR := Lib.hid hR
    clear hR
    go_enter Tryz.func86, Tryz.ntmps86
    go_wp2_with (first
      | (go_at_call 114; refine HB.out.mono ?_; rintro e w1 ⟨rfl, hb1⟩; have HT1 := Lib.hid (HT.out.below hb1); have p3 := cellOf (o := 3) HT1.out.1 rfl; clear hb1)
      | (go_at_call 73; refine (HV0.out _ HT1.out.2).mono ?_; rintro e w2 ⟨rfl, hb2⟩; have HT2 := Lib.hid (HT1.out.below hb2); clear hb2))
    go_ret
    exact ⟨ret_bool (by rw [HR.out]; rfl), HT2.out.2⟩
  by_cases h5 : k = 5 ∧ ks.length ≠ l.length
  · obtain ⟨rfl, hne⟩ := h5
    have dl : ((ks.length : Int) != (l.length : Int)) = true := by rw [bne_iff_ne]; omega
    have HR := Lib.hid (show R = false by rw [hR, beq_false_of_ne hne]; simp)
    clear hR hne
    go_enter Tryz.func86, Tryz.ntmps86
    go_wp2_with (first
      | (go_at_call 114; refine HB.out.mono ?_; rintro e w1 ⟨rfl, hb1⟩; have HT1 := Lib.hid (HT.out.below hb1); have p3 := cellOf (o := 3) HT1.out.1 rfl; clear hb1)
      | (go_at_call 73; refine (HV0.out _ HT1.out.2).mono ?_; rintro e w2 ⟨rfl, hb2⟩; have HT2 := Lib.hid (HT1.out.below hb2); have p0 := cellOf (o := 0) HT2.out.1 rfl; have p4 := cellOf (o := 4) HT2.out.1 rfl; have p5 := cellOf (o := 5) HT2.out.1 rfl; clear hb2))
    go_ret
    exact ⟨ret_bool HR.out.symm, HT2.out.2⟩
  have hc : (!(k == 5) || ks.length == l.length) = true := by
    by_cases e : k = 5
    · have : ks.length = l.length := Decidable.byContradiction fun h => h5 ⟨e, h⟩
      simp [this]
    · simp [e]
  have HR := Lib.hid (show R = (ks.all Lib.validD && risesB ks) by rw [hR, hc]; simp)
  have hk5 : (k == 5) = false ∨ (k = 5 ∧ ((ks.length : Int) != (l.length : Int)) = false) := by
    by_cases e : k = 5
    · exact .inr ⟨e, by rw [bne_eq_false_iff_eq]; have : ks.length = l.length := Decidable.byContradiction fun h => h5 ⟨e, h⟩; omega⟩
    · exact .inl (by simpa using e)
  clear hR h5 hc hr2
  rcases hk5 with hk5 | ⟨rfl, hk5⟩
  · go_enter Tryz.func86, Tryz.ntmps86
    go_wp2_with (first
      | (go_at_call 114; refine HB.out.mono ?_; rintro e w1 ⟨rfl, hb1⟩; have HT1 := Lib.hid (HT.out.below hb1); have p3 := cellOf (o := 3) HT1.out.1 rfl; clear hb1)
      | (go_at_call 73; refine (HV0.out _ HT1.out.2).mono ?_; rintro e w2 ⟨rfl, hb2⟩; have HT2 := Lib.hid (HT1.out.below hb2); have p0 := cellOf (o := 0) HT2.out.1 rfl; have p4 := cellOf (o := 4) HT2.out.1 rfl; have p5 := cellOf (o := 5) HT2.out.1 rfl; clear hb2))
    go_loopw [31] (fun i W => ∃ j : Nat, j ≤ ks.length ∧ i = .int .i64 (j : Int) ∧ Hid (OneB w W #[.int .i64 k, .bool b, .int .i64 n, .string (strB t), .slice pk ks.length ck, .slice pl l.length cl] ∧ (ks.take j).all Lib.validD = true ∧ risesB (ks.take j) = true)) (fun i _ => ks.length - (intOf i).toNat)
    case atStart => exact ⟨0, Nat.zero_le _, rfl, Lib.hid ⟨HT2.out, rfl, rfl⟩⟩
    case round =>
      obtain ⟨j, hj, rfl, HJ⟩ := hrel
      by_cases hlt : j < ks.length
      · have hlt1 : j + 1 ≤ ks.length := hlt
        have hT := HJ.out.1
        obtain ⟨bk, ok, rfl, q0, hsl⟩ := (HK.out.below hT.2).get hlt
        have hcall := valid_any (HE.out wr hT.2) ks[j] hsl
        generalize hv : Lib.validD ks[j] = vj at hcall
        have hall1 : (ks.take (j + 1)).all Lib.validD = vj := by
          rw [List.take_succ_eq_append_getElem hlt, List.all_append, HJ.out.2.1]; simp [hv]
        cases vj with
        | false =>
          have hRf : R = false := by
            rw [HR.out]
            have : ks.all Lib.validD = false := by
              rw [List.all_eq_false]; exact ⟨ks[j], List.getElem_mem hlt, by simp [hv]⟩
            rw [this]; rfl
          have HC := Lib.hid (And.intro hcall (And.intro hT.2 hRf))
          clear hcall hv hall1 hRf hT
          generalize ks[j] = s1 at *
          go_wp2_with (go_at_call 73; refine HC.out.1.mono ?_; rintro e w3 ⟨rfl, hb3⟩; have HB3 := Lib.hid hb3; clear hb3)
          go_ret
          exact ⟨ret_bool HC.out.2.2.symm, below_trans HC.out.2.1 HB3.out⟩
        | true =>
          by_cases h0 : 0 < j
          case neg =>
            have HC := Lib.hid (And.intro hcall (And.intro hT hall1))
            clear hcall hv hall1 hT
            generalize ks[j] = s1 at *
            go_wp2_with (go_at_call 73; refine HC.out.1.mono ?_; rintro e w3 ⟨rfl, hb3⟩; have HB3 := Lib.hid hb3; clear hb3)
            go_roundw
            case rel => exact ⟨j + 1, hlt1, by go_num, Lib.hid ⟨HC.out.2.1.below HB3.out, HC.out.2.2, risesB_low h0⟩⟩
            case measure => simp [intOf]; omega
          case pos =>
            obtain ⟨m, hm⟩ : ∃ m, j = m + 1 := ⟨j - 1, by omega⟩
            have hmi : (j : Int) - 1 = (m : Int) := by omega
            have hmk : m < ks.length := by omega
            obtain ⟨bk2, ok2, e2, q1, _⟩ := (HK.out.below hT.2).get hmk
            cases e2
            have hstep : risesB (ks.take (j + 1)) = ltB ks[m] ks[j] := by
              have := risesB_step (l := ks) (j := m) (by omega)
              have h2 := HJ.out.2.2
              subst hm
              rw [this, h2, Bool.true_and]
            have hless : Op.bytesLess (strB ks[m]).toList (strB ks[j]).toList = ltB ks[m] ks[j] := by rw [strB_toList, strB_toList]; exact less_eq _ _
            generalize hlb : ltB ks[m] ks[j] = lb at hless hstep
            clear hm
            cases lb with
            | false =>
              have hRf : R = false := by
                rw [HR.out]
                have : risesB ks = false := by
                  cases e : risesB ks with
                  | false => rfl
                  | true => have := risesB_take e (j + 1) hlt1; rw [hstep] at this; cases this
                rw [this]; simp
              have HC := Lib.hid (And.intro hcall (And.intro hT (And.intro hRf q1)))
              clear hcall hv hall1 hT hRf hlb hstep q1
              generalize ks[j] = s1 at *
              generalize ks[m] = s2 at *
              go_wp2_with (go_at_call 73; refine HC.out.1.mono ?_; rintro e w3 ⟨rfl, hb3⟩; have HT3 := Lib.hid (HC.out.2.1.below hb3); have p4 := cellOf (o := 4) HT3.out.1 rfl; have q1 := belowCell hb3 (ltOf HC.out.2.2.2) HC.out.2.2.2; clear hb3)
              go_ret
              exact ⟨ret_bool HC.out.2.2.1.symm, HT3.out.2⟩
            | true =>
              have HC := Lib.hid (And.intro hcall (And.intro hT (And.intro hall1 (And.intro hstep q1))))
              clear hcall hv hall1 hT hlb hstep q1
              generalize ks[j] = s1 at *
              generalize ks[m] = s2 at *
              go_wp2_with (go_at_call 73; refine HC.out.1.mono ?_; rintro e w3 ⟨rfl, hb3⟩; have HT3 := Lib.hid (HC.out.2.1.below hb3); have p4 := cellOf (o := 4) HT3.out.1 rfl; have q1 := belowCell hb3 (ltOf HC.out.2.2.2.2) HC.out.2.2.2.2; clear hb3)
              go_roundw
              case rel => exact ⟨j + 1, hlt1, by go_num, Lib.hid ⟨HT3.out, HC.out.2.2.1, HC.out.2.2.2.1⟩⟩
              case measure => simp [intOf]; omega
      · obtain rfl : j = ks.length := by omega
        have hRt : R = true := by
          have h := HJ.out.2
          rw [List.take_length] at h
          rw [HR.out, h.1, h.2]; rfl
        have HF := Lib.hid (And.intro hRt HJ.out.1.2)
        clear hRt HJ
        go_wp2
        go_ret
        exact ⟨ret_bool HF.out.1.symm, HF.out.2⟩
  · go_enter Tryz.func86, Tryz.ntmps86
    go_wp2_with (first
      | (go_at_call 114; refine HB.out.mono ?_; rintro e w1 ⟨rfl, hb1⟩; have HT1 := Lib.hid (HT.out.below hb1); have p3 := cellOf (o := 3) HT1.out.1 rfl; clear hb1)
      | (go_at_call 73; refine (HV0.out _ HT1.out.2).mono ?_; rintro e w2 ⟨rfl, hb2⟩; have HT2 := Lib.hid (HT1.out.below hb2); have p0 := cellOf (o := 0) HT2.out.1 rfl; have p4 := cellOf (o := 4) HT2.out.1 rfl; have p5 := cellOf (o := 5) HT2.out.1 rfl; clear hb2))
    go_loopw [31] (fun i W => ∃ j : Nat, j ≤ ks.length ∧ i = .int .i64 (j : Int) ∧ Hid (OneB w W #[.int .i64 5, .bool b, .int .i64 n, .string (strB t), .slice pk ks.length ck, .slice pl l.length cl] ∧ (ks.take j).all Lib.validD = true ∧ risesB (ks.take j) = true)) (fun i _ => ks.length - (intOf i).toNat)
    case atStart => exact ⟨0, Nat.zero_le _, rfl, Lib.hid ⟨HT2.out, rfl, rfl⟩⟩
    case round =>
      obtain ⟨j, hj, rfl, HJ⟩ := hrel
      by_cases hlt : j < ks.length
      · have hlt1 : j + 1 ≤ ks.length := hlt
        have hT := HJ.out.1
        obtain ⟨bk, ok, rfl, q0, hsl⟩ := (HK.out.below hT.2).get hlt
        have hcall := valid_any (HE.out wr hT.2) ks[j] hsl
        generalize hv : Lib.validD ks[j] = vj at hcall
        have hall1 : (ks.take (j + 1)).all Lib.validD = vj := by
          rw [List.take_succ_eq_append_getElem hlt, List.all_append, HJ.out.2.1]; simp [hv]
        cases vj with
        | false =>
          have hRf : R = false := by
            rw [HR.out]
            have : ks.all Lib.validD = false := by
              rw [List.all_eq_false]; exact ⟨ks[j], List.getElem_mem hlt, by simp [hv]⟩
            rw [this]; rfl
          have HC := Lib.hid (And.intro hcall (And.intro hT.2 hRf))
          clear hcall hv hall1 hRf hT
          generalize ks[j] = s1 at *
          go_wp2_with (go_at_call 73; refine HC.out.1.mono ?_; rintro e w3 ⟨rfl, hb3⟩; have HB3 := Lib.hid hb3; clear hb3)
          go_ret
          exact ⟨ret_bool HC.out.2.2.symm, below_trans HC.out.2.1 HB3.out⟩
        | true =>
          by_cases h0 : 0 < j
          case neg =>
            have HC := Lib.hid (And.intro hcall (And.intro hT hall1))
            clear hcall hv hall1 hT
            generalize ks[j] = s1 at *
            go_wp2_with (go_at_call 73; refine HC.out.1.mono ?_; rintro e w3 ⟨rfl, hb3⟩; have HB3 := Lib.hid hb3; clear hb3)
            go_roundw
            case rel => exact ⟨j + 1, hlt1, by go_num, Lib.hid ⟨HC.out.2.1.below HB3.out, HC.out.2.2, risesB_low h0⟩⟩
            case measure => simp [intOf]; omega
          case pos =>
            obtain ⟨m, hm⟩ : ∃ m, j = m + 1 := ⟨j - 1, by omega⟩
            have hmi : (j : Int) - 1 = (m : Int) := by omega
            have hmk : m < ks.length := by omega
            obtain ⟨bk2, ok2, e2, q1, _⟩ := (HK.out.below hT.2).get hmk
            cases e2
            have hstep : risesB (ks.take (j + 1)) = ltB ks[m] ks[j] := by
              have := risesB_step (l := ks) (j := m) (by omega)
              have h2 := HJ.out.2.2
              subst hm
              rw [this, h2, Bool.true_and]
            have hless : Op.bytesLess (strB ks[m]).toList (strB ks[j]).toList = ltB ks[m] ks[j] := by rw [strB_toList, strB_toList]; exact less_eq _ _
            generalize hlb : ltB ks[m] ks[j] = lb at hless hstep
            clear hm
            cases lb with
            | false =>
              have hRf : R = false := by
                rw [HR.out]
                have : risesB ks = false := by
                  cases e : risesB ks with
                  | false => rfl
                  | true => have := risesB_take e (j + 1) hlt1; rw [hstep] at this; cases this
                rw [this]; simp
              have HC := Lib.hid (And.intro hcall (And.intro hT (And.intro hRf q1)))
              clear hcall hv hall1 hT hRf hlb hstep q1
              generalize ks[j] = s1 at *
              generalize ks[m] = s2 at *
              go_wp2_with (go_at_call 73; refine HC.out.1.mono ?_; rintro e w3 ⟨rfl, hb3⟩; have HT3 := Lib.hid (HC.out.2.1.below hb3); have p4 := cellOf (o := 4) HT3.out.1 rfl; have q1 := belowCell hb3 (ltOf HC.out.2.2.2) HC.out.2.2.2; clear hb3)
              go_ret
              exact ⟨ret_bool HC.out.2.2.1.symm, HT3.out.2⟩
            | true =>
              have HC := Lib.hid (And.intro hcall (And.intro hT (And.intro hall1 (And.intro hstep q1))))
              clear hcall hv hall1 hT hlb hstep q1
              generalize ks[j] = s1 at *
              generalize ks[m] = s2 at *
              go_wp2_with (go_at_call 73; refine HC.out.1.mono ?_; rintro e w3 ⟨rfl, hb3⟩; have HT3 := Lib.hid (HC.out.2.1.below hb3); have p4 := cellOf (o := 4) HT3.out.1 rfl; have q1 := belowCell hb3 (ltOf HC.out.2.2.2.2) HC.out.2.2.2.2; clear hb3)
              go_roundw
              case rel => exact ⟨j + 1, hlt1, by go_num, Lib.hid ⟨HT3.out, HC.out.2.2.1, HC.out.2.2.2.1⟩⟩
              case measure => simp [intOf]; omega
      · obtain rfl : j = ks.length := by omega
        have hRt : R = true := by
          have h := HJ.out.2
          rw [List.take_length] at h
          rw [HR.out, h.1, h.2]; rfl
        have HF := Lib.hid (And.intro hRt HJ.out.1.2)
        clear hRt HJ
        go_wp2
        go_ret
        exact ⟨ret_bool HF.out.1.symm, HF.out.2⟩
end Go.Proofs.YtnkaegdnjfpliaaGreatDoor
