/- DiskCrash's walk. Printed by gen_dcr.py. -/
import Derived.Test.YtmgajgeoibbmjaaDcr
namespace Go.Proofs.Ytmgajgeoibbmjaa
open Go.RowKit

theorem strs_shape {V : World} {v : Value} {l : List (List UInt8)} (hr : V.ownsRow 0 9 1 v l.length (l.map strV)) : ∃ p c, v = .slice p l.length c ∧ ∀ (j : Nat) (u : List UInt8), l[j]? = some u → ∃ g, p = some ⟨g, 0, none⟩ ∧ V.cell? ⟨g, j, none⟩ = some (.string (strB u)) := by
  rcases hr.2 with ⟨rfl, h0⟩ | ⟨g, cap, cur, rfl, _⟩
  · refine ⟨none, 0, by rw [h0], fun j u hu => ?_⟩
    rw [List.length_eq_zero_iff.1 h0] at hu; simp at hu
  · refine ⟨some ⟨g, 0, none⟩, cap, rfl, fun j u hu => ⟨g, rfl, ?_⟩⟩
    have := hr.cells (g := g) rfl j (strV u) (by simp [hu])
    rw [addr_add, Nat.zero_add] at this; exact this
theorem exec_binp {P : Program} {a : Act} {w : World} {o : Oper} {op : BinOp} {t t' : TypeId} {x y : Operand} {p q : Option Addr} {v : Value} (ho : o.op = .binOp op t x y t') (hx : a.eval x = .pointer p) (hy : a.eval y = .pointer q)
    (hr : (binOp op t (.pointer p) (.pointer q)).run P w = .ok v w) : (execOp a.eval o).run P w = .ok (.value v) w := by
  unfold execOp; rw [ho]; simp only [hx, hy]
  have e : eqGuard op t x y (.pointer p) (.pointer q) = pure () := by unfold eqGuard; cases op <;> rfl
  simp only [e, Sem.run_bind, Sem.run_pure, Result.andThen_ok, hr]

set_option maxRecDepth 100000 in
set_option maxHeartbeats 8000000 in
theorem dcrash_main (n t : Nat) (v1 : Value) (s1 : List StpM) (w : World) (hs1 : ScrAt w v1 s1) (hv1 : vastD (n : Int) (s1.map StpM.sz) = false) (hn1 : 1 ≤ n) (hn8 : n ≤ 8) (ht : t < n) (hl1 : s1.length ≤ 25)
    (hb1 : ∀ s ∈ s1, s.bs.length ≤ 2048 ∧ s.ks.length ≤ 30) :
    Calls Try.prog 3 #[.int .i64 (n : Int), v1, .int .i64 (t : Int)] w fun e w' => e = .returned (.bool true) ∧ Below w.heap.size w w' := by
  have hvv1 := vast_any n v1 _ w hs1.steps
  rw [hv1] at hvv1
  have Hs1 := Lib.hid hs1
  obtain ⟨a1, c1, rfl, _⟩ := hs1
  have Hv1 := Lib.hid hvv1
  have Hk := Lib.hid known_any
  have HN1 := Lib.hid (Dd.new n hn1 (by omega) w)
  have HR := Lib.hid (fun w => refNew_any n hn1 (by omega) w)
  have k1 : decide ((n : Int) < 1) = false := by simp; omega
  have k2 : decide ((n : Int) > 65536) = false := by simp; omega
  have k3 : decide ((t : Int) < 0) = false := by simp
  have k4 : decide ((t : Int) ≥ (n : Int)) = false := by simp; omega
  have HB1 := Lib.hid hb1
  have hl1I : (s1.length : Int) ≤ 25 := by omega
  clear hvv1 hv1 hb1
  go_enter Try.func3, Try.ntmps3
  go_wp2_with (first
    | (go_at_call 6; ((with_reducible refine Hv1.out.mono ?_); rintro e w1 ⟨rfl, rfl⟩; clear Hv1))
    | (go_at_call 8; ((with_reducible refine HN1.out.mono ?_); rintro e w1 ⟨rfl, hd1, hbw1⟩; have HD1 := Lib.hid (And.intro hd1 hbw1); have HR1 := Lib.hid (HR.out w1); clear hd1 hbw1 HN1))
    | (go_at_call 9; ((with_reducible refine HR1.out.mono ?_); rintro e w3 ⟨_, rfl, ⟨L, cL, S, cS, Q, cQ, rfl, hr3⟩, hbw3⟩; have HD3 := Lib.hid (And.intro hr3 hbw3); clear hr3 hbw3 HR1)))
  have hI0 := one_start HD1.out.1 HD1.out.2 HD3.out.1 HD3.out.2
  have HI := Lib.hid hI0
  clear hI0
  generalize w3.alloc _ = W5 at *
  generalize w.heap.size + 4 = a at *
  generalize w3.heap.size = r at *
  clear HD1 HD3 HR
  go_loopw [10] (fun i wr => ∃ k : Nat, k ≤ s1.length ∧ i = .int .i64 (k : Int) ∧ OneI w wr n k a r) (fun i _ => s1.length - (intOf i).toNat)
  case atStart => exact ⟨0, Nat.zero_le _, rfl, HI.out⟩
  case round =>
    obtain ⟨k, hk, rfl, hI⟩ := hrel
    by_cases hlt : k < s1.length
    · have hlt2 : k + 1 ≤ s1.length := hlt
      obtain ⟨_, _, heq, hnil, hcw⟩ := Hs1.out
      cases heq
      obtain ⟨ad, rfl⟩ : ∃ ad, a1 = some ad := by
        cases a1 with
        | none => have := hnil rfl; rw [this] at hlt; simp at hlt
        | some ad => exact ⟨ad, rfl⟩
      obtain ⟨hspot, hcw⟩ := hcw ad rfl
      obtain ⟨ab, ao, asp⟩ := ad
      simp only at hspot
      subst hspot
      obtain ⟨_, _, _, _, _, hrb, hri, hq0⟩ := hcw k s1[k] (by simp [hlt])
      obtain ⟨_, _, heq, _, hcs⟩ := Hs1.out.below hI.below
      cases heq
      obtain ⟨j0, j1, j2, j3, j4, _⟩ := (hcs _ rfl).2 k s1[k] (by simp [hlt])
      have hmem := HB1.out s1[k] (List.getElem_mem hlt)
      generalize s1[k] = st at *
      have hD := hI.does (by omega) st hrb hri hq0 (by omega) (by omega)
      obtain ⟨kd, at_, num, q2, m2, d2, q, m, d1, bs, ks⟩ := st
      simp only at j0 j1 j2 j3 j4 hD
      have HD := Lib.hid hD
      have HIb := Lib.hid hI.below
      by_cases h4 : kd > 4
      · have e4 : decide (kd > 4) = true := by simpa using h4
        clear hnil hcw hcs hrb hri hq0 hmem hD hI h4
        go_wp2_with (go_at_call 7; refine (Hk.out _).mono ?_; rintro e w7 ⟨rfl, hb⟩; have HB := Lib.hid hb; clear hb)
        go_ret
        exact ⟨rfl, HIb.out.trans (HB.out.mono HIb.out.size)⟩
      · have e4 : decide (kd > 4) = false := by simpa using h4
        clear hnil hcw hcs hrb hri hq0 hmem hD hI h4
        go_wp2_with (go_at_call 10; refine HD.out.mono ?_; rintro e w7 ⟨rfl, hI7⟩; have H7 := Lib.hid hI7; clear hI7)
        go_roundw
        case rel => exact ⟨k + 1, by omega, by go_num, H7.out⟩
        case measure => simp [intOf]; omega
    · obtain rfl : k = s1.length := by omega
      clear hk
      obtain ⟨d, F, N, G, hP, hG, hsz, hst, hF, hN, hbw⟩ := hI
      obtain ⟨⟨F1, R1, hd, ⟨X, L, cL, S, cS, Q, cQ, qs, hr⟩, hdis, hfg⟩, hGlt, hfb⟩ := hP
      subst hsz
      have HR := Lib.hid hr
      have HD := Lib.hid (And.intro hd (And.intro (fun b hb => hGlt b (hfg b (.inl hb)) : ∀ b, F1 b → b < wr.heap.size) (And.intro hbw hst)))
      have m2 := cellOf (o := 2) hr.box rfl
      clear hd hdis hfg hGlt hfb hG hF hN hr hbw hst HI
      go_wp2
      go_loop [11, 12] (fun c i => ∃ k : Nat, k ≤ t ∧ i = .int .i64 (k : Int) ∧ c = .int .i64 (cntS d k : Int)) (fun _ i => t - (intOf i).toNat)
      case atStart => exact ⟨0, Nat.zero_le _, rfl, rfl⟩
      case round =>
        obtain ⟨k, hk, rfl, rfl⟩ := hrel
        have hcl : cntS d k ≤ 8 := by have := cntS_le d k; omega
        by_cases hlt : k < t
        · have hlt2 : k + 1 ≤ t := hlt
          have hkd : k < d.size := by omega
          obtain ⟨q, hq1, hq2⟩ := HR.out.at k hkd
          have r1 := (HR.out.each k q hq1).1
          obtain ⟨p, cc, rfl, _⟩ := strs_shape r1
          have hsu := cntS_succ d k
          clear hq1 r1
          cases hS : d.since (k : Int) with
          | none =>
            have e : cntS d (k + 1) = cntS d k := by rw [hsu, hS]; rfl
            have e4 : ¬ 0 < ((d.since (k : Int)).getD []).length := by rw [hS]; simp
            have HE := Lib.hid e
            clear hsu hS e
            go_wp2
            go_round
            case rel => exact ⟨k + 1, by omega, by go_num, by rw [HE.out]⟩
            case measure => simp [intOf]; omega
          | some ls =>
            have e : cntS d (k + 1) = cntS d k + 1 := by rw [hsu, hS]; rfl
            have hl := (HD.out.1.1.since _ ls hS).2.2.1
            have e4 : 0 < ((d.since (k : Int)).getD []).length := by rw [hS]; simp; omega
            have HE := Lib.hid e
            clear hsu hS e hl
            go_wp2
            go_round
            case rel => exact ⟨k + 1, by omega, by go_num, by rw [HE.out]; go_num⟩
            case measure => simp [intOf]; omega
        · obtain rfl : k = t := by omega
          have htd : k < d.size := by omega
          obtain ⟨q, hq1, hq2⟩ := HR.out.at k htd
          have r1 := (HR.out.each k q hq1).1
          obtain ⟨p, cc, rfl, _⟩ := strs_shape r1
          have b2 := HR.out.lastAt k htd
          have b2 : wr.cell? ⟨L, k, none⟩ = some (.string (strB ((d.lasting (k : Int)).getD zblk))) := b2
          have b0 := HR.out.box
          have hlaw : ∀ (i : Nat) (hi : i < (could d k).length), blkAt (d.crash (picksL (cntS d k) i)) k = (could d k)[i] := fun i hi => crash_at htd i hi
          have hfew : ((d.since (k : Int)).getD []).length ≤ 100 := by
            cases e : d.since (k : Int) with
            | none => simp
            | some l => have := (HD.out.1.1.since _ l e).2.2.2.1; have := HD.out.2.2.2; simp only [Option.getD_some]; omega
          have hcd : could d k = [(d.lasting (k : Int)).getD zblk] ++ (d.since (k : Int)).getD [] := rfl
          have HL := Lib.hid (And.intro hlaw (And.intro hcd (And.intro r1 (And.intro b2 (And.intro b0 hq2)))))
          generalize cntS d k = c at *
          clear hlaw hcd r1 b2 b0 hq1 hq2 hk
          go_wp2
          obtain ⟨hlaw, hcd, r1, b2, b0, hq2⟩ := HL.out
          have hf0 : ∀ W : World, (Instr.fieldAt 33 (.pointer (some ⟨r, 0, none⟩)) 0).run Try.prog W = .ok (.pointer (some ⟨r, 0, none⟩)) W := by intro W; simp [go_sem]
          have hf2 : ∀ W : World, (Instr.fieldAt 33 (.pointer (some ⟨r, 0, none⟩)) 2).run Try.prog W = .ok (.pointer (some ⟨r, 2, none⟩)) W := by intro W; simp [go_sem]
          have hix : ∀ (b c n : Nat), k < n → ∀ W : World, (Instr.indexAt 29 (.slice (some ⟨b, 0, none⟩) n c) (.int .i64 (k : Int))).run Try.prog W = .ok (.pointer (some ⟨b, k, none⟩)) W := fun b c n hn W => by
            have h1 : 0 ≤ (k : Int) := by omega
            simp [go_sem, hn, addr_add]
          have hiq : ∀ (b c n : Nat), k < n → ∀ W : World, (Instr.indexAt 30 (.slice (some ⟨b, 0, none⟩) n c) (.int .i64 (k : Int))).run Try.prog W = .ok (.pointer (some ⟨b, k, none⟩)) W := fun b c n hn W => by
            have h1 : 0 ≤ (k : Int) := by omega
            simp [go_sem, hn, addr_add]
          have hU00 : Below wr.heap.size wr wr.drew := (Below.refl _ _).drew
          have hbs := run_buildSlice_one (P := Try.prog) (w := wr.drew) (v := .string (strB ((d.lasting (k : Int)).getD zblk))) Try.underlying29 Try.sizeOf9 Try.zeroValue9 rfl (by omega) (by omega)
          have hbA : Below wr.heap.size wr (wr.drew.alloc (.cells #[.string (strB ((d.lasting (k : Int)).getD zblk))] 9)) := hU00.alloc (Nat.le_refl _) _
          have hrowA : (wr.drew.alloc (.cells #[.string (strB ((d.lasting (k : Int)).getD zblk))] 9)).ownsRow 0 9 1 (.slice (some ⟨wr.drew.heap.size, 0, none⟩) 1 1) 1 [strV ((d.lasting (k : Int)).getD zblk)] :=
            ownsRow_of_heap (heap_alloc_new _ _) (Nat.le_refl _) (by unfold maxLen; omega) rfl rfl rfl
          obtain ⟨v', w2, happ, hown, hT2⟩ := append_strs hrowA (ownsRow_heap r1 fun b hb => hbA.block b (r1.lt b hb).2) (by intro u hu; simp only [List.mem_map] at hu; obtain ⟨x, _, rfl⟩ := hu; rfl) (by omega) 29
          have hb2 : Below wr.heap.size wr w2 := hT2.below hbA (fun b hb e => by simp only [Value.ownBlock, Option.some.injEq] at e; have : wr.drew.heap.size = wr.heap.size := rfl; omega) hbA.size
          have e1 : 1 + ((d.since (k : Int)).getD []).length = (could d k).length := by rw [hcd]; simp; omega
          have e2 : [strV ((d.lasting (k : Int)).getD zblk)] ++ ((d.since (k : Int)).getD []).map strV = (could d k).map strV := by rw [hcd]; simp
          rw [e1, e2] at hown
          obtain ⟨pc, ccap, rfl, hcc⟩ := strs_shape hown
          obtain ⟨gc, rfl, _⟩ := hcc 0 ((d.lasting (k : Int)).getD zblk) (by rw [hcd]; rfl)
          refine plain_region_draws (fun W => Below wr.heap.size wr W) (by kernel_rfl) hU00 (fun hU0 => ?_)
          refine take 0 100 (v := .pointer (some ⟨r, 0, none⟩)) rfl rfl (by kernel_rfl) (by kernel_rfl) (by kernel_rfl) rfl (fun W hW => exec_fieldAddr rfl rfl (hf0 W)) (by assumption) ?_
          simp only [Act.put, List.setIfInBounds_toArray, List.set_cons_zero, List.set_cons_succ]
          refine take 1 101 (v := .slice (some ⟨L, 0, none⟩) d.size cL) rfl rfl (by kernel_rfl) (by kernel_rfl) (by kernel_rfl) rfl (fun W hW => exec_load rfl rfl (run_load1 (w := W) Try.underlying29 rfl (cellOf (belowBlk hW (Array.getElem?_eq_some_iff.1 b0).1 b0) rfl))) (by assumption) ?_
          simp only [Act.put, List.setIfInBounds_toArray, List.set_cons_zero, List.set_cons_succ]
          refine take 2 102 (v := .int .i64 (k : Int)) rfl rfl (by kernel_rfl) (by kernel_rfl) (by kernel_rfl) rfl (fun W hW => exec_move rfl rfl) (by assumption) ?_
          simp only [Act.put, List.setIfInBounds_toArray, List.set_cons_zero, List.set_cons_succ]
          refine take 3 103 (v := .pointer (some ⟨L, k, none⟩)) rfl rfl (by kernel_rfl) (by kernel_rfl) (by kernel_rfl) rfl (fun W hW => exec_indexAddr rfl rfl rfl (hix _ _ _ htd W)) (by assumption) ?_
          simp only [Act.put, List.setIfInBounds_toArray, List.set_cons_zero, List.set_cons_succ]
          refine take 4 104 (v := .string (strB ((d.lasting (k : Int)).getD zblk))) rfl rfl (by kernel_rfl) (by kernel_rfl) (by kernel_rfl) rfl (fun W hW => exec_load rfl rfl (run_load1 (w := W) Try.underlying9 rfl (belowCell hW (ltOf b2) b2))) (by assumption) ?_
          simp only [Act.put, List.setIfInBounds_toArray, List.set_cons_zero, List.set_cons_succ]
          refine take 6 106 (v := .pointer (some ⟨r, 2, none⟩)) rfl rfl (by kernel_rfl) (by kernel_rfl) (by kernel_rfl) rfl (fun W hW => exec_fieldAddr rfl rfl (hf2 W)) (by assumption) ?_
          simp only [Act.put, List.setIfInBounds_toArray, List.set_cons_zero, List.set_cons_succ]
          refine take 7 107 (v := .slice (some ⟨Q, 0, none⟩) d.size cQ) rfl rfl (by kernel_rfl) (by kernel_rfl) (by kernel_rfl) rfl (fun W hW => exec_load rfl rfl (run_load1 (w := W) Try.underlying30 rfl (cellOf (belowBlk hW (Array.getElem?_eq_some_iff.1 b0).1 b0) rfl))) (by assumption) ?_
          simp only [Act.put, List.setIfInBounds_toArray, List.set_cons_zero, List.set_cons_succ]
          refine take 8 108 (v := .int .i64 (k : Int)) rfl rfl (by kernel_rfl) (by kernel_rfl) (by kernel_rfl) rfl (fun W hW => exec_move rfl rfl) (by assumption) ?_
          simp only [Act.put, List.setIfInBounds_toArray, List.set_cons_zero, List.set_cons_succ]
          refine take 9 109 (v := .pointer (some ⟨Q, k, none⟩)) rfl rfl (by kernel_rfl) (by kernel_rfl) (by kernel_rfl) rfl (fun W hW => exec_indexAddr rfl rfl rfl (hiq _ _ _ htd W)) (by assumption) ?_
          simp only [Act.put, List.setIfInBounds_toArray, List.set_cons_zero, List.set_cons_succ]
          refine take 10 110 (v := .slice p ((d.since (k : Int)).getD []).length cc) rfl rfl (by kernel_rfl) (by kernel_rfl) (by kernel_rfl) rfl (fun W hW => exec_load rfl rfl (run_load1 (w := W) Try.underlying29 rfl (belowCell hW (ltOf hq2) hq2))) (by assumption) ?_
          simp only [Act.put, List.setIfInBounds_toArray, List.set_cons_zero, List.set_cons_succ]
          refine onlyRun 5 105 (v := .slice (some ⟨wr.drew.heap.size, 0, none⟩) 1 1) rfl rfl (by kernel_rfl) rfl (exec_buildSlice1 rfl rfl hbs) (.inr hbA) ?_
          simp only [Act.put, List.setIfInBounds_toArray, List.set_cons_zero, List.set_cons_succ]
          refine onlyRun 11 111 (v := .slice (some ⟨gc, 0, none⟩) (could d k).length ccap) rfl rfl (by kernel_rfl) rfl (exec_append rfl rfl rfl happ) (.inr hb2) ?_
          simp only [Act.put, List.setIfInBounds_toArray, List.set_cons_zero, List.set_cons_succ]
          refine take 12 13 (v := .slice (some ⟨gc, 0, none⟩) (could d k).length ccap) rfl rfl (by kernel_rfl) (by kernel_rfl) (by kernel_rfl) rfl (fun W hW => exec_assign rfl rfl) (by assumption) ?_
          simp only [Act.put, List.setIfInBounds_toArray, List.set_cons_zero, List.set_cons_succ]
          refine done (by kernel_rfl) ?_ _
          have hcl2 : (could d k).length ≤ 101 := by omega
          have HF := Lib.hid (And.intro hlaw (And.intro (HD.out.1.below hb2) (And.intro (fun b hb => Nat.lt_of_lt_of_le (HD.out.2.1 b hb) hb2.size : ∀ b, F1 b → b < w2.heap.size) (And.intro (HD.out.2.2.1.trans (hb2.mono HD.out.2.2.1.size)) hcc))))
          have hds : d.steps ≤ 100 := by have := HD.out.2.2.2; omega
          have hst : d.size ≤ 8 := hn8
          generalize could d k = cl at *
          clear hlaw hcd r1 b2 b0 hq2 hf0 hf2 hix hiq hU00 hbs hbA hrowA happ hown hT2 hb2 e1 e2 hU0 HL hcc HD HR m2
          go_wp2
          go_loopw [14] (fun i W => ∃ j : Nat, j ≤ cl.length ∧ i = .int .i64 (j : Int) ∧ Below w2.heap.size w2 W) (fun i _ => cl.length - (intOf i).toNat)
          case atStart => exact ⟨0, Nat.zero_le _, rfl, Below.refl _ _⟩
          case round =>
            obtain ⟨j, hj, rfl, hb⟩ := hrel
            by_cases hlt : j < cl.length
            · have hlt3 : j + 1 ≤ cl.length := hlt
              obtain ⟨hlaw, hdk, hF1, hbw, hcc⟩ := HF.out
              obtain ⟨W1, hmk, hrow, hb1⟩ := make_intz (c + 1) (by omega) wr
              have e : ((c + 1 : Nat) : Int) = (c : Int) + 1 := by omega
              rw [e] at hmk
              have hpk := picks_made (i := j) hrow
              have hcell : W1.cell? ⟨wr.heap.size, c, none⟩ = some (.int .i64 0) := hrow.cell (by simp)
              have hfree : W1.frozen? ⟨wr.heap.size, c, none⟩ = false := hrow.free c
              have hbs : Below wr.heap.size wr (W1.setCell ⟨wr.heap.size, c, none⟩ (.int .i64 (j : Int))) := belowSet hb1 (Nat.le_refl _) _
              have HC := Lib.hid (crash_ok ((hdk.below hb).below hbs) (fun b hb' => Nat.lt_of_lt_of_le (hF1 b hb') (Nat.le_trans hb.size hbs.size)) _ (c + 1) (c + 1) (picksL c j) hpk (Nat.le_refl _) (by rw [picksL_length]; omega) (picksL_neg c j) (by omega))
              have Hmk := Lib.hid hmk
              obtain ⟨g0, heq, hcj⟩ := hcc j cl[j] (List.getElem?_eq_getElem hlt)
              obtain rfl : gc = g0 := by cases heq; rfl
              have HJ := Lib.hid (And.intro (hlaw j hlt) hcj)
              have H1 := Lib.hid (And.intro hb hbs)
              have hkd : k + 1 ≤ d.size := htd
              clear hlaw hdk hF1 hbw hcc hmk hrow hb1 e hpk hbs hcj hb heq
              go_wp2_with (first
                | (refine wpList_run rfl (exec_makeSlice rfl rfl rfl Hmk.out) ?_)
                | (go_at_call 11; ((with_reducible refine HC.out.mono ?_); rintro e w4 ⟨o, rfl, ho4, hb4⟩)
                   have HRd := Lib.hid (read_ok ho4 k 1 hkd)
                   have H4 := Lib.hid (And.intro ho4 (H1.out.2.trans (hb4.mono H1.out.2.size)))
                   clear ho4 hb4 HC)
                | (go_at_call 12; refine HRd.out.mono ?_; rintro e w5 ⟨vb, rfl, hown5, hb5, _⟩
                   obtain ⟨pb, cb, rfl⟩ := hown5.shape
                   have ho5 := H4.out.1.below hb5
                   have hbo : Below w5.heap.size w5 (w5.alloc (.cells #[.int .i64 1, .int .i64 1, .int .i64 1, .int .i64 1, .int .i64 1, .int .i64 1, .int .i64 1, .int .i64 1] 3)) := (Below.refl _ _).alloc (Nat.le_refl _) _
                   have HC2 := Lib.hid (crash_ok ((ho5.below hbo).cap) (fun b hb => hb.2) _ 8 8 ones8 (ones_made w5) (Nat.le_refl _) (by show 8 ≤ 1000000; omega) rfl (by show 0 < 1073741824; omega))
                   have H5 := Lib.hid (And.intro hown5.rd (And.intro ho5 (And.intro (H4.out.2.trans (hb5.mono H4.out.2.size)) hbo)))
                   clear hown5 hb5 ho5 hbo HRd H4)
                | (go_at_call 11; ((with_reducible refine HC2.out.mono ?_); rintro e w6 ⟨o2, rfl, ho6, hb6⟩)
                   rw [crash_crash] at ho6
                   have H6 := Lib.hid (And.intro ho6 (H5.out.2.2.2.trans (hb6.mono H5.out.2.2.2.size)))
                   clear ho6 hb6 HC2))
              obtain ⟨hrd5, ho5, hb5, _⟩ := H5.out
              obtain ⟨ho6, hb56⟩ := H6.out
              obtain ⟨hjl, hcj⟩ := HJ.out
              have hneq : decide (readB (d.crash (picksL c j)) k 1 ≠ cl[j]) = false := by rw [readB_one, hjl]; simp
              have hn1 : ∀ W, (binOp .neq 9 (.string (strB (readB (d.crash (picksL c j)) k 1))) (.string (strB cl[j]))).run Try.prog W = .ok (.bool false) W := fun W => hneq ▸ run_nes _ _ W
              have hn0 : ∀ W : World, (binOp .neq 26 (.int .i64 0) (.int .i64 0)).run Try.prog W = .ok (.bool false) W := by intro W; simp [go_sem]
              have hnp : ∀ W : World, (binOp .eql 25 (.pointer (some ⟨o2, 0, none⟩)) (.pointer none)).run Try.prog W = .ok (.bool false) W := by intro W; simp [go_sem]
              have hij : ∀ W : World, (Instr.indexAt 29 (.slice (some ⟨gc, 0, none⟩) cl.length ccap) (.int .i64 (j : Int))).run Try.prog W = .ok (.pointer (some ⟨gc, j, none⟩)) W := fun W => by
                have h1 : 0 ≤ (j : Int) := by omega
                simp [go_sem, hlt, addr_add]
              have hfewc : FewF (d.crash (picksL c j)) := ⟨[], by simp, fun k hk => by cases hk⟩
              have hsame : ∀ W, Below w6.heap.size w6 W → Calls Try.prog 13 #[.pointer (some ⟨o2, 0, none⟩), .pointer (some ⟨o, 0, none⟩)] W (fun e w' => e = .returned (.bool true) ∧ Below W.heap.size W w') := fun W g => by
                have h := same_any (ho6.below g) ((ho5.below hb56).below g) (by show 0 ≤ 100000; omega) (by show 0 ≤ 100000; omega) hfewc hfewc
                rw [sameB_refl] at h
                exact h
              have hb26 : Below w2.heap.size w2 w6 := H1.out.1.trans ((hb5.trans (hb56.mono hb5.size)).mono H1.out.1.size)
              have hc6 := belowCell hb26 (ltOf hcj) hcj
              have hr6 := hrd5.below hb56
              have hU00 : Below w6.heap.size w6 w6.drew := (Below.refl _ _).drew
              generalize readB (d.crash (picksL c j)) k 1 = bl at *
              generalize cl[j] = cj at *
              refine plain_region_draws (fun W => Below w6.heap.size w6 W) (by kernel_rfl) hU00 (fun hU0 => ?_)
              refine take 0 149 (v := .int .i64 0) rfl rfl (by kernel_rfl) (by kernel_rfl) (by kernel_rfl) rfl (fun W hW => exec_move rfl rfl) (by assumption) ?_
              simp only [Act.put, List.setIfInBounds_toArray, List.set_cons_zero, List.set_cons_succ]
              refine take 1 150 (v := .bool false) rfl rfl (by kernel_rfl) (by kernel_rfl) (by kernel_rfl) rfl (fun W hW => exec_bini rfl rfl rfl (hn0 W)) (by assumption) ?_
              simp only [Act.put, List.setIfInBounds_toArray, List.set_cons_zero, List.set_cons_succ]
              refine take 2 151 (v := .bool false) rfl rfl (by kernel_rfl) (by kernel_rfl) (by kernel_rfl) rfl (fun W hW => exec_move rfl rfl) (by assumption) ?_
              simp only [Act.put, List.setIfInBounds_toArray, List.set_cons_zero, List.set_cons_succ]
              refine take 3 152 (v := .slice pb bl.length cb) rfl rfl (by kernel_rfl) (by kernel_rfl) (by kernel_rfl) rfl (fun W hW => exec_move rfl rfl) (by assumption) ?_
              simp only [Act.put, List.setIfInBounds_toArray, List.set_cons_zero, List.set_cons_succ]
              refine take 4 153 (v := .string (strB bl)) rfl rfl (by kernel_rfl) (by kernel_rfl) (by kernel_rfl) rfl (fun W hW => exec_convert rfl rfl (run_str (hr6.below hW))) (by assumption) ?_
              simp only [Act.put, List.setIfInBounds_toArray, List.set_cons_zero, List.set_cons_succ]
              refine take 5 154 (v := .slice (some ⟨gc, 0, none⟩) cl.length ccap) rfl rfl (by kernel_rfl) (by kernel_rfl) (by kernel_rfl) rfl (fun W hW => exec_move rfl rfl) (by assumption) ?_
              simp only [Act.put, List.setIfInBounds_toArray, List.set_cons_zero, List.set_cons_succ]
              refine take 6 155 (v := .int .i64 (j : Int)) rfl rfl (by kernel_rfl) (by kernel_rfl) (by kernel_rfl) rfl (fun W hW => exec_move rfl rfl) (by assumption) ?_
              simp only [Act.put, List.setIfInBounds_toArray, List.set_cons_zero, List.set_cons_succ]
              refine take 7 156 (v := .pointer (some ⟨gc, j, none⟩)) rfl rfl (by kernel_rfl) (by kernel_rfl) (by kernel_rfl) rfl (fun W hW => exec_indexAddr rfl rfl rfl (hij W)) (by assumption) ?_
              simp only [Act.put, List.setIfInBounds_toArray, List.set_cons_zero, List.set_cons_succ]
              refine take 8 157 (v := .string (strB cj)) rfl rfl (by kernel_rfl) (by kernel_rfl) (by kernel_rfl) rfl (fun W hW => exec_load rfl rfl (run_load1 (w := W) Try.underlying9 rfl (belowCell hW (ltOf hc6) hc6))) (by assumption) ?_
              simp only [Act.put, List.setIfInBounds_toArray, List.set_cons_zero, List.set_cons_succ]
              refine take 9 158 (v := .bool false) rfl rfl (by kernel_rfl) (by kernel_rfl) (by kernel_rfl) rfl (fun W hW => exec_bins rfl rfl rfl (hn1 W)) (by assumption) ?_
              simp only [Act.put, List.setIfInBounds_toArray, List.set_cons_zero, List.set_cons_succ]
              refine take 10 159 (v := .bool false) rfl rfl (by kernel_rfl) (by kernel_rfl) (by kernel_rfl) rfl (fun W hW => rfl) (by assumption) ?_
              simp only [Act.put, List.setIfInBounds_toArray, List.set_cons_zero, List.set_cons_succ]
              refine take 11 160 (v := .bool false) rfl rfl (by kernel_rfl) (by kernel_rfl) (by kernel_rfl) rfl (fun W hW => exec_move rfl rfl) (by assumption) ?_
              simp only [Act.put, List.setIfInBounds_toArray, List.set_cons_zero, List.set_cons_succ]
              refine take 12 161 (v := .int .i64 0) rfl rfl (by kernel_rfl) (by kernel_rfl) (by kernel_rfl) rfl (fun W hW => exec_move rfl rfl) (by assumption) ?_
              simp only [Act.put, List.setIfInBounds_toArray, List.set_cons_zero, List.set_cons_succ]
              refine take 13 162 (v := .bool false) rfl rfl (by kernel_rfl) (by kernel_rfl) (by kernel_rfl) rfl (fun W hW => exec_bini rfl rfl rfl (hn0 W)) (by assumption) ?_
              simp only [Act.put, List.setIfInBounds_toArray, List.set_cons_zero, List.set_cons_succ]
              refine take 14 163 (v := .bool false) rfl rfl (by kernel_rfl) (by kernel_rfl) (by kernel_rfl) rfl (fun W hW => rfl) (by assumption) ?_
              simp only [Act.put, List.setIfInBounds_toArray, List.set_cons_zero, List.set_cons_succ]
              refine take 15 164 (v := .bool false) rfl rfl (by kernel_rfl) (by kernel_rfl) (by kernel_rfl) rfl (fun W hW => exec_move rfl rfl) (by assumption) ?_
              simp only [Act.put, List.setIfInBounds_toArray, List.set_cons_zero, List.set_cons_succ]
              refine take 16 165 (v := .pointer (some ⟨o2, 0, none⟩)) rfl rfl (by kernel_rfl) (by kernel_rfl) (by kernel_rfl) rfl (fun W hW => exec_move rfl rfl) (by assumption) ?_
              simp only [Act.put, List.setIfInBounds_toArray, List.set_cons_zero, List.set_cons_succ]
              refine take 17 166 (v := .bool false) rfl rfl (by kernel_rfl) (by kernel_rfl) (by kernel_rfl) rfl (fun W hW => exec_binp rfl rfl rfl (hnp W)) (by assumption) ?_
              simp only [Act.put, List.setIfInBounds_toArray, List.set_cons_zero, List.set_cons_succ]
              refine take 18 167 (v := .bool false) rfl rfl (by kernel_rfl) (by kernel_rfl) (by kernel_rfl) rfl (fun W hW => rfl) (by assumption) ?_
              simp only [Act.put, List.setIfInBounds_toArray, List.set_cons_zero, List.set_cons_succ]
              refine take 19 168 (v := .bool false) rfl rfl (by kernel_rfl) (by kernel_rfl) (by kernel_rfl) rfl (fun W hW => exec_move rfl rfl) (by assumption) ?_
              simp only [Act.put, List.setIfInBounds_toArray, List.set_cons_zero, List.set_cons_succ]
              refine take 20 169 (v := .pointer (some ⟨o2, 0, none⟩)) rfl rfl (by kernel_rfl) (by kernel_rfl) (by kernel_rfl) rfl (fun W hW => exec_move rfl rfl) (by assumption) ?_
              simp only [Act.put, List.setIfInBounds_toArray, List.set_cons_zero, List.set_cons_succ]
              refine take 21 170 (v := .pointer (some ⟨o, 0, none⟩)) rfl rfl (by kernel_rfl) (by kernel_rfl) (by kernel_rfl) rfl (fun W hW => exec_move rfl rfl) (by assumption) ?_
              simp only [Act.put, List.setIfInBounds_toArray, List.set_cons_zero, List.set_cons_succ]
              refine onlyCall 22 171 rfl rfl (by kernel_rfl) rfl (exec_call [.pointer (some ⟨o2, 0, none⟩), .pointer (some ⟨o, 0, none⟩)] rfl rfl Try.func13 (by kernel_rfl) (by kernel_rfl)) ?_
              refine (hsame _ hU0).mono ?_
              rintro e w7 ⟨rfl, hb7⟩
              have hU1 := hU0.trans (hb7.mono hU0.size)
              clear hb7
              refine ⟨_, rfl, .inr hU1, ?_⟩
              simp only [Act.put, List.setIfInBounds_toArray, List.set_cons_zero, List.set_cons_succ]
              refine take 23 172 (v := .bool false) rfl rfl (by kernel_rfl) (by kernel_rfl) (by kernel_rfl) rfl (fun W hW => exec_unot (b := true) rfl rfl) (by assumption) ?_
              simp only [Act.put, List.setIfInBounds_toArray, List.set_cons_zero, List.set_cons_succ]
              refine take 24 173 (v := .bool false) rfl rfl (by kernel_rfl) (by kernel_rfl) (by kernel_rfl) rfl (fun W hW => rfl) (by assumption) ?_
              simp only [Act.put, List.setIfInBounds_toArray, List.set_cons_zero, List.set_cons_succ]
              refine done (by kernel_rfl) ?_ _
              have HZ := Lib.hid (hb26.trans (hU1.mono hb26.size))
              clear hrd5 ho5 hb5 ho6 hb56 hjl hcj hneq hn1 hn0 hnp hij hfewc hsame hb26 hc6 hr6 hU00 hU0 hU1 H1 H5 H6 HJ Hmk hcell hfree
              go_wp2
              go_roundw
              case rel =>
                repeat apply Exists.intro
                exact ⟨⟨j + 1, by omega, by go_num, HZ.out⟩, rfl⟩
              case measure => simp [intOf]; omega
            · have HB := Lib.hid hb
              clear hb
              go_wp2_with (go_at_call 7; refine (Hk.out _).mono ?_; rintro e w7 ⟨rfl, hb7⟩; have HB7 := Lib.hid hb7; clear hb7)
              go_ret
              exact ⟨rfl, HF.out.2.2.2.1.trans ((HB.out.trans (HB7.out.mono HB.out.size)).mono HF.out.2.2.2.1.size)⟩
end Go.Proofs.Ytmgajgeoibbmjaa
