/- BookPlay: the walk. Printed by gen_play2.py. -/
import Derived.Test.YtfpmdagchbbkcaaPlayA
namespace Go.Proofs.Ytfpmdagchbbkcaa
open Go.RowKit

theorem exec_binb {P : Program} {a : Act} {w : World} {o : Oper} {op : BinOp} {t t' : TypeId} {x y : Operand} {n m : Bool} {v : Value} (ho : o.op = .binOp op t x y t') (hx : a.eval x = .bool n) (hy : a.eval y = .bool m)
    (hr : (binOp op t (.bool n) (.bool m)).run P w = .ok v w) : (execOp a.eval o).run P w = .ok (.value v) w := by
  unfold execOp; rw [ho]; simp only [hx, hy]
  have e : eqGuard op t x y (.bool n) (.bool m) = pure () := by unfold eqGuard; cases op <;> rfl
  simp only [e, Sem.run_bind, Sem.run_pure, Result.andThen_ok, hr]

/-! ### plainly -/
def PlayR (n k : Nat) (d : DM) (N : Nat) (sure may : List UInt8) (dead op : Bool) : Prop :=
  d.size = n ∧ N ≤ 1 + k ∧ d.steps ≤ 2 + 4 * k ∧ FailB d k ∧ sure.length ≤ 3000 ∧
  ((dead = false ∧ op = false ∧ d.Clean ∧ looked d = some ((N : Int), sure)) ∨ (dead = true ∧ op = true ∧ may.length ≤ 3000 ∧ ∀ picks, looked (d.crash picks) = some ((N : Int), sure) ∨ looked (d.crash picks) = some (((N + 1 : Nat) : Int), may)))
section
variable {n k : Nat} {d : DM} {N : Nat} {sure may : List UInt8} {dead op : Bool}
theorem PlayR.mono (h : PlayR n k d N sure may dead op) : PlayR n (k + 1) d N sure may dead op := by
  obtain ⟨h1, h2, h3, h4, h5, h6⟩ := h
  exact ⟨h1, by omega, by omega, h4.mono (by omega), h5, h6⟩
theorem PlayR.start (h4 : 4 ≤ n) (hn : n ≤ 12) : PlayR n 0 (fmtD n) 1 [] [] false false :=
  ⟨fmtD_size n, Nat.le_refl _, by rw [fmtD_steps]; omega, FailB.none (fmtD_no n), by simp, .inl ⟨rfl, rfl, fmtD_clean n, fmtD_looked n (by omega)⟩⟩
theorem PlayR.fail (h : PlayR n k d N sure may dead op) (x : Int) : PlayR n (k + 1) (d.failL [x]) N sure may dead op := by
  obtain ⟨h1, h2, h3, h4, h5, h6⟩ := h
  refine ⟨h1, by omega, by show d.steps ≤ _; omega, h4.failL [x], h5, ?_⟩
  rcases h6 with ⟨g1, g2, g3, g4⟩ | ⟨g1, g2, g3, g4⟩
  · exact .inl ⟨g1, g2, ⟨g3.1, g3.2⟩, looked_same (d := d) rfl g4 (fun _ _ => rfl) (fun _ _ => rfl)⟩
  · exact .inr ⟨g1, g2, g3, g4⟩
theorem PlayR.put (h : PlayR n k d N sure may dead op) (h4 : 4 ≤ n) (hn : n ≤ 12) (hk : k ≤ 100) {ls : List UInt8} (hls : ls.length ≤ 3000) {d' : DM} {N' : Nat} {sure' may' : List UInt8} {dead' op' : Bool} (hp : PutM d N sure may ls dead op d' N' sure' may' dead' op') :
    PlayR n (k + 1) d' N' sure' may' dead' op' := by
  rcases hp with ⟨rfl, rfl, rfl, rfl, rfl, rfl⟩ | ⟨rfl, hf, hE, rfl, rfl, rfl, rfl, rfl, rfl⟩ | ⟨rfl, hf, hE, rfl, rfl, rfl, rfl, rfl, rfl⟩
  · exact h.mono
  · obtain ⟨h1, h2, h3, hB, h5, h6⟩ := h
    rcases h6 with ⟨_, rfl, g3, g4⟩ | ⟨g1, _⟩
    · refine ⟨(putE_size _ _ _).trans h1, by omega, by rw [putE_steps hE]; omega, ?_, hls, .inl ⟨rfl, rfl, putE_clean hE, looked_putE (by omega) (by omega) (by omega) g4 _ hf hE⟩⟩
      have hB' := hB.mono (Nat.le_succ k)
      unfold FailB at hB' ⊢
      rw [putE_fails]; exact hB'
    · cases g1
  · obtain ⟨h1, h2, h3, hB, h5, h6⟩ := h
    rcases h6 with ⟨_, _, g3, g4⟩ | ⟨g1, _⟩
    · refine ⟨(putE_size _ _ _).trans h1, by omega, by have := putE_steps_le d N' may'; omega, ?_, h5, .inr ⟨rfl, rfl, hls, fun picks => ?_⟩⟩
      · have hB' := hB.mono (Nat.le_succ k)
        unfold FailB at hB' ⊢
        rw [putE_fails]; exact hB'
      · rcases looked_cut g3 (by omega) (by omega) (by omega) g4 may' hf hE picks with h | ⟨_, _, h⟩
        · exact .inl h
        · exact .inr h
    · cases g1
theorem PlayR.crash (h : PlayR n k d N sure may dead op) (picks : List Int) : ∃ (m : Nat) (s : List UInt8), looked (d.crash picks) = some ((m : Int), s) ∧ ((op = true ∧ s = may ∧ m = N + 1) ∨ (s = sure ∧ m = N)) ∧ PlayR n (k + 1) (d.crash picks) m s may false false := by
  obtain ⟨h1, h2, h3, hB, h5, h6⟩ := h
  have fin : ∀ (m : Nat) (s : List UInt8), m ≤ N + 1 → s.length ≤ 3000 → looked (d.crash picks) = some ((m : Int), s) → PlayR n (k + 1) (d.crash picks) m s may false false := fun m s hm hs hl =>
    ⟨h1, by omega, by show 0 ≤ _; omega, fun j v hv => (by cases hv), hs, .inl ⟨rfl, rfl, crash_clean d picks, hl⟩⟩
  rcases h6 with ⟨_, _, g3, g4⟩ | ⟨_, g2, g3, g4⟩
  · have hl := looked_crash g3 g4 picks
    exact ⟨N, sure, hl, .inr ⟨rfl, rfl⟩, fin _ _ (by omega) h5 hl⟩
  · rcases g4 picks with hl | hl
    · exact ⟨N, sure, hl, .inr ⟨rfl, rfl⟩, fin _ _ (by omega) h5 hl⟩
    · exact ⟨N + 1, may, hl, .inl ⟨g2, rfl, rfl⟩, fin _ _ (by omega) g3 hl⟩
theorem PlayR.live (h : PlayR n k d N sure may false op) : looked d = some ((N : Int), sure) ∧ PlayR n (k + 1) d N sure may false false := by
  have h' := h.mono
  obtain ⟨h1, h2, h3, hB, h5, h6⟩ := h
  rcases h6 with ⟨_, rfl, g3, g4⟩ | ⟨g1, _⟩
  · exact ⟨g4, h'⟩
  · cases g1
end

/-- The state between two rounds: the book's pointer at b. -/
def PlayI (w0 w : World) (Mb n k b : Nat) : Prop := ∃ a d N sure may dead op, Bk (fun x => x ≠ Mb) w0 w a b d ((N : Nat) : Int) sure dead ∧ ModelAt w Mb sure may ((N : Nat) : Int) dead op ∧ PlayR n k d N sure may dead op
theorem PlayI.below {w0 w : World} {Mb n k b : Nat} (h : PlayI w0 w Mb n k b) : Below w0.heap.size w0 w := by
  obtain ⟨a, d, N, sure, may, dead, op, h1, _⟩ := h; exact h1.below

/-- A step of a script. -/
structure StepM where
  kd : Int
  num : Int
  ls : List UInt8
  q : Option Addr
  m : Nat
  c : Nat
  picks : List Int
def ScriptAt (w : World) (v : Value) (ss : List StepM) : Prop :=
  ∃ a c, v = .slice a ss.length c ∧ (a = none → ss = []) ∧ ∀ ad, a = some ad → ad.spot = none ∧ ∀ (i : Nat) (s : StepM), ss[i]? = some s →
    w.cell? ⟨ad.block, ad.off + i * 4, none⟩ = some (.int .i64 s.kd) ∧ w.cell? ⟨ad.block, ad.off + i * 4 + 1, none⟩ = some (.int .i64 s.num) ∧ w.cell? ⟨ad.block, ad.off + i * 4 + 2, none⟩ = some (.string (strB s.ls)) ∧ w.cell? ⟨ad.block, ad.off + i * 4 + 3, none⟩ = some (.slice s.q s.m s.c) ∧
      RdI w (.slice s.q s.m s.c) s.picks ∧ s.m ≤ s.c
theorem ScriptAt.below {w w' : World} {v : Value} {ss : List StepM} (h : ScriptAt w v ss) (g : Below w.heap.size w w') : ScriptAt w' v ss := by
  obtain ⟨a, c, h1, h2, h4⟩ := h
  refine ⟨a, c, h1, h2, fun ad had => ⟨(h4 ad had).1, fun i s hs => ?_⟩⟩
  obtain ⟨k0, k1, k2, k3, k4, k5⟩ := (h4 ad had).2 i s hs
  exact ⟨belowCell g (ltOf k0) k0, belowCell g (ltOf k1) k1, belowCell g (ltOf k2) k2, belowCell g (ltOf k3) k3, k4.below g, k5⟩
def StepM.sz (s : StepM) : Nat × Nat := (s.ls.length, s.m)
theorem ScriptAt.steps {w : World} {v : Value} {ss : List StepM} (h : ScriptAt w v ss) : StepsAt w v (ss.map StepM.sz) := by
  obtain ⟨a, c, h1, h2, h4⟩ := h
  refine ⟨a, c, by rw [List.length_map]; exact h1, fun e => by rw [h2 e]; rfl, fun ad had => ⟨(h4 ad had).1, fun i p hp => ?_⟩⟩
  rw [List.getElem?_map] at hp
  cases hs : ss[i]? with
  | none => rw [hs] at hp; cases hp
  | some s =>
    rw [hs] at hp
    cases hp
    obtain ⟨k0, k1, k2, k3, k4, k5⟩ := (h4 ad had).2 i s hs
    exact ⟨strB s.ls, s.q, s.c, k2, strB_size _, k3⟩

set_option maxRecDepth 100000 in
set_option maxHeartbeats 2000000 in
theorem play_known (n : Int) (v : Value) (ss : List StepM) (w : World) (hs : ScriptAt w v ss) (h : vastB n (ss.map StepM.sz) = true ∨ n < 4 ∨ 65536 < n) :
    Calls Try.prog 6 #[.int .i64 n, v] w fun e w' => e = .returned (.bool true) ∧ Below w.heap.size w w' := by
  have hv0 := vast_any n v _ w hs.steps
  obtain ⟨a, c, rfl, _⟩ := hs
  have Hv := Lib.hid hv0
  have Hk := Lib.hid known_any
  clear hv0
  generalize hvb : vastB n (ss.map StepM.sz) = vb at *
  clear hvb
  have hcases : vb = true ∨ (vb = false ∧ decide (n < 4) = true) ∨ (vb = false ∧ decide (n < 4) = false ∧ decide (n > 65536) = true) := by
    cases vb <;> simp only [decide_eq_true_iff, decide_eq_false_iff_not] at * <;> simp at h ⊢ <;> omega
  clear h
  rcases hcases with rfl | ⟨rfl, c1⟩ | ⟨rfl, c1, c2⟩
  all_goals
    go_enter Try.func6, Try.ntmps6
    go_wp2_with (first
      | (go_at_call 7; refine Hv.out.mono ?_; rintro e w1 ⟨rfl, rfl⟩)
      | (go_at_call 8; refine (Hk.out _).mono ?_; rintro e w2 ⟨rfl, hb⟩; have HB := Lib.hid hb; clear hb))
    go_ret
    exact ⟨rfl, HB.out⟩

set_option maxRecDepth 100000 in
set_option maxHeartbeats 8000000 in
theorem play_main (n : Nat) (v : Value) (ss : List StepM) (w : World) (hs : ScriptAt w v ss) (hv : vastB (n : Int) (ss.map StepM.sz) = false) (h4 : 4 ≤ n) (h12 : n ≤ 12) (hlen : ss.length ≤ 15) (hls : ∀ s ∈ ss, s.ls.length ≤ 3000 ∧ s.picks.length ≤ 40) :
    Calls Try.prog 6 #[.int .i64 (n : Int), v] w fun e w' => e = .returned (.bool true) ∧ Below w.heap.size w w' := by
  have hv0 := vast_any n v _ w hs.steps
  rw [hv] at hv0
  have Hv := Lib.hid hv0
  have Hk := Lib.hid known_any
  have Hs := Lib.hid (fun w' (g : Below w.heap.size w w') => hs.below g)
  have hbeg := begun_any n h4 (by omega) w
  have Hbeg := Lib.hid hbeg
  have Hls := Lib.hid hls
  obtain ⟨sa, sc, rfl, hnil, hspot0⟩ := hs
  have Hnil := Lib.hid (And.intro hnil (fun ad had => (hspot0 ad had).1))
  have c1 : decide ((n : Int) < 4) = false := by simp; omega
  have c2 : decide ((n : Int) > 65536) = false := by simp; omega
  have hlenI : (ss.length : Int) ≤ 15 := by omega
  clear hv hv0 hbeg hls hnil hspot0
  go_enter Try.func6, Try.ntmps6
  go_wp2_with (first
    | (go_at_call 7; refine Hv.out.mono ?_; rintro e w1 ⟨rfl, rfl⟩)
    | (go_at_call 21; refine Hbeg.out.mono ?_; rintro e w2 ⟨a0, b0, rfl, hbk⟩
       have HB := Lib.hid hbk
       clear hbk Hbeg))
  have hI0 : PlayI w (w2.alloc (.cells #[.string (strB []), .string (strB []), .int .i64 1, .bool false, .bool false] 65)) w2.heap.size n 0 b0 :=
    ⟨a0, fmtD n, 1, [], [], false, false, (HB.out.mono (fun x hx _ => Nat.ne_of_lt hx)).grow ((Below.refl _ _).alloc (Nat.le_refl _) _), heap_alloc_new w2 _, PlayR.start h4 h12⟩
  have HI0 := Lib.hid hI0
  have hM0 : w.heap.size ≤ w2.heap.size := HB.out.below.size
  clear hI0 Hv
  generalize hMb : w2.heap.size = Mb at *
  clear hMb
  go_loopw [5, 7] (fun bp i wr => ∃ k b : Nat, k ≤ ss.length ∧ i = .int .i64 (k : Int) ∧ bp = .pointer (some ⟨b, 0, none⟩) ∧ PlayI w wr Mb n k b) (fun _ i _ => ss.length - (intOf i).toNat)
  case atStart => exact ⟨0, b0, Nat.zero_le _, rfl, rfl, HI0.out⟩
  case round =>
    obtain ⟨k, b, hk, rfl, rfl, hI⟩ := hrel
    by_cases hlt : k < ss.length
    · have hlt2 : k + 1 ≤ ss.length := hlt
      obtain ⟨ad, rfl⟩ : ∃ ad, sa = some ad := by
        cases sa with
        | none => have := Hnil.out.1 rfl; rw [this] at hlt; simp at hlt
        | some ad => exact ⟨ad, rfl⟩
      have hspot := Hnil.out.2 ad rfl
      obtain ⟨ab, ao, asp⟩ := ad
      simp only at hspot
      subst hspot
      have hst := Hs.out wr hI.below
      obtain ⟨_, _, heq, _, hcs⟩ := hst
      cases heq
      have hget : ss[k]? = some ss[k] := List.getElem?_eq_getElem hlt
      obtain ⟨k0, k1, k2, k3, hpk, hmc⟩ := (hcs _ rfl).2 k ss[k] hget
      have hmem := Hls.out ss[k] (List.getElem_mem hlt)
      generalize ss[k] = s at *
      obtain ⟨kd, num, ls, q, m, c, picks⟩ := s
      simp only at k0 k1 k2 k3 hpk hmc hmem
      obtain ⟨hl1, hl2⟩ := hmem
      obtain ⟨a, d, N, sure, may, dead, op, hbk, hM, hR⟩ := hI
      have hb1 : Below wr.heap.size wr (wr.alloc (.cells #[.int .i64 kd, .int .i64 num, .string (strB ls), .slice q m c] 25)) := (Below.refl _ _).alloc (Nat.le_refl _) _
      have HDk := Lib.hid (hbk.grow hb1).disk
      have HP : Hid (PlayR n k d N sure may dead op ∧ Bk (fun x => x ≠ Mb) w (wr.alloc (.cells #[.int .i64 kd, .int .i64 num, .string (strB ls), .slice q m c] 25)) a b d (N : Int) sure dead ∧
          ModelAt (wr.alloc (.cells #[.int .i64 kd, .int .i64 num, .string (strB ls), .slice q m c] 25)) Mb sure may (N : Int) dead op ∧ RdI (wr.alloc (.cells #[.int .i64 kd, .int .i64 num, .string (strB ls), .slice q m c] 25)) (.slice q m c) picks ∧ m ≤ c ∧ b ≠ wr.heap.size ∧ ModelAt wr Mb sure may (N : Int) dead op ∧
          Bk (fun x => x ≠ Mb ∧ x ≠ wr.heap.size) w (wr.alloc (.cells #[.int .i64 kd, .int .i64 num, .string (strB ls), .slice q m c] 25)) a b d (N : Int) sure dead) :=
        Lib.hid ⟨hR, hbk.grow hb1, hM.below hb1, hpk.below hb1, hmc, (by obtain ⟨_, hv⟩ := hbk.lt; exact Nat.ne_of_lt (Array.getElem?_eq_some_iff.1 hv).1), hM, (hbk.mono (R' := fun x => x ≠ Mb ∧ x ≠ wr.heap.size) (fun x hx h => ⟨h, Nat.ne_of_lt hx⟩)).grow hb1⟩
      have hsize : d.size = n := hR.1
      have hNb : N ≤ 100 := by have := hR.2.1; omega
      have hstb : d.steps ≤ 100 := by have := hR.2.2.1; omega
      clear hbk hM hR hb1 hpk hmc hget hcs
      by_cases e1 : kd = 1
      · subst e1
        have HPut := Lib.hid (put_law HP.out.2.1 HP.out.2.2.1 hM0 (by omega) (by omega) (by omega) 1 num ls q m c hl1)
        unfold stepV at HPut
        go_wp2_with (first
          | (go_at_call 23; refine HDk.out.mono ?_; rintro e w' ⟨rfl, rfl⟩)
          | (go_at_call 27; refine HPut.out.mono ?_; rintro e w5 ⟨rfl, d5, N5, su5, ma5, de5, op5, hput5, hbk5, hM5⟩
             have HXe : Hid (PlayI w w5 Mb n (k + 1) b) := Lib.hid ⟨a, d5, N5, su5, ma5, de5, op5, hbk5, hM5, HP.out.1.put h4 h12 (by omega) hl1 hput5⟩
             clear hput5 hbk5 hM5 HPut))
        obtain ⟨a5, d5, N5, su5, ma5, de5, op5, hbk5, hM5, hR5⟩ := HXe.out
        have hst5 := hbk5.state (by rw [hR5.1]; exact h4)
        have hhf5 : hf d5 = (n - 2) / 2 := by unfold hf; rw [hR5.1]
        rw [hhf5] at hst5
        have HSt := Lib.hid hst5
        have HM5 := Lib.hid hM5
        have HR5 := Lib.hid hR5
        clear hbk5 hM5 hR5 hst5 hhf5 HXe
        go_wp2_with (first
          | (go_at_call 22; refine HSt.out.mono ?_; rintro e w6 ⟨rfl, hbk6, hb6⟩; have H6 := Lib.hid (And.intro hbk6 (HM5.out.below hb6)); clear hbk6 hb6 HSt))
        obtain ⟨hbk6, hM6⟩ := H6.out
        have hdr : Below w6.heap.size w6 w6.drew := (Below.refl _ _).drew
        have hbk6d := hbk6.grow hdr
        have hS6 := hM6.below hdr
        have hsu : su5.length ≤ 3000 := HR5.out.2.2.2.2.1
        have hf0 : ∀ W' : World, (Instr.fieldAt 65 (.pointer (some ⟨Mb, 0, none⟩)) 0).run Try.prog W' = .ok (.pointer (some ⟨Mb, 0, none⟩)) W' := by intro W'; simp [go_sem]
        have hf2 : ∀ W' : World, (Instr.fieldAt 65 (.pointer (some ⟨Mb, 0, none⟩)) 2).run Try.prog W' = .ok (.pointer (some ⟨Mb, 2, none⟩)) W' := by intro W'; simp [go_sem]
        have hf3 : ∀ W' : World, (Instr.fieldAt 65 (.pointer (some ⟨Mb, 0, none⟩)) 3).run Try.prog W' = .ok (.pointer (some ⟨Mb, 3, none⟩)) W' := by intro W'; simp [go_sem]
        have hnN : ∀ W : World, (binOp .neq 2 (.int .i64 (N5 : Int)) (.int .i64 (N5 : Int))).run Try.prog W = .ok (.bool false) W := by intro W; simp [go_sem]
        have hnb : ∀ W : World, (binOp .neq 4 (.bool de5) (.bool de5)).run Try.prog W = .ok (.bool false) W := by intro W; cases de5 <;> rfl
        have hnr : ∀ W : World, (binOp .neq 3 (.int .i64 ((((n - 2) / 2 : Nat) : Int) * 512)) (.int .i64 ((((n - 2) / 2 : Nat) : Int) * 512))).run Try.prog W = .ok (.bool false) W := by intro W; simp [go_sem]
        refine plain_region_draws (fun W => ModelAt W Mb su5 ma5 (N5 : Int) de5 op5) (by kernel_rfl) hS6 (fun hS => ?_)
        refine take 0 118 (v := .pointer (some ⟨b, 0, none⟩)) rfl rfl (by kernel_rfl) (by kernel_rfl) (by kernel_rfl) rfl (fun W hW => exec_move rfl rfl) (by assumption) ?_
        simp only [Act.put, List.setIfInBounds_toArray, List.set_cons_zero, List.set_cons_succ]
        refine take 3 121 (v := .pointer (some ⟨Mb, 0, none⟩)) rfl rfl (by kernel_rfl) (by kernel_rfl) (by kernel_rfl) rfl (fun W hW => exec_move rfl rfl) (by assumption) ?_
        simp only [Act.put, List.setIfInBounds_toArray, List.set_cons_zero, List.set_cons_succ]
        refine take 4 122 (v := .pointer (some ⟨Mb, 0, none⟩)) rfl rfl (by kernel_rfl) (by kernel_rfl) (by kernel_rfl) rfl (fun W hW => rfl) (by assumption) ?_
        simp only [Act.put, List.setIfInBounds_toArray, List.set_cons_zero, List.set_cons_succ]
        refine take 5 123 (v := .pointer (some ⟨Mb, 0, none⟩)) rfl rfl (by kernel_rfl) (by kernel_rfl) (by kernel_rfl) rfl (fun W hW => exec_fieldAddr rfl rfl (hf0 W)) (by assumption) ?_
        simp only [Act.put, List.setIfInBounds_toArray, List.set_cons_zero, List.set_cons_succ]
        refine take 6 124 (v := .string (strB su5)) rfl rfl (by kernel_rfl) (by kernel_rfl) (by kernel_rfl) rfl (fun W hW => exec_load rfl rfl (run_load1 (w := W) Try.underlying9 rfl hW.cells.1)) (by assumption) ?_
        simp only [Act.put, List.setIfInBounds_toArray, List.set_cons_zero, List.set_cons_succ]
        refine onlyCall 1 119 rfl rfl (by kernel_rfl) rfl (exec_call [.pointer (some ⟨b, 0, none⟩)] rfl rfl Try.func17 (by kernel_rfl) (by kernel_rfl)) ?_
        refine (hbk6d.bytes (by omega)).mono ?_
        rintro e w7 ⟨a7, c7, rfl, hown7, hbk7, hb7⟩
        have hS7 := hS6.below hb7
        refine ⟨_, rfl, .inr hS7, ?_⟩
        simp only [Act.put, List.setIfInBounds_toArray, List.set_cons_zero, List.set_cons_succ]
        refine onlyRun 2 120 (v := .string (strB su5)) rfl rfl (by kernel_rfl) rfl (exec_convert rfl rfl (run_str hown7.rd)) (.inr hS7) ?_
        simp only [Act.put, List.setIfInBounds_toArray, List.set_cons_zero, List.set_cons_succ]
        refine take 7 125 (v := .bool false) rfl rfl (by kernel_rfl) (by kernel_rfl) (by kernel_rfl) rfl (fun W hW => exec_bins rfl rfl rfl (run_nesb su5 su5 false (by simp) W)) (by assumption) ?_
        simp only [Act.put, List.setIfInBounds_toArray, List.set_cons_zero, List.set_cons_succ]
        refine take 8 126 (v := .bool false) rfl rfl (by kernel_rfl) (by kernel_rfl) (by kernel_rfl) rfl (fun W hW => exec_move rfl rfl) (by assumption) ?_
        simp only [Act.put, List.setIfInBounds_toArray, List.set_cons_zero, List.set_cons_succ]
        refine take 9 127 (v := .int .i64 (N5 : Int)) rfl rfl (by kernel_rfl) (by kernel_rfl) (by kernel_rfl) rfl (fun W hW => exec_move rfl rfl) (by assumption) ?_
        simp only [Act.put, List.setIfInBounds_toArray, List.set_cons_zero, List.set_cons_succ]
        refine take 10 128 (v := .pointer (some ⟨Mb, 0, none⟩)) rfl rfl (by kernel_rfl) (by kernel_rfl) (by kernel_rfl) rfl (fun W hW => exec_move rfl rfl) (by assumption) ?_
        simp only [Act.put, List.setIfInBounds_toArray, List.set_cons_zero, List.set_cons_succ]
        refine take 11 129 (v := .pointer (some ⟨Mb, 0, none⟩)) rfl rfl (by kernel_rfl) (by kernel_rfl) (by kernel_rfl) rfl (fun W hW => rfl) (by assumption) ?_
        simp only [Act.put, List.setIfInBounds_toArray, List.set_cons_zero, List.set_cons_succ]
        refine take 12 130 (v := .pointer (some ⟨Mb, 2, none⟩)) rfl rfl (by kernel_rfl) (by kernel_rfl) (by kernel_rfl) rfl (fun W hW => exec_fieldAddr rfl rfl (hf2 W)) (by assumption) ?_
        simp only [Act.put, List.setIfInBounds_toArray, List.set_cons_zero, List.set_cons_succ]
        refine take 13 131 (v := .int .i64 (N5 : Int)) rfl rfl (by kernel_rfl) (by kernel_rfl) (by kernel_rfl) rfl (fun W hW => exec_load rfl rfl (run_load1 (w := W) Try.underlying2 rfl hW.cells.2.2.1)) (by assumption) ?_
        simp only [Act.put, List.setIfInBounds_toArray, List.set_cons_zero, List.set_cons_succ]
        refine take 14 132 (v := .bool false) rfl rfl (by kernel_rfl) (by kernel_rfl) (by kernel_rfl) rfl (fun W hW => exec_bini rfl rfl rfl (hnN W)) (by assumption) ?_
        simp only [Act.put, List.setIfInBounds_toArray, List.set_cons_zero, List.set_cons_succ]
        refine take 15 133 (v := .bool false) rfl rfl (by kernel_rfl) (by kernel_rfl) (by kernel_rfl) rfl (fun W hW => rfl) (by assumption) ?_
        simp only [Act.put, List.setIfInBounds_toArray, List.set_cons_zero, List.set_cons_succ]
        refine take 16 134 (v := .bool false) rfl rfl (by kernel_rfl) (by kernel_rfl) (by kernel_rfl) rfl (fun W hW => exec_move rfl rfl) (by assumption) ?_
        simp only [Act.put, List.setIfInBounds_toArray, List.set_cons_zero, List.set_cons_succ]
        refine take 17 135 (v := .bool de5) rfl rfl (by kernel_rfl) (by kernel_rfl) (by kernel_rfl) rfl (fun W hW => exec_move rfl rfl) (by assumption) ?_
        simp only [Act.put, List.setIfInBounds_toArray, List.set_cons_zero, List.set_cons_succ]
        refine take 18 136 (v := .pointer (some ⟨Mb, 0, none⟩)) rfl rfl (by kernel_rfl) (by kernel_rfl) (by kernel_rfl) rfl (fun W hW => exec_move rfl rfl) (by assumption) ?_
        simp only [Act.put, List.setIfInBounds_toArray, List.set_cons_zero, List.set_cons_succ]
        refine take 19 137 (v := .pointer (some ⟨Mb, 0, none⟩)) rfl rfl (by kernel_rfl) (by kernel_rfl) (by kernel_rfl) rfl (fun W hW => rfl) (by assumption) ?_
        simp only [Act.put, List.setIfInBounds_toArray, List.set_cons_zero, List.set_cons_succ]
        refine take 20 138 (v := .pointer (some ⟨Mb, 3, none⟩)) rfl rfl (by kernel_rfl) (by kernel_rfl) (by kernel_rfl) rfl (fun W hW => exec_fieldAddr rfl rfl (hf3 W)) (by assumption) ?_
        simp only [Act.put, List.setIfInBounds_toArray, List.set_cons_zero, List.set_cons_succ]
        refine take 21 139 (v := .bool de5) rfl rfl (by kernel_rfl) (by kernel_rfl) (by kernel_rfl) rfl (fun W hW => exec_load rfl rfl (run_load1 (w := W) Try.underlying4 rfl hW.cells.2.2.2.1)) (by assumption) ?_
        simp only [Act.put, List.setIfInBounds_toArray, List.set_cons_zero, List.set_cons_succ]
        refine take 22 140 (v := .bool false) rfl rfl (by kernel_rfl) (by kernel_rfl) (by kernel_rfl) rfl (fun W hW => exec_binb rfl rfl rfl (hnb W)) (by assumption) ?_
        simp only [Act.put, List.setIfInBounds_toArray, List.set_cons_zero, List.set_cons_succ]
        refine take 23 141 (v := .bool false) rfl rfl (by kernel_rfl) (by kernel_rfl) (by kernel_rfl) rfl (fun W hW => rfl) (by assumption) ?_
        simp only [Act.put, List.setIfInBounds_toArray, List.set_cons_zero, List.set_cons_succ]
        refine take 24 142 (v := .bool false) rfl rfl (by kernel_rfl) (by kernel_rfl) (by kernel_rfl) rfl (fun W hW => exec_move rfl rfl) (by assumption) ?_
        simp only [Act.put, List.setIfInBounds_toArray, List.set_cons_zero, List.set_cons_succ]
        refine take 25 143 (v := .int .i64 ((((n - 2) / 2 : Nat) : Int) * 512)) rfl rfl (by kernel_rfl) (by kernel_rfl) (by kernel_rfl) rfl (fun W hW => exec_move rfl rfl) (by assumption) ?_
        simp only [Act.put, List.setIfInBounds_toArray, List.set_cons_zero, List.set_cons_succ]
        refine take 26 144 (v := .int .i64 (n : Int)) rfl rfl (by kernel_rfl) (by kernel_rfl) (by kernel_rfl) rfl (fun W hW => exec_move rfl rfl) (by assumption) ?_
        simp only [Act.put, List.setIfInBounds_toArray, List.set_cons_zero, List.set_cons_succ]
        refine onlyCall 27 145 rfl rfl (by kernel_rfl) rfl (exec_call [.int .i64 (n : Int)] rfl rfl Try.func29 (by kernel_rfl) (by kernel_rfl)) ?_
        refine (ref_half n (by omega) (by omega) _).mono ?_
        rintro e w' ⟨rfl, rfl⟩
        refine ⟨_, rfl, .inr hS7, ?_⟩
        simp only [Act.put, List.setIfInBounds_toArray, List.set_cons_zero, List.set_cons_succ]
        refine take 28 146 (v := .int .i64 ((((n - 2) / 2 : Nat) : Int) * 512)) rfl rfl (by kernel_rfl) (by kernel_rfl) (by kernel_rfl) rfl (fun W hW => exec_mul512 rfl rfl rfl (by omega)) (by assumption) ?_
        simp only [Act.put, List.setIfInBounds_toArray, List.set_cons_zero, List.set_cons_succ]
        refine take 29 147 (v := .bool false) rfl rfl (by kernel_rfl) (by kernel_rfl) (by kernel_rfl) rfl (fun W hW => exec_bini rfl rfl rfl (hnr W)) (by assumption) ?_
        simp only [Act.put, List.setIfInBounds_toArray, List.set_cons_zero, List.set_cons_succ]
        refine take 30 148 (v := .bool false) rfl rfl (by kernel_rfl) (by kernel_rfl) (by kernel_rfl) rfl (fun W hW => rfl) (by assumption) ?_
        simp only [Act.put, List.setIfInBounds_toArray, List.set_cons_zero, List.set_cons_succ]
        refine done (by kernel_rfl) ?_ _
        have Hnew : Hid (PlayI w w7 Mb n (k + 1) b) := Lib.hid ⟨a5, d5, N5, su5, ma5, de5, op5, hbk7, hS7, HR5.out⟩
        clear hS hS6 hS7 hbk7 hbk6d hbk6 hM6 hdr hf0 hf2 hf3 hnN hnb hnr hown7 hb7 hsu H6
        go_wp2
        go_roundw
        case rel => exact ⟨k + 1, b, by omega, by go_num, rfl, Hnew.out⟩
        case measure => simp [intOf]; omega
      · by_cases e2 : kd = 2
        · subst e2
          have hin1 : (wr.alloc (.cells #[.int .i64 2, .int .i64 num, .string (strB ls), .slice q m c] 25)).cell? ⟨wr.heap.size, 1, none⟩ = some (.int .i64 num) := cellOf (heap_alloc_new _ _) rfl
          have Hin1 := Lib.hid hin1
          clear hin1
          go_wp2_with (first
            | (go_at_call 23; refine HDk.out.mono ?_; rintro e w' ⟨rfl, rfl⟩))
          have hin1 := Hin1.out
          obtain ⟨hR, hbk1, hM1, _, _, hbx', hMlt', hbkx⟩ := HP.out
          have hbx : wr.heap.size ≠ b := fun e => hbx' e.symm
          have hszW : (wr.alloc (.cells #[.int .i64 2, .int .i64 num, .string (strB ls), .slice q m c] 25)).heap.size = wr.heap.size + 1 := by simp
          have hMlt := hM1.lt
          have hMx := hM1.ne hbk1
          generalize hW1 : wr.alloc (.cells #[.int .i64 2, .int .i64 num, .string (strB ls), .slice q m c] 25) = W1 at *
          have hfb : ∀ W' : World, (Instr.fieldAt 25 (.pointer (some ⟨wr.heap.size, 0, none⟩)) 1).run Try.prog W' = .ok (.pointer (some ⟨wr.heap.size, 1, none⟩)) W' := by intro W'; simp [go_sem]
          have hdr : Below W1.heap.size W1 W1.drew := (Below.refl _ _).drew
          have hS1 : W1.drew.cell? ⟨wr.heap.size, 1, none⟩ = some (.int .i64 num) := hin1
          rcases (by omega : num < 0 ∨ (0 ≤ num ∧ 1073741824 ≤ num) ∨ (0 ≤ num ∧ num < 1073741824)) with hn1 | ⟨hn1, hn2⟩ | ⟨hn1, hn2⟩
          · have hge : ∀ W : World, (binOp .geq 3 (.int .i64 num) (.int .i64 0)).run Try.prog W = .ok (.bool false) W := by
              intro W
              simp [go_sem]
              omega
            refine plain_region_draws (fun W => W.cell? ⟨wr.heap.size, 1, none⟩ = some (.int .i64 num)) (by kernel_rfl) hS1 (fun hS => ?_)
            refine take 0 56 (v := .pointer (some ⟨wr.heap.size, 1, none⟩)) rfl rfl (by kernel_rfl) (by kernel_rfl) (by kernel_rfl) rfl (fun W hW => exec_fieldAddr rfl rfl (hfb W)) (by assumption) ?_
            simp only [Act.put, List.setIfInBounds_toArray, List.set_cons_zero, List.set_cons_succ]
            refine take 1 57 (v := .int .i64 num) rfl rfl (by kernel_rfl) (by kernel_rfl) (by kernel_rfl) rfl (fun W hW => exec_load rfl rfl (run_load1 (w := W) Try.underlying3 rfl hW)) (by assumption) ?_
            simp only [Act.put, List.setIfInBounds_toArray, List.set_cons_zero, List.set_cons_succ]
            refine take 2 58 (v := .bool false) rfl rfl (by kernel_rfl) (by kernel_rfl) (by kernel_rfl) rfl (fun W hW => exec_bini rfl rfl rfl (hge W)) (by assumption) ?_
            simp only [Act.put, List.setIfInBounds_toArray, List.set_cons_zero, List.set_cons_succ]
            refine take 3 59 (v := .bool false) rfl rfl (by kernel_rfl) (by kernel_rfl) (by kernel_rfl) rfl (fun W hW => exec_move rfl rfl) (by assumption) ?_
            simp only [Act.put, List.setIfInBounds_toArray, List.set_cons_zero, List.set_cons_succ]
            refine takeNot 4 60 rfl rfl (by kernel_rfl) (by kernel_rfl) (by kernel_rfl) rfl (by assumption) ?_
            simp only [Act.put, List.setIfInBounds_toArray, List.set_cons_zero, List.set_cons_succ]
            refine takeNot 5 61 rfl rfl (by kernel_rfl) (by kernel_rfl) (by kernel_rfl) rfl (by assumption) ?_
            simp only [Act.put, List.setIfInBounds_toArray, List.set_cons_zero, List.set_cons_succ]
            refine takeNot 6 62 rfl rfl (by kernel_rfl) (by kernel_rfl) (by kernel_rfl) rfl (by assumption) ?_
            simp only [Act.put, List.setIfInBounds_toArray, List.set_cons_zero, List.set_cons_succ]
            refine take 7 63 (v := .bool false) rfl rfl (by kernel_rfl) (by kernel_rfl) (by kernel_rfl) rfl (fun W hW => rfl) (by assumption) ?_
            simp only [Act.put, List.setIfInBounds_toArray, List.set_cons_zero, List.set_cons_succ]
            refine take 8 64 (v := .bool false) rfl rfl (by kernel_rfl) (by kernel_rfl) (by kernel_rfl) rfl (fun W hW => exec_move rfl rfl) (by assumption) ?_
            simp only [Act.put, List.setIfInBounds_toArray, List.set_cons_zero, List.set_cons_succ]
            refine takeNot 9 65 rfl rfl (by kernel_rfl) (by kernel_rfl) (by kernel_rfl) rfl (by assumption) ?_
            simp only [Act.put, List.setIfInBounds_toArray, List.set_cons_zero, List.set_cons_succ]
            refine takeNot 10 66 rfl rfl (by kernel_rfl) (by kernel_rfl) (by kernel_rfl) rfl (by assumption) ?_
            simp only [Act.put, List.setIfInBounds_toArray, List.set_cons_zero, List.set_cons_succ]
            refine takeNot 12 68 rfl rfl (by kernel_rfl) (by kernel_rfl) (by kernel_rfl) rfl (by assumption) ?_
            simp only [Act.put, List.setIfInBounds_toArray, List.set_cons_zero, List.set_cons_succ]
            refine takeNot 13 69 rfl rfl (by kernel_rfl) (by kernel_rfl) (by kernel_rfl) rfl (by assumption) ?_
            simp only [Act.put, List.setIfInBounds_toArray, List.set_cons_zero, List.set_cons_succ]
            refine onlyNot 11 67 rfl rfl (by kernel_rfl) rfl ?_ (.inr hS1)
            simp only [Act.put, List.setIfInBounds_toArray, List.set_cons_zero, List.set_cons_succ]
            refine takeNot 14 70 rfl rfl (by kernel_rfl) (by kernel_rfl) (by kernel_rfl) rfl (by assumption) ?_
            simp only [Act.put, List.setIfInBounds_toArray, List.set_cons_zero, List.set_cons_succ]
            refine onlyNot 15 71 rfl rfl (by kernel_rfl) rfl ?_ (.inr hS1)
            simp only [Act.put, List.setIfInBounds_toArray, List.set_cons_zero, List.set_cons_succ]
            refine onlyNot 16 72 rfl rfl (by kernel_rfl) rfl ?_ (.inr hS1)
            simp only [Act.put, List.setIfInBounds_toArray, List.set_cons_zero, List.set_cons_succ]
            refine takeNot 17 73 rfl rfl (by kernel_rfl) (by kernel_rfl) (by kernel_rfl) rfl (by assumption) ?_
            simp only [Act.put, List.setIfInBounds_toArray, List.set_cons_zero, List.set_cons_succ]
            refine take 18 74 (v := .bool false) rfl rfl (by kernel_rfl) (by kernel_rfl) (by kernel_rfl) rfl (fun W hW => rfl) (by assumption) ?_
            simp only [Act.put, List.setIfInBounds_toArray, List.set_cons_zero, List.set_cons_succ]
            refine done (by kernel_rfl) ?_ _
            have HXe : Hid (PlayI w W1.drew Mb n (k + 1) b) := Lib.hid ⟨a, d, N, sure, may, dead, op, hbk1.grow hdr, hM1.below hdr, hR.mono⟩
            obtain ⟨a5, d5, N5, su5, ma5, de5, op5, hbk5, hM5, hR5⟩ := HXe.out
            have hst5 := hbk5.state (by rw [hR5.1]; exact h4)
            have hhf5 : hf d5 = (n - 2) / 2 := by unfold hf; rw [hR5.1]
            rw [hhf5] at hst5
            have HSt := Lib.hid hst5
            have HM5 := Lib.hid hM5
            have HR5 := Lib.hid hR5
            clear hbk5 hM5 hR5 hst5 hhf5 HXe
            clear hS hS1 hin1 hR hbk1 hM1 hW1 hfb hdr hbkx hge
            go_wp2_with (first
              | (go_at_call 22; refine HSt.out.mono ?_; rintro e w6 ⟨rfl, hbk6, hb6⟩; have H6 := Lib.hid (And.intro hbk6 (HM5.out.below hb6)); clear hbk6 hb6 HSt))
            obtain ⟨hbk6, hM6⟩ := H6.out
            have hdr : Below w6.heap.size w6 w6.drew := (Below.refl _ _).drew
            have hbk6d := hbk6.grow hdr
            have hS6 := hM6.below hdr
            have hsu : su5.length ≤ 3000 := HR5.out.2.2.2.2.1
            have hf0 : ∀ W' : World, (Instr.fieldAt 65 (.pointer (some ⟨Mb, 0, none⟩)) 0).run Try.prog W' = .ok (.pointer (some ⟨Mb, 0, none⟩)) W' := by intro W'; simp [go_sem]
            have hf2 : ∀ W' : World, (Instr.fieldAt 65 (.pointer (some ⟨Mb, 0, none⟩)) 2).run Try.prog W' = .ok (.pointer (some ⟨Mb, 2, none⟩)) W' := by intro W'; simp [go_sem]
            have hf3 : ∀ W' : World, (Instr.fieldAt 65 (.pointer (some ⟨Mb, 0, none⟩)) 3).run Try.prog W' = .ok (.pointer (some ⟨Mb, 3, none⟩)) W' := by intro W'; simp [go_sem]
            have hnN : ∀ W : World, (binOp .neq 2 (.int .i64 (N5 : Int)) (.int .i64 (N5 : Int))).run Try.prog W = .ok (.bool false) W := by intro W; simp [go_sem]
            have hnb : ∀ W : World, (binOp .neq 4 (.bool de5) (.bool de5)).run Try.prog W = .ok (.bool false) W := by intro W; cases de5 <;> rfl
            have hnr : ∀ W : World, (binOp .neq 3 (.int .i64 ((((n - 2) / 2 : Nat) : Int) * 512)) (.int .i64 ((((n - 2) / 2 : Nat) : Int) * 512))).run Try.prog W = .ok (.bool false) W := by intro W; simp [go_sem]
            refine plain_region_draws (fun W => ModelAt W Mb su5 ma5 (N5 : Int) de5 op5) (by kernel_rfl) hS6 (fun hS => ?_)
            refine take 0 118 (v := .pointer (some ⟨b, 0, none⟩)) rfl rfl (by kernel_rfl) (by kernel_rfl) (by kernel_rfl) rfl (fun W hW => exec_move rfl rfl) (by assumption) ?_
            simp only [Act.put, List.setIfInBounds_toArray, List.set_cons_zero, List.set_cons_succ]
            refine take 3 121 (v := .pointer (some ⟨Mb, 0, none⟩)) rfl rfl (by kernel_rfl) (by kernel_rfl) (by kernel_rfl) rfl (fun W hW => exec_move rfl rfl) (by assumption) ?_
            simp only [Act.put, List.setIfInBounds_toArray, List.set_cons_zero, List.set_cons_succ]
            refine take 4 122 (v := .pointer (some ⟨Mb, 0, none⟩)) rfl rfl (by kernel_rfl) (by kernel_rfl) (by kernel_rfl) rfl (fun W hW => rfl) (by assumption) ?_
            simp only [Act.put, List.setIfInBounds_toArray, List.set_cons_zero, List.set_cons_succ]
            refine take 5 123 (v := .pointer (some ⟨Mb, 0, none⟩)) rfl rfl (by kernel_rfl) (by kernel_rfl) (by kernel_rfl) rfl (fun W hW => exec_fieldAddr rfl rfl (hf0 W)) (by assumption) ?_
            simp only [Act.put, List.setIfInBounds_toArray, List.set_cons_zero, List.set_cons_succ]
            refine take 6 124 (v := .string (strB su5)) rfl rfl (by kernel_rfl) (by kernel_rfl) (by kernel_rfl) rfl (fun W hW => exec_load rfl rfl (run_load1 (w := W) Try.underlying9 rfl hW.cells.1)) (by assumption) ?_
            simp only [Act.put, List.setIfInBounds_toArray, List.set_cons_zero, List.set_cons_succ]
            refine onlyCall 1 119 rfl rfl (by kernel_rfl) rfl (exec_call [.pointer (some ⟨b, 0, none⟩)] rfl rfl Try.func17 (by kernel_rfl) (by kernel_rfl)) ?_
            refine (hbk6d.bytes (by omega)).mono ?_
            rintro e w7 ⟨a7, c7, rfl, hown7, hbk7, hb7⟩
            have hS7 := hS6.below hb7
            refine ⟨_, rfl, .inr hS7, ?_⟩
            simp only [Act.put, List.setIfInBounds_toArray, List.set_cons_zero, List.set_cons_succ]
            refine onlyRun 2 120 (v := .string (strB su5)) rfl rfl (by kernel_rfl) rfl (exec_convert rfl rfl (run_str hown7.rd)) (.inr hS7) ?_
            simp only [Act.put, List.setIfInBounds_toArray, List.set_cons_zero, List.set_cons_succ]
            refine take 7 125 (v := .bool false) rfl rfl (by kernel_rfl) (by kernel_rfl) (by kernel_rfl) rfl (fun W hW => exec_bins rfl rfl rfl (run_nesb su5 su5 false (by simp) W)) (by assumption) ?_
            simp only [Act.put, List.setIfInBounds_toArray, List.set_cons_zero, List.set_cons_succ]
            refine take 8 126 (v := .bool false) rfl rfl (by kernel_rfl) (by kernel_rfl) (by kernel_rfl) rfl (fun W hW => exec_move rfl rfl) (by assumption) ?_
            simp only [Act.put, List.setIfInBounds_toArray, List.set_cons_zero, List.set_cons_succ]
            refine take 9 127 (v := .int .i64 (N5 : Int)) rfl rfl (by kernel_rfl) (by kernel_rfl) (by kernel_rfl) rfl (fun W hW => exec_move rfl rfl) (by assumption) ?_
            simp only [Act.put, List.setIfInBounds_toArray, List.set_cons_zero, List.set_cons_succ]
            refine take 10 128 (v := .pointer (some ⟨Mb, 0, none⟩)) rfl rfl (by kernel_rfl) (by kernel_rfl) (by kernel_rfl) rfl (fun W hW => exec_move rfl rfl) (by assumption) ?_
            simp only [Act.put, List.setIfInBounds_toArray, List.set_cons_zero, List.set_cons_succ]
            refine take 11 129 (v := .pointer (some ⟨Mb, 0, none⟩)) rfl rfl (by kernel_rfl) (by kernel_rfl) (by kernel_rfl) rfl (fun W hW => rfl) (by assumption) ?_
            simp only [Act.put, List.setIfInBounds_toArray, List.set_cons_zero, List.set_cons_succ]
            refine take 12 130 (v := .pointer (some ⟨Mb, 2, none⟩)) rfl rfl (by kernel_rfl) (by kernel_rfl) (by kernel_rfl) rfl (fun W hW => exec_fieldAddr rfl rfl (hf2 W)) (by assumption) ?_
            simp only [Act.put, List.setIfInBounds_toArray, List.set_cons_zero, List.set_cons_succ]
            refine take 13 131 (v := .int .i64 (N5 : Int)) rfl rfl (by kernel_rfl) (by kernel_rfl) (by kernel_rfl) rfl (fun W hW => exec_load rfl rfl (run_load1 (w := W) Try.underlying2 rfl hW.cells.2.2.1)) (by assumption) ?_
            simp only [Act.put, List.setIfInBounds_toArray, List.set_cons_zero, List.set_cons_succ]
            refine take 14 132 (v := .bool false) rfl rfl (by kernel_rfl) (by kernel_rfl) (by kernel_rfl) rfl (fun W hW => exec_bini rfl rfl rfl (hnN W)) (by assumption) ?_
            simp only [Act.put, List.setIfInBounds_toArray, List.set_cons_zero, List.set_cons_succ]
            refine take 15 133 (v := .bool false) rfl rfl (by kernel_rfl) (by kernel_rfl) (by kernel_rfl) rfl (fun W hW => rfl) (by assumption) ?_
            simp only [Act.put, List.setIfInBounds_toArray, List.set_cons_zero, List.set_cons_succ]
            refine take 16 134 (v := .bool false) rfl rfl (by kernel_rfl) (by kernel_rfl) (by kernel_rfl) rfl (fun W hW => exec_move rfl rfl) (by assumption) ?_
            simp only [Act.put, List.setIfInBounds_toArray, List.set_cons_zero, List.set_cons_succ]
            refine take 17 135 (v := .bool de5) rfl rfl (by kernel_rfl) (by kernel_rfl) (by kernel_rfl) rfl (fun W hW => exec_move rfl rfl) (by assumption) ?_
            simp only [Act.put, List.setIfInBounds_toArray, List.set_cons_zero, List.set_cons_succ]
            refine take 18 136 (v := .pointer (some ⟨Mb, 0, none⟩)) rfl rfl (by kernel_rfl) (by kernel_rfl) (by kernel_rfl) rfl (fun W hW => exec_move rfl rfl) (by assumption) ?_
            simp only [Act.put, List.setIfInBounds_toArray, List.set_cons_zero, List.set_cons_succ]
            refine take 19 137 (v := .pointer (some ⟨Mb, 0, none⟩)) rfl rfl (by kernel_rfl) (by kernel_rfl) (by kernel_rfl) rfl (fun W hW => rfl) (by assumption) ?_
            simp only [Act.put, List.setIfInBounds_toArray, List.set_cons_zero, List.set_cons_succ]
            refine take 20 138 (v := .pointer (some ⟨Mb, 3, none⟩)) rfl rfl (by kernel_rfl) (by kernel_rfl) (by kernel_rfl) rfl (fun W hW => exec_fieldAddr rfl rfl (hf3 W)) (by assumption) ?_
            simp only [Act.put, List.setIfInBounds_toArray, List.set_cons_zero, List.set_cons_succ]
            refine take 21 139 (v := .bool de5) rfl rfl (by kernel_rfl) (by kernel_rfl) (by kernel_rfl) rfl (fun W hW => exec_load rfl rfl (run_load1 (w := W) Try.underlying4 rfl hW.cells.2.2.2.1)) (by assumption) ?_
            simp only [Act.put, List.setIfInBounds_toArray, List.set_cons_zero, List.set_cons_succ]
            refine take 22 140 (v := .bool false) rfl rfl (by kernel_rfl) (by kernel_rfl) (by kernel_rfl) rfl (fun W hW => exec_binb rfl rfl rfl (hnb W)) (by assumption) ?_
            simp only [Act.put, List.setIfInBounds_toArray, List.set_cons_zero, List.set_cons_succ]
            refine take 23 141 (v := .bool false) rfl rfl (by kernel_rfl) (by kernel_rfl) (by kernel_rfl) rfl (fun W hW => rfl) (by assumption) ?_
            simp only [Act.put, List.setIfInBounds_toArray, List.set_cons_zero, List.set_cons_succ]
            refine take 24 142 (v := .bool false) rfl rfl (by kernel_rfl) (by kernel_rfl) (by kernel_rfl) rfl (fun W hW => exec_move rfl rfl) (by assumption) ?_
            simp only [Act.put, List.setIfInBounds_toArray, List.set_cons_zero, List.set_cons_succ]
            refine take 25 143 (v := .int .i64 ((((n - 2) / 2 : Nat) : Int) * 512)) rfl rfl (by kernel_rfl) (by kernel_rfl) (by kernel_rfl) rfl (fun W hW => exec_move rfl rfl) (by assumption) ?_
            simp only [Act.put, List.setIfInBounds_toArray, List.set_cons_zero, List.set_cons_succ]
            refine take 26 144 (v := .int .i64 (n : Int)) rfl rfl (by kernel_rfl) (by kernel_rfl) (by kernel_rfl) rfl (fun W hW => exec_move rfl rfl) (by assumption) ?_
            simp only [Act.put, List.setIfInBounds_toArray, List.set_cons_zero, List.set_cons_succ]
            refine onlyCall 27 145 rfl rfl (by kernel_rfl) rfl (exec_call [.int .i64 (n : Int)] rfl rfl Try.func29 (by kernel_rfl) (by kernel_rfl)) ?_
            refine (ref_half n (by omega) (by omega) _).mono ?_
            rintro e w' ⟨rfl, rfl⟩
            refine ⟨_, rfl, .inr hS7, ?_⟩
            simp only [Act.put, List.setIfInBounds_toArray, List.set_cons_zero, List.set_cons_succ]
            refine take 28 146 (v := .int .i64 ((((n - 2) / 2 : Nat) : Int) * 512)) rfl rfl (by kernel_rfl) (by kernel_rfl) (by kernel_rfl) rfl (fun W hW => exec_mul512 rfl rfl rfl (by omega)) (by assumption) ?_
            simp only [Act.put, List.setIfInBounds_toArray, List.set_cons_zero, List.set_cons_succ]
            refine take 29 147 (v := .bool false) rfl rfl (by kernel_rfl) (by kernel_rfl) (by kernel_rfl) rfl (fun W hW => exec_bini rfl rfl rfl (hnr W)) (by assumption) ?_
            simp only [Act.put, List.setIfInBounds_toArray, List.set_cons_zero, List.set_cons_succ]
            refine take 30 148 (v := .bool false) rfl rfl (by kernel_rfl) (by kernel_rfl) (by kernel_rfl) rfl (fun W hW => rfl) (by assumption) ?_
            simp only [Act.put, List.setIfInBounds_toArray, List.set_cons_zero, List.set_cons_succ]
            refine done (by kernel_rfl) ?_ _
            have Hnew : Hid (PlayI w w7 Mb n (k + 1) b) := Lib.hid ⟨a5, d5, N5, su5, ma5, de5, op5, hbk7, hS7, HR5.out⟩
            clear hS hS6 hS7 hbk7 hbk6d hbk6 hM6 hdr hf0 hf2 hf3 hnN hnb hnr hown7 hb7 hsu H6
            go_wp2
            go_roundw
            case rel => exact ⟨k + 1, b, by omega, by go_num, rfl, Hnew.out⟩
            case measure => simp [intOf]; omega
          · have hge : ∀ W : World, (binOp .geq 3 (.int .i64 num) (.int .i64 0)).run Try.prog W = .ok (.bool true) W := by
              intro W
              simp [go_sem]
              omega
            have hlt3 : ∀ W : World, (binOp .lss 3 (.int .i64 num) (.int .i64 1073741824)).run Try.prog W = .ok (.bool false) W := by
              intro W
              simp [go_sem]
              omega
            refine plain_region_draws (fun W => W.cell? ⟨wr.heap.size, 1, none⟩ = some (.int .i64 num)) (by kernel_rfl) hS1 (fun hS => ?_)
            refine take 0 56 (v := .pointer (some ⟨wr.heap.size, 1, none⟩)) rfl rfl (by kernel_rfl) (by kernel_rfl) (by kernel_rfl) rfl (fun W hW => exec_fieldAddr rfl rfl (hfb W)) (by assumption) ?_
            simp only [Act.put, List.setIfInBounds_toArray, List.set_cons_zero, List.set_cons_succ]
            refine take 1 57 (v := .int .i64 num) rfl rfl (by kernel_rfl) (by kernel_rfl) (by kernel_rfl) rfl (fun W hW => exec_load rfl rfl (run_load1 (w := W) Try.underlying3 rfl hW)) (by assumption) ?_
            simp only [Act.put, List.setIfInBounds_toArray, List.set_cons_zero, List.set_cons_succ]
            refine take 2 58 (v := .bool true) rfl rfl (by kernel_rfl) (by kernel_rfl) (by kernel_rfl) rfl (fun W hW => exec_bini rfl rfl rfl (hge W)) (by assumption) ?_
            simp only [Act.put, List.setIfInBounds_toArray, List.set_cons_zero, List.set_cons_succ]
            refine take 3 59 (v := .bool true) rfl rfl (by kernel_rfl) (by kernel_rfl) (by kernel_rfl) rfl (fun W hW => exec_move rfl rfl) (by assumption) ?_
            simp only [Act.put, List.setIfInBounds_toArray, List.set_cons_zero, List.set_cons_succ]
            refine take 4 60 (v := .pointer (some ⟨wr.heap.size, 1, none⟩)) rfl rfl (by kernel_rfl) (by kernel_rfl) (by kernel_rfl) rfl (fun W hW => exec_fieldAddr rfl rfl (hfb W)) (by assumption) ?_
            simp only [Act.put, List.setIfInBounds_toArray, List.set_cons_zero, List.set_cons_succ]
            refine take 5 61 (v := .int .i64 num) rfl rfl (by kernel_rfl) (by kernel_rfl) (by kernel_rfl) rfl (fun W hW => exec_load rfl rfl (run_load1 (w := W) Try.underlying3 rfl hW)) (by assumption) ?_
            simp only [Act.put, List.setIfInBounds_toArray, List.set_cons_zero, List.set_cons_succ]
            refine take 6 62 (v := .bool false) rfl rfl (by kernel_rfl) (by kernel_rfl) (by kernel_rfl) rfl (fun W hW => exec_bini rfl rfl rfl (hlt3 W)) (by assumption) ?_
            simp only [Act.put, List.setIfInBounds_toArray, List.set_cons_zero, List.set_cons_succ]
            refine take 7 63 (v := .bool false) rfl rfl (by kernel_rfl) (by kernel_rfl) (by kernel_rfl) rfl (fun W hW => rfl) (by assumption) ?_
            simp only [Act.put, List.setIfInBounds_toArray, List.set_cons_zero, List.set_cons_succ]
            refine take 8 64 (v := .bool false) rfl rfl (by kernel_rfl) (by kernel_rfl) (by kernel_rfl) rfl (fun W hW => exec_move rfl rfl) (by assumption) ?_
            simp only [Act.put, List.setIfInBounds_toArray, List.set_cons_zero, List.set_cons_succ]
            refine takeNot 9 65 rfl rfl (by kernel_rfl) (by kernel_rfl) (by kernel_rfl) rfl (by assumption) ?_
            simp only [Act.put, List.setIfInBounds_toArray, List.set_cons_zero, List.set_cons_succ]
            refine takeNot 10 66 rfl rfl (by kernel_rfl) (by kernel_rfl) (by kernel_rfl) rfl (by assumption) ?_
            simp only [Act.put, List.setIfInBounds_toArray, List.set_cons_zero, List.set_cons_succ]
            refine takeNot 12 68 rfl rfl (by kernel_rfl) (by kernel_rfl) (by kernel_rfl) rfl (by assumption) ?_
            simp only [Act.put, List.setIfInBounds_toArray, List.set_cons_zero, List.set_cons_succ]
            refine takeNot 13 69 rfl rfl (by kernel_rfl) (by kernel_rfl) (by kernel_rfl) rfl (by assumption) ?_
            simp only [Act.put, List.setIfInBounds_toArray, List.set_cons_zero, List.set_cons_succ]
            refine onlyNot 11 67 rfl rfl (by kernel_rfl) rfl ?_ (.inr hS1)
            simp only [Act.put, List.setIfInBounds_toArray, List.set_cons_zero, List.set_cons_succ]
            refine takeNot 14 70 rfl rfl (by kernel_rfl) (by kernel_rfl) (by kernel_rfl) rfl (by assumption) ?_
            simp only [Act.put, List.setIfInBounds_toArray, List.set_cons_zero, List.set_cons_succ]
            refine onlyNot 15 71 rfl rfl (by kernel_rfl) rfl ?_ (.inr hS1)
            simp only [Act.put, List.setIfInBounds_toArray, List.set_cons_zero, List.set_cons_succ]
            refine onlyNot 16 72 rfl rfl (by kernel_rfl) rfl ?_ (.inr hS1)
            simp only [Act.put, List.setIfInBounds_toArray, List.set_cons_zero, List.set_cons_succ]
            refine takeNot 17 73 rfl rfl (by kernel_rfl) (by kernel_rfl) (by kernel_rfl) rfl (by assumption) ?_
            simp only [Act.put, List.setIfInBounds_toArray, List.set_cons_zero, List.set_cons_succ]
            refine take 18 74 (v := .bool false) rfl rfl (by kernel_rfl) (by kernel_rfl) (by kernel_rfl) rfl (fun W hW => rfl) (by assumption) ?_
            simp only [Act.put, List.setIfInBounds_toArray, List.set_cons_zero, List.set_cons_succ]
            refine done (by kernel_rfl) ?_ _
            have HXe : Hid (PlayI w W1.drew Mb n (k + 1) b) := Lib.hid ⟨a, d, N, sure, may, dead, op, hbk1.grow hdr, hM1.below hdr, hR.mono⟩
            obtain ⟨a5, d5, N5, su5, ma5, de5, op5, hbk5, hM5, hR5⟩ := HXe.out
            have hst5 := hbk5.state (by rw [hR5.1]; exact h4)
            have hhf5 : hf d5 = (n - 2) / 2 := by unfold hf; rw [hR5.1]
            rw [hhf5] at hst5
            have HSt := Lib.hid hst5
            have HM5 := Lib.hid hM5
            have HR5 := Lib.hid hR5
            clear hbk5 hM5 hR5 hst5 hhf5 HXe
            clear hS hS1 hin1 hR hbk1 hM1 hW1 hfb hdr hbkx hge hlt3
            go_wp2_with (first
              | (go_at_call 22; refine HSt.out.mono ?_; rintro e w6 ⟨rfl, hbk6, hb6⟩; have H6 := Lib.hid (And.intro hbk6 (HM5.out.below hb6)); clear hbk6 hb6 HSt))
            obtain ⟨hbk6, hM6⟩ := H6.out
            have hdr : Below w6.heap.size w6 w6.drew := (Below.refl _ _).drew
            have hbk6d := hbk6.grow hdr
            have hS6 := hM6.below hdr
            have hsu : su5.length ≤ 3000 := HR5.out.2.2.2.2.1
            have hf0 : ∀ W' : World, (Instr.fieldAt 65 (.pointer (some ⟨Mb, 0, none⟩)) 0).run Try.prog W' = .ok (.pointer (some ⟨Mb, 0, none⟩)) W' := by intro W'; simp [go_sem]
            have hf2 : ∀ W' : World, (Instr.fieldAt 65 (.pointer (some ⟨Mb, 0, none⟩)) 2).run Try.prog W' = .ok (.pointer (some ⟨Mb, 2, none⟩)) W' := by intro W'; simp [go_sem]
            have hf3 : ∀ W' : World, (Instr.fieldAt 65 (.pointer (some ⟨Mb, 0, none⟩)) 3).run Try.prog W' = .ok (.pointer (some ⟨Mb, 3, none⟩)) W' := by intro W'; simp [go_sem]
            have hnN : ∀ W : World, (binOp .neq 2 (.int .i64 (N5 : Int)) (.int .i64 (N5 : Int))).run Try.prog W = .ok (.bool false) W := by intro W; simp [go_sem]
            have hnb : ∀ W : World, (binOp .neq 4 (.bool de5) (.bool de5)).run Try.prog W = .ok (.bool false) W := by intro W; cases de5 <;> rfl
            have hnr : ∀ W : World, (binOp .neq 3 (.int .i64 ((((n - 2) / 2 : Nat) : Int) * 512)) (.int .i64 ((((n - 2) / 2 : Nat) : Int) * 512))).run Try.prog W = .ok (.bool false) W := by intro W; simp [go_sem]
            refine plain_region_draws (fun W => ModelAt W Mb su5 ma5 (N5 : Int) de5 op5) (by kernel_rfl) hS6 (fun hS => ?_)
            refine take 0 118 (v := .pointer (some ⟨b, 0, none⟩)) rfl rfl (by kernel_rfl) (by kernel_rfl) (by kernel_rfl) rfl (fun W hW => exec_move rfl rfl) (by assumption) ?_
            simp only [Act.put, List.setIfInBounds_toArray, List.set_cons_zero, List.set_cons_succ]
            refine take 3 121 (v := .pointer (some ⟨Mb, 0, none⟩)) rfl rfl (by kernel_rfl) (by kernel_rfl) (by kernel_rfl) rfl (fun W hW => exec_move rfl rfl) (by assumption) ?_
            simp only [Act.put, List.setIfInBounds_toArray, List.set_cons_zero, List.set_cons_succ]
            refine take 4 122 (v := .pointer (some ⟨Mb, 0, none⟩)) rfl rfl (by kernel_rfl) (by kernel_rfl) (by kernel_rfl) rfl (fun W hW => rfl) (by assumption) ?_
            simp only [Act.put, List.setIfInBounds_toArray, List.set_cons_zero, List.set_cons_succ]
            refine take 5 123 (v := .pointer (some ⟨Mb, 0, none⟩)) rfl rfl (by kernel_rfl) (by kernel_rfl) (by kernel_rfl) rfl (fun W hW => exec_fieldAddr rfl rfl (hf0 W)) (by assumption) ?_
            simp only [Act.put, List.setIfInBounds_toArray, List.set_cons_zero, List.set_cons_succ]
            refine take 6 124 (v := .string (strB su5)) rfl rfl (by kernel_rfl) (by kernel_rfl) (by kernel_rfl) rfl (fun W hW => exec_load rfl rfl (run_load1 (w := W) Try.underlying9 rfl hW.cells.1)) (by assumption) ?_
            simp only [Act.put, List.setIfInBounds_toArray, List.set_cons_zero, List.set_cons_succ]
            refine onlyCall 1 119 rfl rfl (by kernel_rfl) rfl (exec_call [.pointer (some ⟨b, 0, none⟩)] rfl rfl Try.func17 (by kernel_rfl) (by kernel_rfl)) ?_
            refine (hbk6d.bytes (by omega)).mono ?_
            rintro e w7 ⟨a7, c7, rfl, hown7, hbk7, hb7⟩
            have hS7 := hS6.below hb7
            refine ⟨_, rfl, .inr hS7, ?_⟩
            simp only [Act.put, List.setIfInBounds_toArray, List.set_cons_zero, List.set_cons_succ]
            refine onlyRun 2 120 (v := .string (strB su5)) rfl rfl (by kernel_rfl) rfl (exec_convert rfl rfl (run_str hown7.rd)) (.inr hS7) ?_
            simp only [Act.put, List.setIfInBounds_toArray, List.set_cons_zero, List.set_cons_succ]
            refine take 7 125 (v := .bool false) rfl rfl (by kernel_rfl) (by kernel_rfl) (by kernel_rfl) rfl (fun W hW => exec_bins rfl rfl rfl (run_nesb su5 su5 false (by simp) W)) (by assumption) ?_
            simp only [Act.put, List.setIfInBounds_toArray, List.set_cons_zero, List.set_cons_succ]
            refine take 8 126 (v := .bool false) rfl rfl (by kernel_rfl) (by kernel_rfl) (by kernel_rfl) rfl (fun W hW => exec_move rfl rfl) (by assumption) ?_
            simp only [Act.put, List.setIfInBounds_toArray, List.set_cons_zero, List.set_cons_succ]
            refine take 9 127 (v := .int .i64 (N5 : Int)) rfl rfl (by kernel_rfl) (by kernel_rfl) (by kernel_rfl) rfl (fun W hW => exec_move rfl rfl) (by assumption) ?_
            simp only [Act.put, List.setIfInBounds_toArray, List.set_cons_zero, List.set_cons_succ]
            refine take 10 128 (v := .pointer (some ⟨Mb, 0, none⟩)) rfl rfl (by kernel_rfl) (by kernel_rfl) (by kernel_rfl) rfl (fun W hW => exec_move rfl rfl) (by assumption) ?_
            simp only [Act.put, List.setIfInBounds_toArray, List.set_cons_zero, List.set_cons_succ]
            refine take 11 129 (v := .pointer (some ⟨Mb, 0, none⟩)) rfl rfl (by kernel_rfl) (by kernel_rfl) (by kernel_rfl) rfl (fun W hW => rfl) (by assumption) ?_
            simp only [Act.put, List.setIfInBounds_toArray, List.set_cons_zero, List.set_cons_succ]
            refine take 12 130 (v := .pointer (some ⟨Mb, 2, none⟩)) rfl rfl (by kernel_rfl) (by kernel_rfl) (by kernel_rfl) rfl (fun W hW => exec_fieldAddr rfl rfl (hf2 W)) (by assumption) ?_
            simp only [Act.put, List.setIfInBounds_toArray, List.set_cons_zero, List.set_cons_succ]
            refine take 13 131 (v := .int .i64 (N5 : Int)) rfl rfl (by kernel_rfl) (by kernel_rfl) (by kernel_rfl) rfl (fun W hW => exec_load rfl rfl (run_load1 (w := W) Try.underlying2 rfl hW.cells.2.2.1)) (by assumption) ?_
            simp only [Act.put, List.setIfInBounds_toArray, List.set_cons_zero, List.set_cons_succ]
            refine take 14 132 (v := .bool false) rfl rfl (by kernel_rfl) (by kernel_rfl) (by kernel_rfl) rfl (fun W hW => exec_bini rfl rfl rfl (hnN W)) (by assumption) ?_
            simp only [Act.put, List.setIfInBounds_toArray, List.set_cons_zero, List.set_cons_succ]
            refine take 15 133 (v := .bool false) rfl rfl (by kernel_rfl) (by kernel_rfl) (by kernel_rfl) rfl (fun W hW => rfl) (by assumption) ?_
            simp only [Act.put, List.setIfInBounds_toArray, List.set_cons_zero, List.set_cons_succ]
            refine take 16 134 (v := .bool false) rfl rfl (by kernel_rfl) (by kernel_rfl) (by kernel_rfl) rfl (fun W hW => exec_move rfl rfl) (by assumption) ?_
            simp only [Act.put, List.setIfInBounds_toArray, List.set_cons_zero, List.set_cons_succ]
            refine take 17 135 (v := .bool de5) rfl rfl (by kernel_rfl) (by kernel_rfl) (by kernel_rfl) rfl (fun W hW => exec_move rfl rfl) (by assumption) ?_
            simp only [Act.put, List.setIfInBounds_toArray, List.set_cons_zero, List.set_cons_succ]
            refine take 18 136 (v := .pointer (some ⟨Mb, 0, none⟩)) rfl rfl (by kernel_rfl) (by kernel_rfl) (by kernel_rfl) rfl (fun W hW => exec_move rfl rfl) (by assumption) ?_
            simp only [Act.put, List.setIfInBounds_toArray, List.set_cons_zero, List.set_cons_succ]
            refine take 19 137 (v := .pointer (some ⟨Mb, 0, none⟩)) rfl rfl (by kernel_rfl) (by kernel_rfl) (by kernel_rfl) rfl (fun W hW => rfl) (by assumption) ?_
            simp only [Act.put, List.setIfInBounds_toArray, List.set_cons_zero, List.set_cons_succ]
            refine take 20 138 (v := .pointer (some ⟨Mb, 3, none⟩)) rfl rfl (by kernel_rfl) (by kernel_rfl) (by kernel_rfl) rfl (fun W hW => exec_fieldAddr rfl rfl (hf3 W)) (by assumption) ?_
            simp only [Act.put, List.setIfInBounds_toArray, List.set_cons_zero, List.set_cons_succ]
            refine take 21 139 (v := .bool de5) rfl rfl (by kernel_rfl) (by kernel_rfl) (by kernel_rfl) rfl (fun W hW => exec_load rfl rfl (run_load1 (w := W) Try.underlying4 rfl hW.cells.2.2.2.1)) (by assumption) ?_
            simp only [Act.put, List.setIfInBounds_toArray, List.set_cons_zero, List.set_cons_succ]
            refine take 22 140 (v := .bool false) rfl rfl (by kernel_rfl) (by kernel_rfl) (by kernel_rfl) rfl (fun W hW => exec_binb rfl rfl rfl (hnb W)) (by assumption) ?_
            simp only [Act.put, List.setIfInBounds_toArray, List.set_cons_zero, List.set_cons_succ]
            refine take 23 141 (v := .bool false) rfl rfl (by kernel_rfl) (by kernel_rfl) (by kernel_rfl) rfl (fun W hW => rfl) (by assumption) ?_
            simp only [Act.put, List.setIfInBounds_toArray, List.set_cons_zero, List.set_cons_succ]
            refine take 24 142 (v := .bool false) rfl rfl (by kernel_rfl) (by kernel_rfl) (by kernel_rfl) rfl (fun W hW => exec_move rfl rfl) (by assumption) ?_
            simp only [Act.put, List.setIfInBounds_toArray, List.set_cons_zero, List.set_cons_succ]
            refine take 25 143 (v := .int .i64 ((((n - 2) / 2 : Nat) : Int) * 512)) rfl rfl (by kernel_rfl) (by kernel_rfl) (by kernel_rfl) rfl (fun W hW => exec_move rfl rfl) (by assumption) ?_
            simp only [Act.put, List.setIfInBounds_toArray, List.set_cons_zero, List.set_cons_succ]
            refine take 26 144 (v := .int .i64 (n : Int)) rfl rfl (by kernel_rfl) (by kernel_rfl) (by kernel_rfl) rfl (fun W hW => exec_move rfl rfl) (by assumption) ?_
            simp only [Act.put, List.setIfInBounds_toArray, List.set_cons_zero, List.set_cons_succ]
            refine onlyCall 27 145 rfl rfl (by kernel_rfl) rfl (exec_call [.int .i64 (n : Int)] rfl rfl Try.func29 (by kernel_rfl) (by kernel_rfl)) ?_
            refine (ref_half n (by omega) (by omega) _).mono ?_
            rintro e w' ⟨rfl, rfl⟩
            refine ⟨_, rfl, .inr hS7, ?_⟩
            simp only [Act.put, List.setIfInBounds_toArray, List.set_cons_zero, List.set_cons_succ]
            refine take 28 146 (v := .int .i64 ((((n - 2) / 2 : Nat) : Int) * 512)) rfl rfl (by kernel_rfl) (by kernel_rfl) (by kernel_rfl) rfl (fun W hW => exec_mul512 rfl rfl rfl (by omega)) (by assumption) ?_
            simp only [Act.put, List.setIfInBounds_toArray, List.set_cons_zero, List.set_cons_succ]
            refine take 29 147 (v := .bool false) rfl rfl (by kernel_rfl) (by kernel_rfl) (by kernel_rfl) rfl (fun W hW => exec_bini rfl rfl rfl (hnr W)) (by assumption) ?_
            simp only [Act.put, List.setIfInBounds_toArray, List.set_cons_zero, List.set_cons_succ]
            refine take 30 148 (v := .bool false) rfl rfl (by kernel_rfl) (by kernel_rfl) (by kernel_rfl) rfl (fun W hW => rfl) (by assumption) ?_
            simp only [Act.put, List.setIfInBounds_toArray, List.set_cons_zero, List.set_cons_succ]
            refine done (by kernel_rfl) ?_ _
            have Hnew : Hid (PlayI w w7 Mb n (k + 1) b) := Lib.hid ⟨a5, d5, N5, su5, ma5, de5, op5, hbk7, hS7, HR5.out⟩
            clear hS hS6 hS7 hbk7 hbk6d hbk6 hM6 hdr hf0 hf2 hf3 hnN hnb hnr hown7 hb7 hsu H6
            go_wp2
            go_roundw
            case rel => exact ⟨k + 1, b, by omega, by go_num, rfl, Hnew.out⟩
            case measure => simp [intOf]; omega
          · have hge : ∀ W : World, (binOp .geq 3 (.int .i64 num) (.int .i64 0)).run Try.prog W = .ok (.bool true) W := by
              intro W
              simp [go_sem]
              omega
            have hlt3 : ∀ W : World, (binOp .lss 3 (.int .i64 num) (.int .i64 1073741824)).run Try.prog W = .ok (.bool true) W := by
              intro W
              simp [go_sem]
              omega
            have hadd : ∀ W : World, (binOp .add 3 (.int .i64 (d.steps : Int)) (.int .i64 num)).run Try.prog W = .ok (.int .i64 ((d.steps : Int) + num)) W := fun W => by
              have hw : IntKind.i64.wrap ((d.steps : Int) + num) = (d.steps : Int) + num := by simp [IntKind.wrap, IntKind.signed, IntKind.bits]; omega
              simp [go_sem, hw]
            have hne0 : ∀ W : World, (binOp .neq 30 (.int .i64 0) (.int .i64 0)).run Try.prog W = .ok (.bool false) W := by intro W; simp [go_sem]
            have hbs : (Instr.buildSlice 23 1 #[(0, .int .i64 ((d.steps : Int) + num))]).run Try.prog W1.drew = .ok (.slice (some ⟨W1.drew.heap.size, 0, none⟩) 1 1) (W1.drew.alloc (.cells #[.int .i64 ((d.steps : Int) + num)] 3)) := by simp [go_sem]
            have hb2 : Below W1.drew.heap.size W1.drew (W1.drew.alloc (.cells #[.int .i64 ((d.steps : Int) + num)] 3)) := (Below.refl _ _).alloc (Nat.le_refl _) _
            have hrdk : RdI (W1.drew.alloc (.cells #[.int .i64 ((d.steps : Int) + num)] 3)) (.slice (some ⟨W1.drew.heap.size, 0, none⟩) 1 1) [(d.steps : Int) + num] := ⟨some ⟨W1.drew.heap.size, 0, none⟩, 1, rfl, fun h => (by cases h), fun ad had => by
              cases had
              refine ⟨fun _ => rfl, fun i k hi => ?_⟩
              cases i with
              | zero => simp at hi; subst hi; exact cellOf (heap_alloc_new _ _) rfl
              | succ i => simp at hi⟩
            have hfail := (hbkx.grow hdr).fail (some ⟨W1.drew.heap.size, 0, none⟩) 1 1 [(d.steps : Int) + num] _ hb2 hrdk (fun g hg => by cases hg; exact Nat.le_refl _) (by show 1 ≤ 1000000; omega) hR.2.2.2.1 (by show k + 1 ≤ 1000000000; omega) (by simp [anyNeg]; omega)
            have hkeep5 : ∀ w5, Stays (fun x => x ≠ Mb ∧ x ≠ wr.heap.size) b (W1.drew.alloc (.cells #[.int .i64 ((d.steps : Int) + num)] 3)) w5 → w5.cell? ⟨wr.heap.size, 1, none⟩ = some (.int .i64 num) := fun w5 h =>
              (World.cell?_of_block (w := W1.drew.alloc (.cells #[.int .i64 ((d.steps : Int) + num)] 3)) (a := ⟨wr.heap.size, 1, none⟩) (h.2 wr.heap.size (fun h => h.2 rfl) hbx (by have := hb2.size; have : W1.drew.heap.size = W1.heap.size := rfl; omega))).trans (belowCell hb2 (ltOf hS1) hS1)
            have hS2 : (W1.drew.alloc (.cells #[.int .i64 ((d.steps : Int) + num)] 3)).cell? ⟨wr.heap.size, 1, none⟩ = some (.int .i64 num) := belowCell hb2 (ltOf hS1) hS1
            refine plain_region_draws (fun W => W.cell? ⟨wr.heap.size, 1, none⟩ = some (.int .i64 num)) (by kernel_rfl) hS1 (fun hS => ?_)
            refine take 0 56 (v := .pointer (some ⟨wr.heap.size, 1, none⟩)) rfl rfl (by kernel_rfl) (by kernel_rfl) (by kernel_rfl) rfl (fun W hW => exec_fieldAddr rfl rfl (hfb W)) (by assumption) ?_
            simp only [Act.put, List.setIfInBounds_toArray, List.set_cons_zero, List.set_cons_succ]
            refine take 1 57 (v := .int .i64 num) rfl rfl (by kernel_rfl) (by kernel_rfl) (by kernel_rfl) rfl (fun W hW => exec_load rfl rfl (run_load1 (w := W) Try.underlying3 rfl hW)) (by assumption) ?_
            simp only [Act.put, List.setIfInBounds_toArray, List.set_cons_zero, List.set_cons_succ]
            refine take 2 58 (v := .bool true) rfl rfl (by kernel_rfl) (by kernel_rfl) (by kernel_rfl) rfl (fun W hW => exec_bini rfl rfl rfl (hge W)) (by assumption) ?_
            simp only [Act.put, List.setIfInBounds_toArray, List.set_cons_zero, List.set_cons_succ]
            refine take 3 59 (v := .bool true) rfl rfl (by kernel_rfl) (by kernel_rfl) (by kernel_rfl) rfl (fun W hW => exec_move rfl rfl) (by assumption) ?_
            simp only [Act.put, List.setIfInBounds_toArray, List.set_cons_zero, List.set_cons_succ]
            refine take 4 60 (v := .pointer (some ⟨wr.heap.size, 1, none⟩)) rfl rfl (by kernel_rfl) (by kernel_rfl) (by kernel_rfl) rfl (fun W hW => exec_fieldAddr rfl rfl (hfb W)) (by assumption) ?_
            simp only [Act.put, List.setIfInBounds_toArray, List.set_cons_zero, List.set_cons_succ]
            refine take 5 61 (v := .int .i64 num) rfl rfl (by kernel_rfl) (by kernel_rfl) (by kernel_rfl) rfl (fun W hW => exec_load rfl rfl (run_load1 (w := W) Try.underlying3 rfl hW)) (by assumption) ?_
            simp only [Act.put, List.setIfInBounds_toArray, List.set_cons_zero, List.set_cons_succ]
            refine take 6 62 (v := .bool true) rfl rfl (by kernel_rfl) (by kernel_rfl) (by kernel_rfl) rfl (fun W hW => exec_bini rfl rfl rfl (hlt3 W)) (by assumption) ?_
            simp only [Act.put, List.setIfInBounds_toArray, List.set_cons_zero, List.set_cons_succ]
            refine take 7 63 (v := .bool true) rfl rfl (by kernel_rfl) (by kernel_rfl) (by kernel_rfl) rfl (fun W hW => rfl) (by assumption) ?_
            simp only [Act.put, List.setIfInBounds_toArray, List.set_cons_zero, List.set_cons_succ]
            refine take 8 64 (v := .bool true) rfl rfl (by kernel_rfl) (by kernel_rfl) (by kernel_rfl) rfl (fun W hW => exec_move rfl rfl) (by assumption) ?_
            simp only [Act.put, List.setIfInBounds_toArray, List.set_cons_zero, List.set_cons_succ]
            refine take 9 65 (v := .pointer (some ⟨a, 0, none⟩)) rfl rfl (by kernel_rfl) (by kernel_rfl) (by kernel_rfl) rfl (fun W hW => exec_move rfl rfl) (by assumption) ?_
            simp only [Act.put, List.setIfInBounds_toArray, List.set_cons_zero, List.set_cons_succ]
            refine take 10 66 (v := .pointer (some ⟨a, 0, none⟩)) rfl rfl (by kernel_rfl) (by kernel_rfl) (by kernel_rfl) rfl (fun W hW => exec_move rfl rfl) (by assumption) ?_
            simp only [Act.put, List.setIfInBounds_toArray, List.set_cons_zero, List.set_cons_succ]
            refine take 12 68 (v := .pointer (some ⟨wr.heap.size, 1, none⟩)) rfl rfl (by kernel_rfl) (by kernel_rfl) (by kernel_rfl) rfl (fun W hW => exec_fieldAddr rfl rfl (hfb W)) (by assumption) ?_
            simp only [Act.put, List.setIfInBounds_toArray, List.set_cons_zero, List.set_cons_succ]
            refine take 13 69 (v := .int .i64 num) rfl rfl (by kernel_rfl) (by kernel_rfl) (by kernel_rfl) rfl (fun W hW => exec_load rfl rfl (run_load1 (w := W) Try.underlying3 rfl hW)) (by assumption) ?_
            simp only [Act.put, List.setIfInBounds_toArray, List.set_cons_zero, List.set_cons_succ]
            refine onlyCall 11 67 rfl rfl (by kernel_rfl) rfl (exec_call [.pointer (some ⟨a, 0, none⟩)] rfl rfl Try.func25 (by kernel_rfl) (by kernel_rfl)) ?_
            refine (hbk1.grow hdr).dk.steps.mono ?_
            rintro e w' ⟨rfl, rfl⟩
            refine ⟨_, rfl, .inr (by assumption), ?_⟩
            simp only [Act.put, List.setIfInBounds_toArray, List.set_cons_zero, List.set_cons_succ]
            refine take 14 70 (v := .int .i64 ((d.steps : Int) + num)) rfl rfl (by kernel_rfl) (by kernel_rfl) (by kernel_rfl) rfl (fun W hW => exec_bini rfl rfl rfl (hadd W)) (by assumption) ?_
            simp only [Act.put, List.setIfInBounds_toArray, List.set_cons_zero, List.set_cons_succ]
            refine onlyRun 15 71 (v := .slice (some ⟨W1.drew.heap.size, 0, none⟩) 1 1) rfl rfl (by kernel_rfl) rfl (exec_buildSlice1 rfl rfl hbs) (.inr hS2) ?_
            simp only [Act.put, List.setIfInBounds_toArray, List.set_cons_zero, List.set_cons_succ]
            refine onlyCall 16 72 rfl rfl (by kernel_rfl) rfl (exec_call [.pointer (some ⟨a, 0, none⟩), .slice (some ⟨W1.drew.heap.size, 0, none⟩) 1 1] rfl rfl Try.func24 (by kernel_rfl) (by kernel_rfl)) ?_
            refine hfail.mono ?_
            rintro e w5 ⟨rfl, hbk5, hst5⟩
            have hin5 : w5.cell? ⟨wr.heap.size, 1, none⟩ = some (.int .i64 num) := hkeep5 w5 hst5
            refine ⟨_, rfl, .inr hin5, ?_⟩
            simp only [Act.put, List.setIfInBounds_toArray, List.set_cons_zero, List.set_cons_succ]
            refine take 17 73 (v := .bool false) rfl rfl (by kernel_rfl) (by kernel_rfl) (by kernel_rfl) rfl (fun W hW => exec_bini rfl rfl rfl (hne0 W)) (by assumption) ?_
            simp only [Act.put, List.setIfInBounds_toArray, List.set_cons_zero, List.set_cons_succ]
            refine take 18 74 (v := .bool false) rfl rfl (by kernel_rfl) (by kernel_rfl) (by kernel_rfl) rfl (fun W hW => rfl) (by assumption) ?_
            simp only [Act.put, List.setIfInBounds_toArray, List.set_cons_zero, List.set_cons_succ]
            refine done (by kernel_rfl) ?_ _
            have hM5 : ModelAt w5 Mb sure may (N : Int) dead op := (hst5.2 Mb (fun h => h.1 rfl) hMx (by have := hb2.size; have : W1.drew.heap.size = W1.heap.size := rfl; omega)).trans ((hM1.below hdr).below hb2)
            have HXe : Hid (PlayI w w5 Mb n (k + 1) b) := Lib.hid ⟨a, _, N, sure, may, dead, op, hbk5.mono (fun x _ h => h.1), hM5, hR.fail _⟩
            obtain ⟨a5, d5, N5, su5, ma5, de5, op5, hbk5, hM5, hR5⟩ := HXe.out
            have hst5 := hbk5.state (by rw [hR5.1]; exact h4)
            have hhf5 : hf d5 = (n - 2) / 2 := by unfold hf; rw [hR5.1]
            rw [hhf5] at hst5
            have HSt := Lib.hid hst5
            have HM5 := Lib.hid hM5
            have HR5 := Lib.hid hR5
            clear hbk5 hM5 hR5 hst5 hhf5 HXe
            clear hS hS1 hS2 hin1 hR hbkx hbk1 hM1 hW1 hfb hdr hge hlt3 hadd hne0 hbs hb2 hrdk hfail hin5 hst5 hbk5 hM5 hkeep5
            go_wp2_with (first
              | (go_at_call 22; refine HSt.out.mono ?_; rintro e w6 ⟨rfl, hbk6, hb6⟩; have H6 := Lib.hid (And.intro hbk6 (HM5.out.below hb6)); clear hbk6 hb6 HSt))
            obtain ⟨hbk6, hM6⟩ := H6.out
            have hdr : Below w6.heap.size w6 w6.drew := (Below.refl _ _).drew
            have hbk6d := hbk6.grow hdr
            have hS6 := hM6.below hdr
            have hsu : su5.length ≤ 3000 := HR5.out.2.2.2.2.1
            have hf0 : ∀ W' : World, (Instr.fieldAt 65 (.pointer (some ⟨Mb, 0, none⟩)) 0).run Try.prog W' = .ok (.pointer (some ⟨Mb, 0, none⟩)) W' := by intro W'; simp [go_sem]
            have hf2 : ∀ W' : World, (Instr.fieldAt 65 (.pointer (some ⟨Mb, 0, none⟩)) 2).run Try.prog W' = .ok (.pointer (some ⟨Mb, 2, none⟩)) W' := by intro W'; simp [go_sem]
            have hf3 : ∀ W' : World, (Instr.fieldAt 65 (.pointer (some ⟨Mb, 0, none⟩)) 3).run Try.prog W' = .ok (.pointer (some ⟨Mb, 3, none⟩)) W' := by intro W'; simp [go_sem]
            have hnN : ∀ W : World, (binOp .neq 2 (.int .i64 (N5 : Int)) (.int .i64 (N5 : Int))).run Try.prog W = .ok (.bool false) W := by intro W; simp [go_sem]
            have hnb : ∀ W : World, (binOp .neq 4 (.bool de5) (.bool de5)).run Try.prog W = .ok (.bool false) W := by intro W; cases de5 <;> rfl
            have hnr : ∀ W : World, (binOp .neq 3 (.int .i64 ((((n - 2) / 2 : Nat) : Int) * 512)) (.int .i64 ((((n - 2) / 2 : Nat) : Int) * 512))).run Try.prog W = .ok (.bool false) W := by intro W; simp [go_sem]
            refine plain_region_draws (fun W => ModelAt W Mb su5 ma5 (N5 : Int) de5 op5) (by kernel_rfl) hS6 (fun hS => ?_)
            refine take 0 118 (v := .pointer (some ⟨b, 0, none⟩)) rfl rfl (by kernel_rfl) (by kernel_rfl) (by kernel_rfl) rfl (fun W hW => exec_move rfl rfl) (by assumption) ?_
            simp only [Act.put, List.setIfInBounds_toArray, List.set_cons_zero, List.set_cons_succ]
            refine take 3 121 (v := .pointer (some ⟨Mb, 0, none⟩)) rfl rfl (by kernel_rfl) (by kernel_rfl) (by kernel_rfl) rfl (fun W hW => exec_move rfl rfl) (by assumption) ?_
            simp only [Act.put, List.setIfInBounds_toArray, List.set_cons_zero, List.set_cons_succ]
            refine take 4 122 (v := .pointer (some ⟨Mb, 0, none⟩)) rfl rfl (by kernel_rfl) (by kernel_rfl) (by kernel_rfl) rfl (fun W hW => rfl) (by assumption) ?_
            simp only [Act.put, List.setIfInBounds_toArray, List.set_cons_zero, List.set_cons_succ]
            refine take 5 123 (v := .pointer (some ⟨Mb, 0, none⟩)) rfl rfl (by kernel_rfl) (by kernel_rfl) (by kernel_rfl) rfl (fun W hW => exec_fieldAddr rfl rfl (hf0 W)) (by assumption) ?_
            simp only [Act.put, List.setIfInBounds_toArray, List.set_cons_zero, List.set_cons_succ]
            refine take 6 124 (v := .string (strB su5)) rfl rfl (by kernel_rfl) (by kernel_rfl) (by kernel_rfl) rfl (fun W hW => exec_load rfl rfl (run_load1 (w := W) Try.underlying9 rfl hW.cells.1)) (by assumption) ?_
            simp only [Act.put, List.setIfInBounds_toArray, List.set_cons_zero, List.set_cons_succ]
            refine onlyCall 1 119 rfl rfl (by kernel_rfl) rfl (exec_call [.pointer (some ⟨b, 0, none⟩)] rfl rfl Try.func17 (by kernel_rfl) (by kernel_rfl)) ?_
            refine (hbk6d.bytes (by omega)).mono ?_
            rintro e w7 ⟨a7, c7, rfl, hown7, hbk7, hb7⟩
            have hS7 := hS6.below hb7
            refine ⟨_, rfl, .inr hS7, ?_⟩
            simp only [Act.put, List.setIfInBounds_toArray, List.set_cons_zero, List.set_cons_succ]
            refine onlyRun 2 120 (v := .string (strB su5)) rfl rfl (by kernel_rfl) rfl (exec_convert rfl rfl (run_str hown7.rd)) (.inr hS7) ?_
            simp only [Act.put, List.setIfInBounds_toArray, List.set_cons_zero, List.set_cons_succ]
            refine take 7 125 (v := .bool false) rfl rfl (by kernel_rfl) (by kernel_rfl) (by kernel_rfl) rfl (fun W hW => exec_bins rfl rfl rfl (run_nesb su5 su5 false (by simp) W)) (by assumption) ?_
            simp only [Act.put, List.setIfInBounds_toArray, List.set_cons_zero, List.set_cons_succ]
            refine take 8 126 (v := .bool false) rfl rfl (by kernel_rfl) (by kernel_rfl) (by kernel_rfl) rfl (fun W hW => exec_move rfl rfl) (by assumption) ?_
            simp only [Act.put, List.setIfInBounds_toArray, List.set_cons_zero, List.set_cons_succ]
            refine take 9 127 (v := .int .i64 (N5 : Int)) rfl rfl (by kernel_rfl) (by kernel_rfl) (by kernel_rfl) rfl (fun W hW => exec_move rfl rfl) (by assumption) ?_
            simp only [Act.put, List.setIfInBounds_toArray, List.set_cons_zero, List.set_cons_succ]
            refine take 10 128 (v := .pointer (some ⟨Mb, 0, none⟩)) rfl rfl (by kernel_rfl) (by kernel_rfl) (by kernel_rfl) rfl (fun W hW => exec_move rfl rfl) (by assumption) ?_
            simp only [Act.put, List.setIfInBounds_toArray, List.set_cons_zero, List.set_cons_succ]
            refine take 11 129 (v := .pointer (some ⟨Mb, 0, none⟩)) rfl rfl (by kernel_rfl) (by kernel_rfl) (by kernel_rfl) rfl (fun W hW => rfl) (by assumption) ?_
            simp only [Act.put, List.setIfInBounds_toArray, List.set_cons_zero, List.set_cons_succ]
            refine take 12 130 (v := .pointer (some ⟨Mb, 2, none⟩)) rfl rfl (by kernel_rfl) (by kernel_rfl) (by kernel_rfl) rfl (fun W hW => exec_fieldAddr rfl rfl (hf2 W)) (by assumption) ?_
            simp only [Act.put, List.setIfInBounds_toArray, List.set_cons_zero, List.set_cons_succ]
            refine take 13 131 (v := .int .i64 (N5 : Int)) rfl rfl (by kernel_rfl) (by kernel_rfl) (by kernel_rfl) rfl (fun W hW => exec_load rfl rfl (run_load1 (w := W) Try.underlying2 rfl hW.cells.2.2.1)) (by assumption) ?_
            simp only [Act.put, List.setIfInBounds_toArray, List.set_cons_zero, List.set_cons_succ]
            refine take 14 132 (v := .bool false) rfl rfl (by kernel_rfl) (by kernel_rfl) (by kernel_rfl) rfl (fun W hW => exec_bini rfl rfl rfl (hnN W)) (by assumption) ?_
            simp only [Act.put, List.setIfInBounds_toArray, List.set_cons_zero, List.set_cons_succ]
            refine take 15 133 (v := .bool false) rfl rfl (by kernel_rfl) (by kernel_rfl) (by kernel_rfl) rfl (fun W hW => rfl) (by assumption) ?_
            simp only [Act.put, List.setIfInBounds_toArray, List.set_cons_zero, List.set_cons_succ]
            refine take 16 134 (v := .bool false) rfl rfl (by kernel_rfl) (by kernel_rfl) (by kernel_rfl) rfl (fun W hW => exec_move rfl rfl) (by assumption) ?_
            simp only [Act.put, List.setIfInBounds_toArray, List.set_cons_zero, List.set_cons_succ]
            refine take 17 135 (v := .bool de5) rfl rfl (by kernel_rfl) (by kernel_rfl) (by kernel_rfl) rfl (fun W hW => exec_move rfl rfl) (by assumption) ?_
            simp only [Act.put, List.setIfInBounds_toArray, List.set_cons_zero, List.set_cons_succ]
            refine take 18 136 (v := .pointer (some ⟨Mb, 0, none⟩)) rfl rfl (by kernel_rfl) (by kernel_rfl) (by kernel_rfl) rfl (fun W hW => exec_move rfl rfl) (by assumption) ?_
            simp only [Act.put, List.setIfInBounds_toArray, List.set_cons_zero, List.set_cons_succ]
            refine take 19 137 (v := .pointer (some ⟨Mb, 0, none⟩)) rfl rfl (by kernel_rfl) (by kernel_rfl) (by kernel_rfl) rfl (fun W hW => rfl) (by assumption) ?_
            simp only [Act.put, List.setIfInBounds_toArray, List.set_cons_zero, List.set_cons_succ]
            refine take 20 138 (v := .pointer (some ⟨Mb, 3, none⟩)) rfl rfl (by kernel_rfl) (by kernel_rfl) (by kernel_rfl) rfl (fun W hW => exec_fieldAddr rfl rfl (hf3 W)) (by assumption) ?_
            simp only [Act.put, List.setIfInBounds_toArray, List.set_cons_zero, List.set_cons_succ]
            refine take 21 139 (v := .bool de5) rfl rfl (by kernel_rfl) (by kernel_rfl) (by kernel_rfl) rfl (fun W hW => exec_load rfl rfl (run_load1 (w := W) Try.underlying4 rfl hW.cells.2.2.2.1)) (by assumption) ?_
            simp only [Act.put, List.setIfInBounds_toArray, List.set_cons_zero, List.set_cons_succ]
            refine take 22 140 (v := .bool false) rfl rfl (by kernel_rfl) (by kernel_rfl) (by kernel_rfl) rfl (fun W hW => exec_binb rfl rfl rfl (hnb W)) (by assumption) ?_
            simp only [Act.put, List.setIfInBounds_toArray, List.set_cons_zero, List.set_cons_succ]
            refine take 23 141 (v := .bool false) rfl rfl (by kernel_rfl) (by kernel_rfl) (by kernel_rfl) rfl (fun W hW => rfl) (by assumption) ?_
            simp only [Act.put, List.setIfInBounds_toArray, List.set_cons_zero, List.set_cons_succ]
            refine take 24 142 (v := .bool false) rfl rfl (by kernel_rfl) (by kernel_rfl) (by kernel_rfl) rfl (fun W hW => exec_move rfl rfl) (by assumption) ?_
            simp only [Act.put, List.setIfInBounds_toArray, List.set_cons_zero, List.set_cons_succ]
            refine take 25 143 (v := .int .i64 ((((n - 2) / 2 : Nat) : Int) * 512)) rfl rfl (by kernel_rfl) (by kernel_rfl) (by kernel_rfl) rfl (fun W hW => exec_move rfl rfl) (by assumption) ?_
            simp only [Act.put, List.setIfInBounds_toArray, List.set_cons_zero, List.set_cons_succ]
            refine take 26 144 (v := .int .i64 (n : Int)) rfl rfl (by kernel_rfl) (by kernel_rfl) (by kernel_rfl) rfl (fun W hW => exec_move rfl rfl) (by assumption) ?_
            simp only [Act.put, List.setIfInBounds_toArray, List.set_cons_zero, List.set_cons_succ]
            refine onlyCall 27 145 rfl rfl (by kernel_rfl) rfl (exec_call [.int .i64 (n : Int)] rfl rfl Try.func29 (by kernel_rfl) (by kernel_rfl)) ?_
            refine (ref_half n (by omega) (by omega) _).mono ?_
            rintro e w' ⟨rfl, rfl⟩
            refine ⟨_, rfl, .inr hS7, ?_⟩
            simp only [Act.put, List.setIfInBounds_toArray, List.set_cons_zero, List.set_cons_succ]
            refine take 28 146 (v := .int .i64 ((((n - 2) / 2 : Nat) : Int) * 512)) rfl rfl (by kernel_rfl) (by kernel_rfl) (by kernel_rfl) rfl (fun W hW => exec_mul512 rfl rfl rfl (by omega)) (by assumption) ?_
            simp only [Act.put, List.setIfInBounds_toArray, List.set_cons_zero, List.set_cons_succ]
            refine take 29 147 (v := .bool false) rfl rfl (by kernel_rfl) (by kernel_rfl) (by kernel_rfl) rfl (fun W hW => exec_bini rfl rfl rfl (hnr W)) (by assumption) ?_
            simp only [Act.put, List.setIfInBounds_toArray, List.set_cons_zero, List.set_cons_succ]
            refine take 30 148 (v := .bool false) rfl rfl (by kernel_rfl) (by kernel_rfl) (by kernel_rfl) rfl (fun W hW => rfl) (by assumption) ?_
            simp only [Act.put, List.setIfInBounds_toArray, List.set_cons_zero, List.set_cons_succ]
            refine done (by kernel_rfl) ?_ _
            have Hnew : Hid (PlayI w w7 Mb n (k + 1) b) := Lib.hid ⟨a5, d5, N5, su5, ma5, de5, op5, hbk7, hS7, HR5.out⟩
            clear hS hS6 hS7 hbk7 hbk6d hbk6 hM6 hdr hf0 hf2 hf3 hnN hnb hnr hown7 hb7 hsu H6
            go_wp2
            go_roundw
            case rel => exact ⟨k + 1, b, by omega, by go_num, rfl, Hnew.out⟩
            case measure => simp [intOf]; omega
        · by_cases e3 : kd = 3
          · subst e3
            obtain ⟨hR, hbk1, hM1, _, _, _, hMwr, _⟩ := HP.out
            have hMlt := hMwr.lt
            have hMne : ¬ Mb = wr.heap.size := by omega
            have cM := hMwr.cells.2.2.2.1
            have HBw := Lib.hid hbk1.below
            cases dead with
            | true =>
              clear hR hbk1 hM1 hMwr HP
              go_wp2_with (first
                | (go_at_call 23; refine HDk.out.mono ?_; rintro e w' ⟨rfl, rfl⟩)
                | (go_at_call 8; refine (Hk.out _).mono ?_; rintro e w9 ⟨rfl, hb9⟩; have HB9 := Lib.hid hb9; clear hb9))
              go_ret
              exact ⟨rfl, HBw.out.trans (HB9.out.mono HBw.out.size)⟩
            | false =>
              have HAg := Lib.hid (again_law (b := b) hbk1.dk hM1 hM0 (by omega) (by omega) hR.live.1 (.inr ⟨rfl, rfl⟩))
              have HRn := Lib.hid hR.live.2
              clear hR hbk1 hM1 hMwr HP
              go_wp2_with (first
                | (go_at_call 23; refine HDk.out.mono ?_; rintro e w' ⟨rfl, rfl⟩)
                | (go_at_call 28; refine HAg.out.mono ?_; rintro e w5 ⟨b5, rfl, hbk5, hM5⟩
                   have HXe : Hid (PlayI w w5 Mb n (k + 1) b5) := Lib.hid ⟨_, _, _, _, _, _, _, hbk5, hM5, HRn.out⟩
                   clear hbk5 hM5 HAg))
              obtain ⟨a5, d5, N5, su5, ma5, de5, op5, hbk5, hM5, hR5⟩ := HXe.out
              have hst5 := hbk5.state (by rw [hR5.1]; exact h4)
              have hhf5 : hf d5 = (n - 2) / 2 := by unfold hf; rw [hR5.1]
              rw [hhf5] at hst5
              have HSt := Lib.hid hst5
              have HM5 := Lib.hid hM5
              have HR5 := Lib.hid hR5
              clear hbk5 hM5 hR5 hst5 hhf5 HXe
              go_wp2_with (first
                | (go_at_call 22; refine HSt.out.mono ?_; rintro e w6 ⟨rfl, hbk6, hb6⟩; have H6 := Lib.hid (And.intro hbk6 (HM5.out.below hb6)); clear hbk6 hb6 HSt))
              obtain ⟨hbk6, hM6⟩ := H6.out
              have hdr : Below w6.heap.size w6 w6.drew := (Below.refl _ _).drew
              have hbk6d := hbk6.grow hdr
              have hS6 := hM6.below hdr
              have hsu : su5.length ≤ 3000 := HR5.out.2.2.2.2.1
              have hf0 : ∀ W' : World, (Instr.fieldAt 65 (.pointer (some ⟨Mb, 0, none⟩)) 0).run Try.prog W' = .ok (.pointer (some ⟨Mb, 0, none⟩)) W' := by intro W'; simp [go_sem]
              have hf2 : ∀ W' : World, (Instr.fieldAt 65 (.pointer (some ⟨Mb, 0, none⟩)) 2).run Try.prog W' = .ok (.pointer (some ⟨Mb, 2, none⟩)) W' := by intro W'; simp [go_sem]
              have hf3 : ∀ W' : World, (Instr.fieldAt 65 (.pointer (some ⟨Mb, 0, none⟩)) 3).run Try.prog W' = .ok (.pointer (some ⟨Mb, 3, none⟩)) W' := by intro W'; simp [go_sem]
              have hnN : ∀ W : World, (binOp .neq 2 (.int .i64 (N5 : Int)) (.int .i64 (N5 : Int))).run Try.prog W = .ok (.bool false) W := by intro W; simp [go_sem]
              have hnb : ∀ W : World, (binOp .neq 4 (.bool de5) (.bool de5)).run Try.prog W = .ok (.bool false) W := by intro W; cases de5 <;> rfl
              have hnr : ∀ W : World, (binOp .neq 3 (.int .i64 ((((n - 2) / 2 : Nat) : Int) * 512)) (.int .i64 ((((n - 2) / 2 : Nat) : Int) * 512))).run Try.prog W = .ok (.bool false) W := by intro W; simp [go_sem]
              refine plain_region_draws (fun W => ModelAt W Mb su5 ma5 (N5 : Int) de5 op5) (by kernel_rfl) hS6 (fun hS => ?_)
              refine take 0 118 (v := .pointer (some ⟨b5, 0, none⟩)) rfl rfl (by kernel_rfl) (by kernel_rfl) (by kernel_rfl) rfl (fun W hW => exec_move rfl rfl) (by assumption) ?_
              simp only [Act.put, List.setIfInBounds_toArray, List.set_cons_zero, List.set_cons_succ]
              refine take 3 121 (v := .pointer (some ⟨Mb, 0, none⟩)) rfl rfl (by kernel_rfl) (by kernel_rfl) (by kernel_rfl) rfl (fun W hW => exec_move rfl rfl) (by assumption) ?_
              simp only [Act.put, List.setIfInBounds_toArray, List.set_cons_zero, List.set_cons_succ]
              refine take 4 122 (v := .pointer (some ⟨Mb, 0, none⟩)) rfl rfl (by kernel_rfl) (by kernel_rfl) (by kernel_rfl) rfl (fun W hW => rfl) (by assumption) ?_
              simp only [Act.put, List.setIfInBounds_toArray, List.set_cons_zero, List.set_cons_succ]
              refine take 5 123 (v := .pointer (some ⟨Mb, 0, none⟩)) rfl rfl (by kernel_rfl) (by kernel_rfl) (by kernel_rfl) rfl (fun W hW => exec_fieldAddr rfl rfl (hf0 W)) (by assumption) ?_
              simp only [Act.put, List.setIfInBounds_toArray, List.set_cons_zero, List.set_cons_succ]
              refine take 6 124 (v := .string (strB su5)) rfl rfl (by kernel_rfl) (by kernel_rfl) (by kernel_rfl) rfl (fun W hW => exec_load rfl rfl (run_load1 (w := W) Try.underlying9 rfl hW.cells.1)) (by assumption) ?_
              simp only [Act.put, List.setIfInBounds_toArray, List.set_cons_zero, List.set_cons_succ]
              refine onlyCall 1 119 rfl rfl (by kernel_rfl) rfl (exec_call [.pointer (some ⟨b5, 0, none⟩)] rfl rfl Try.func17 (by kernel_rfl) (by kernel_rfl)) ?_
              refine (hbk6d.bytes (by omega)).mono ?_
              rintro e w7 ⟨a7, c7, rfl, hown7, hbk7, hb7⟩
              have hS7 := hS6.below hb7
              refine ⟨_, rfl, .inr hS7, ?_⟩
              simp only [Act.put, List.setIfInBounds_toArray, List.set_cons_zero, List.set_cons_succ]
              refine onlyRun 2 120 (v := .string (strB su5)) rfl rfl (by kernel_rfl) rfl (exec_convert rfl rfl (run_str hown7.rd)) (.inr hS7) ?_
              simp only [Act.put, List.setIfInBounds_toArray, List.set_cons_zero, List.set_cons_succ]
              refine take 7 125 (v := .bool false) rfl rfl (by kernel_rfl) (by kernel_rfl) (by kernel_rfl) rfl (fun W hW => exec_bins rfl rfl rfl (run_nesb su5 su5 false (by simp) W)) (by assumption) ?_
              simp only [Act.put, List.setIfInBounds_toArray, List.set_cons_zero, List.set_cons_succ]
              refine take 8 126 (v := .bool false) rfl rfl (by kernel_rfl) (by kernel_rfl) (by kernel_rfl) rfl (fun W hW => exec_move rfl rfl) (by assumption) ?_
              simp only [Act.put, List.setIfInBounds_toArray, List.set_cons_zero, List.set_cons_succ]
              refine take 9 127 (v := .int .i64 (N5 : Int)) rfl rfl (by kernel_rfl) (by kernel_rfl) (by kernel_rfl) rfl (fun W hW => exec_move rfl rfl) (by assumption) ?_
              simp only [Act.put, List.setIfInBounds_toArray, List.set_cons_zero, List.set_cons_succ]
              refine take 10 128 (v := .pointer (some ⟨Mb, 0, none⟩)) rfl rfl (by kernel_rfl) (by kernel_rfl) (by kernel_rfl) rfl (fun W hW => exec_move rfl rfl) (by assumption) ?_
              simp only [Act.put, List.setIfInBounds_toArray, List.set_cons_zero, List.set_cons_succ]
              refine take 11 129 (v := .pointer (some ⟨Mb, 0, none⟩)) rfl rfl (by kernel_rfl) (by kernel_rfl) (by kernel_rfl) rfl (fun W hW => rfl) (by assumption) ?_
              simp only [Act.put, List.setIfInBounds_toArray, List.set_cons_zero, List.set_cons_succ]
              refine take 12 130 (v := .pointer (some ⟨Mb, 2, none⟩)) rfl rfl (by kernel_rfl) (by kernel_rfl) (by kernel_rfl) rfl (fun W hW => exec_fieldAddr rfl rfl (hf2 W)) (by assumption) ?_
              simp only [Act.put, List.setIfInBounds_toArray, List.set_cons_zero, List.set_cons_succ]
              refine take 13 131 (v := .int .i64 (N5 : Int)) rfl rfl (by kernel_rfl) (by kernel_rfl) (by kernel_rfl) rfl (fun W hW => exec_load rfl rfl (run_load1 (w := W) Try.underlying2 rfl hW.cells.2.2.1)) (by assumption) ?_
              simp only [Act.put, List.setIfInBounds_toArray, List.set_cons_zero, List.set_cons_succ]
              refine take 14 132 (v := .bool false) rfl rfl (by kernel_rfl) (by kernel_rfl) (by kernel_rfl) rfl (fun W hW => exec_bini rfl rfl rfl (hnN W)) (by assumption) ?_
              simp only [Act.put, List.setIfInBounds_toArray, List.set_cons_zero, List.set_cons_succ]
              refine take 15 133 (v := .bool false) rfl rfl (by kernel_rfl) (by kernel_rfl) (by kernel_rfl) rfl (fun W hW => rfl) (by assumption) ?_
              simp only [Act.put, List.setIfInBounds_toArray, List.set_cons_zero, List.set_cons_succ]
              refine take 16 134 (v := .bool false) rfl rfl (by kernel_rfl) (by kernel_rfl) (by kernel_rfl) rfl (fun W hW => exec_move rfl rfl) (by assumption) ?_
              simp only [Act.put, List.setIfInBounds_toArray, List.set_cons_zero, List.set_cons_succ]
              refine take 17 135 (v := .bool de5) rfl rfl (by kernel_rfl) (by kernel_rfl) (by kernel_rfl) rfl (fun W hW => exec_move rfl rfl) (by assumption) ?_
              simp only [Act.put, List.setIfInBounds_toArray, List.set_cons_zero, List.set_cons_succ]
              refine take 18 136 (v := .pointer (some ⟨Mb, 0, none⟩)) rfl rfl (by kernel_rfl) (by kernel_rfl) (by kernel_rfl) rfl (fun W hW => exec_move rfl rfl) (by assumption) ?_
              simp only [Act.put, List.setIfInBounds_toArray, List.set_cons_zero, List.set_cons_succ]
              refine take 19 137 (v := .pointer (some ⟨Mb, 0, none⟩)) rfl rfl (by kernel_rfl) (by kernel_rfl) (by kernel_rfl) rfl (fun W hW => rfl) (by assumption) ?_
              simp only [Act.put, List.setIfInBounds_toArray, List.set_cons_zero, List.set_cons_succ]
              refine take 20 138 (v := .pointer (some ⟨Mb, 3, none⟩)) rfl rfl (by kernel_rfl) (by kernel_rfl) (by kernel_rfl) rfl (fun W hW => exec_fieldAddr rfl rfl (hf3 W)) (by assumption) ?_
              simp only [Act.put, List.setIfInBounds_toArray, List.set_cons_zero, List.set_cons_succ]
              refine take 21 139 (v := .bool de5) rfl rfl (by kernel_rfl) (by kernel_rfl) (by kernel_rfl) rfl (fun W hW => exec_load rfl rfl (run_load1 (w := W) Try.underlying4 rfl hW.cells.2.2.2.1)) (by assumption) ?_
              simp only [Act.put, List.setIfInBounds_toArray, List.set_cons_zero, List.set_cons_succ]
              refine take 22 140 (v := .bool false) rfl rfl (by kernel_rfl) (by kernel_rfl) (by kernel_rfl) rfl (fun W hW => exec_binb rfl rfl rfl (hnb W)) (by assumption) ?_
              simp only [Act.put, List.setIfInBounds_toArray, List.set_cons_zero, List.set_cons_succ]
              refine take 23 141 (v := .bool false) rfl rfl (by kernel_rfl) (by kernel_rfl) (by kernel_rfl) rfl (fun W hW => rfl) (by assumption) ?_
              simp only [Act.put, List.setIfInBounds_toArray, List.set_cons_zero, List.set_cons_succ]
              refine take 24 142 (v := .bool false) rfl rfl (by kernel_rfl) (by kernel_rfl) (by kernel_rfl) rfl (fun W hW => exec_move rfl rfl) (by assumption) ?_
              simp only [Act.put, List.setIfInBounds_toArray, List.set_cons_zero, List.set_cons_succ]
              refine take 25 143 (v := .int .i64 ((((n - 2) / 2 : Nat) : Int) * 512)) rfl rfl (by kernel_rfl) (by kernel_rfl) (by kernel_rfl) rfl (fun W hW => exec_move rfl rfl) (by assumption) ?_
              simp only [Act.put, List.setIfInBounds_toArray, List.set_cons_zero, List.set_cons_succ]
              refine take 26 144 (v := .int .i64 (n : Int)) rfl rfl (by kernel_rfl) (by kernel_rfl) (by kernel_rfl) rfl (fun W hW => exec_move rfl rfl) (by assumption) ?_
              simp only [Act.put, List.setIfInBounds_toArray, List.set_cons_zero, List.set_cons_succ]
              refine onlyCall 27 145 rfl rfl (by kernel_rfl) rfl (exec_call [.int .i64 (n : Int)] rfl rfl Try.func29 (by kernel_rfl) (by kernel_rfl)) ?_
              refine (ref_half n (by omega) (by omega) _).mono ?_
              rintro e w' ⟨rfl, rfl⟩
              refine ⟨_, rfl, .inr hS7, ?_⟩
              simp only [Act.put, List.setIfInBounds_toArray, List.set_cons_zero, List.set_cons_succ]
              refine take 28 146 (v := .int .i64 ((((n - 2) / 2 : Nat) : Int) * 512)) rfl rfl (by kernel_rfl) (by kernel_rfl) (by kernel_rfl) rfl (fun W hW => exec_mul512 rfl rfl rfl (by omega)) (by assumption) ?_
              simp only [Act.put, List.setIfInBounds_toArray, List.set_cons_zero, List.set_cons_succ]
              refine take 29 147 (v := .bool false) rfl rfl (by kernel_rfl) (by kernel_rfl) (by kernel_rfl) rfl (fun W hW => exec_bini rfl rfl rfl (hnr W)) (by assumption) ?_
              simp only [Act.put, List.setIfInBounds_toArray, List.set_cons_zero, List.set_cons_succ]
              refine take 30 148 (v := .bool false) rfl rfl (by kernel_rfl) (by kernel_rfl) (by kernel_rfl) rfl (fun W hW => rfl) (by assumption) ?_
              simp only [Act.put, List.setIfInBounds_toArray, List.set_cons_zero, List.set_cons_succ]
              refine done (by kernel_rfl) ?_ _
              have Hnew : Hid (PlayI w w7 Mb n (k + 1) b5) := Lib.hid ⟨a5, d5, N5, su5, ma5, de5, op5, hbk7, hS7, HR5.out⟩
              clear hS hS6 hS7 hbk7 hbk6d hbk6 hM6 hdr hf0 hf2 hf3 hnN hnb hnr hown7 hb7 hsu H6
              go_wp2
              go_roundw
              case rel => exact ⟨k + 1, b5, by omega, by go_num, rfl, Hnew.out⟩
              case measure => simp [intOf]; omega
          · by_cases e4 : kd = 4
            · subst e4
              obtain ⟨hR, hbk1, hM1, hpk1, hmc1, _, _, _⟩ := HP.out
              have HBw := Lib.hid hbk1.below
              have hnb := noBelow_any q m c picks _ hpk1 (by omega)
              have hMlt := hM1.lt
              cases hng : anyNeg picks with
              | true =>
                rw [hng] at hnb
                have Hnb := Lib.hid hnb
                clear hR hbk1 hM1 hpk1 hnb hng HP
                go_wp2_with (first
                  | (go_at_call 23; refine HDk.out.mono ?_; rintro e w' ⟨rfl, rfl⟩)
                  | (go_at_call 20; refine Hnb.out.mono ?_; rintro e w' ⟨rfl, rfl⟩)
                  | (go_at_call 8; refine (Hk.out _).mono ?_; rintro e w9 ⟨rfl, hb9⟩; have HB9 := Lib.hid hb9; clear hb9))
                go_ret
                exact ⟨rfl, HBw.out.trans (HB9.out.mono HBw.out.size)⟩
              | false =>
                rw [hng] at hnb
                have Hnb := Lib.hid hnb
                have HCr := Lib.hid (hbk1.dk.crash (fun x hx e => by have e' : x = Mb := e; omega) q m c picks hpk1 hmc1 (by omega) hng (by omega))
                obtain ⟨m5, s5, hl5, hcase5, hR5⟩ := hR.crash picks
                have HRn := Lib.hid hR5
                have Hl5 := Lib.hid (And.intro hl5 hcase5)
                clear hR hbk1 hM1 hpk1 hnb hng hl5 hcase5 hR5
                go_wp2_with (first
                  | (go_at_call 23; refine HDk.out.mono ?_; rintro e w' ⟨rfl, rfl⟩)
                  | (go_at_call 20; refine Hnb.out.mono ?_; rintro e w' ⟨rfl, rfl⟩)
                  | (go_at_call 26; refine HCr.out.mono ?_; rintro e w4 ⟨a4, rfl, hdk4, hb4⟩
                     have HAg := Lib.hid (again_law (b := b) hdk4 (HP.out.2.2.1.below hb4) hM0 (by show 4 ≤ d.size; omega) (by omega) Hl5.out.1 Hl5.out.2)
                     clear hdk4 hb4 HCr)
                  | (go_at_call 28; refine HAg.out.mono ?_; rintro e w5 ⟨b5, rfl, hbk5, hM5⟩
                     have HXe : Hid (PlayI w w5 Mb n (k + 1) b5) := Lib.hid ⟨_, _, _, _, _, _, _, hbk5, hM5, HRn.out⟩
                     clear hbk5 hM5 HAg))
                obtain ⟨a5, d5, N5, su5, ma5, de5, op5, hbk5, hM5, hR5⟩ := HXe.out
                have hst5 := hbk5.state (by rw [hR5.1]; exact h4)
                have hhf5 : hf d5 = (n - 2) / 2 := by unfold hf; rw [hR5.1]
                rw [hhf5] at hst5
                have HSt := Lib.hid hst5
                have HM5 := Lib.hid hM5
                have HR5 := Lib.hid hR5
                clear hbk5 hM5 hR5 hst5 hhf5 HXe
                go_wp2_with (first
                  | (go_at_call 22; refine HSt.out.mono ?_; rintro e w6 ⟨rfl, hbk6, hb6⟩; have H6 := Lib.hid (And.intro hbk6 (HM5.out.below hb6)); clear hbk6 hb6 HSt))
                obtain ⟨hbk6, hM6⟩ := H6.out
                have hdr : Below w6.heap.size w6 w6.drew := (Below.refl _ _).drew
                have hbk6d := hbk6.grow hdr
                have hS6 := hM6.below hdr
                have hsu : su5.length ≤ 3000 := HR5.out.2.2.2.2.1
                have hf0 : ∀ W' : World, (Instr.fieldAt 65 (.pointer (some ⟨Mb, 0, none⟩)) 0).run Try.prog W' = .ok (.pointer (some ⟨Mb, 0, none⟩)) W' := by intro W'; simp [go_sem]
                have hf2 : ∀ W' : World, (Instr.fieldAt 65 (.pointer (some ⟨Mb, 0, none⟩)) 2).run Try.prog W' = .ok (.pointer (some ⟨Mb, 2, none⟩)) W' := by intro W'; simp [go_sem]
                have hf3 : ∀ W' : World, (Instr.fieldAt 65 (.pointer (some ⟨Mb, 0, none⟩)) 3).run Try.prog W' = .ok (.pointer (some ⟨Mb, 3, none⟩)) W' := by intro W'; simp [go_sem]
                have hnN : ∀ W : World, (binOp .neq 2 (.int .i64 (N5 : Int)) (.int .i64 (N5 : Int))).run Try.prog W = .ok (.bool false) W := by intro W; simp [go_sem]
                have hnb : ∀ W : World, (binOp .neq 4 (.bool de5) (.bool de5)).run Try.prog W = .ok (.bool false) W := by intro W; cases de5 <;> rfl
                have hnr : ∀ W : World, (binOp .neq 3 (.int .i64 ((((n - 2) / 2 : Nat) : Int) * 512)) (.int .i64 ((((n - 2) / 2 : Nat) : Int) * 512))).run Try.prog W = .ok (.bool false) W := by intro W; simp [go_sem]
                refine plain_region_draws (fun W => ModelAt W Mb su5 ma5 (N5 : Int) de5 op5) (by kernel_rfl) hS6 (fun hS => ?_)
                refine take 0 118 (v := .pointer (some ⟨b5, 0, none⟩)) rfl rfl (by kernel_rfl) (by kernel_rfl) (by kernel_rfl) rfl (fun W hW => exec_move rfl rfl) (by assumption) ?_
                simp only [Act.put, List.setIfInBounds_toArray, List.set_cons_zero, List.set_cons_succ]
                refine take 3 121 (v := .pointer (some ⟨Mb, 0, none⟩)) rfl rfl (by kernel_rfl) (by kernel_rfl) (by kernel_rfl) rfl (fun W hW => exec_move rfl rfl) (by assumption) ?_
                simp only [Act.put, List.setIfInBounds_toArray, List.set_cons_zero, List.set_cons_succ]
                refine take 4 122 (v := .pointer (some ⟨Mb, 0, none⟩)) rfl rfl (by kernel_rfl) (by kernel_rfl) (by kernel_rfl) rfl (fun W hW => rfl) (by assumption) ?_
                simp only [Act.put, List.setIfInBounds_toArray, List.set_cons_zero, List.set_cons_succ]
                refine take 5 123 (v := .pointer (some ⟨Mb, 0, none⟩)) rfl rfl (by kernel_rfl) (by kernel_rfl) (by kernel_rfl) rfl (fun W hW => exec_fieldAddr rfl rfl (hf0 W)) (by assumption) ?_
                simp only [Act.put, List.setIfInBounds_toArray, List.set_cons_zero, List.set_cons_succ]
                refine take 6 124 (v := .string (strB su5)) rfl rfl (by kernel_rfl) (by kernel_rfl) (by kernel_rfl) rfl (fun W hW => exec_load rfl rfl (run_load1 (w := W) Try.underlying9 rfl hW.cells.1)) (by assumption) ?_
                simp only [Act.put, List.setIfInBounds_toArray, List.set_cons_zero, List.set_cons_succ]
                refine onlyCall 1 119 rfl rfl (by kernel_rfl) rfl (exec_call [.pointer (some ⟨b5, 0, none⟩)] rfl rfl Try.func17 (by kernel_rfl) (by kernel_rfl)) ?_
                refine (hbk6d.bytes (by omega)).mono ?_
                rintro e w7 ⟨a7, c7, rfl, hown7, hbk7, hb7⟩
                have hS7 := hS6.below hb7
                refine ⟨_, rfl, .inr hS7, ?_⟩
                simp only [Act.put, List.setIfInBounds_toArray, List.set_cons_zero, List.set_cons_succ]
                refine onlyRun 2 120 (v := .string (strB su5)) rfl rfl (by kernel_rfl) rfl (exec_convert rfl rfl (run_str hown7.rd)) (.inr hS7) ?_
                simp only [Act.put, List.setIfInBounds_toArray, List.set_cons_zero, List.set_cons_succ]
                refine take 7 125 (v := .bool false) rfl rfl (by kernel_rfl) (by kernel_rfl) (by kernel_rfl) rfl (fun W hW => exec_bins rfl rfl rfl (run_nesb su5 su5 false (by simp) W)) (by assumption) ?_
                simp only [Act.put, List.setIfInBounds_toArray, List.set_cons_zero, List.set_cons_succ]
                refine take 8 126 (v := .bool false) rfl rfl (by kernel_rfl) (by kernel_rfl) (by kernel_rfl) rfl (fun W hW => exec_move rfl rfl) (by assumption) ?_
                simp only [Act.put, List.setIfInBounds_toArray, List.set_cons_zero, List.set_cons_succ]
                refine take 9 127 (v := .int .i64 (N5 : Int)) rfl rfl (by kernel_rfl) (by kernel_rfl) (by kernel_rfl) rfl (fun W hW => exec_move rfl rfl) (by assumption) ?_
                simp only [Act.put, List.setIfInBounds_toArray, List.set_cons_zero, List.set_cons_succ]
                refine take 10 128 (v := .pointer (some ⟨Mb, 0, none⟩)) rfl rfl (by kernel_rfl) (by kernel_rfl) (by kernel_rfl) rfl (fun W hW => exec_move rfl rfl) (by assumption) ?_
                simp only [Act.put, List.setIfInBounds_toArray, List.set_cons_zero, List.set_cons_succ]
                refine take 11 129 (v := .pointer (some ⟨Mb, 0, none⟩)) rfl rfl (by kernel_rfl) (by kernel_rfl) (by kernel_rfl) rfl (fun W hW => rfl) (by assumption) ?_
                simp only [Act.put, List.setIfInBounds_toArray, List.set_cons_zero, List.set_cons_succ]
                refine take 12 130 (v := .pointer (some ⟨Mb, 2, none⟩)) rfl rfl (by kernel_rfl) (by kernel_rfl) (by kernel_rfl) rfl (fun W hW => exec_fieldAddr rfl rfl (hf2 W)) (by assumption) ?_
                simp only [Act.put, List.setIfInBounds_toArray, List.set_cons_zero, List.set_cons_succ]
                refine take 13 131 (v := .int .i64 (N5 : Int)) rfl rfl (by kernel_rfl) (by kernel_rfl) (by kernel_rfl) rfl (fun W hW => exec_load rfl rfl (run_load1 (w := W) Try.underlying2 rfl hW.cells.2.2.1)) (by assumption) ?_
                simp only [Act.put, List.setIfInBounds_toArray, List.set_cons_zero, List.set_cons_succ]
                refine take 14 132 (v := .bool false) rfl rfl (by kernel_rfl) (by kernel_rfl) (by kernel_rfl) rfl (fun W hW => exec_bini rfl rfl rfl (hnN W)) (by assumption) ?_
                simp only [Act.put, List.setIfInBounds_toArray, List.set_cons_zero, List.set_cons_succ]
                refine take 15 133 (v := .bool false) rfl rfl (by kernel_rfl) (by kernel_rfl) (by kernel_rfl) rfl (fun W hW => rfl) (by assumption) ?_
                simp only [Act.put, List.setIfInBounds_toArray, List.set_cons_zero, List.set_cons_succ]
                refine take 16 134 (v := .bool false) rfl rfl (by kernel_rfl) (by kernel_rfl) (by kernel_rfl) rfl (fun W hW => exec_move rfl rfl) (by assumption) ?_
                simp only [Act.put, List.setIfInBounds_toArray, List.set_cons_zero, List.set_cons_succ]
                refine take 17 135 (v := .bool de5) rfl rfl (by kernel_rfl) (by kernel_rfl) (by kernel_rfl) rfl (fun W hW => exec_move rfl rfl) (by assumption) ?_
                simp only [Act.put, List.setIfInBounds_toArray, List.set_cons_zero, List.set_cons_succ]
                refine take 18 136 (v := .pointer (some ⟨Mb, 0, none⟩)) rfl rfl (by kernel_rfl) (by kernel_rfl) (by kernel_rfl) rfl (fun W hW => exec_move rfl rfl) (by assumption) ?_
                simp only [Act.put, List.setIfInBounds_toArray, List.set_cons_zero, List.set_cons_succ]
                refine take 19 137 (v := .pointer (some ⟨Mb, 0, none⟩)) rfl rfl (by kernel_rfl) (by kernel_rfl) (by kernel_rfl) rfl (fun W hW => rfl) (by assumption) ?_
                simp only [Act.put, List.setIfInBounds_toArray, List.set_cons_zero, List.set_cons_succ]
                refine take 20 138 (v := .pointer (some ⟨Mb, 3, none⟩)) rfl rfl (by kernel_rfl) (by kernel_rfl) (by kernel_rfl) rfl (fun W hW => exec_fieldAddr rfl rfl (hf3 W)) (by assumption) ?_
                simp only [Act.put, List.setIfInBounds_toArray, List.set_cons_zero, List.set_cons_succ]
                refine take 21 139 (v := .bool de5) rfl rfl (by kernel_rfl) (by kernel_rfl) (by kernel_rfl) rfl (fun W hW => exec_load rfl rfl (run_load1 (w := W) Try.underlying4 rfl hW.cells.2.2.2.1)) (by assumption) ?_
                simp only [Act.put, List.setIfInBounds_toArray, List.set_cons_zero, List.set_cons_succ]
                refine take 22 140 (v := .bool false) rfl rfl (by kernel_rfl) (by kernel_rfl) (by kernel_rfl) rfl (fun W hW => exec_binb rfl rfl rfl (hnb W)) (by assumption) ?_
                simp only [Act.put, List.setIfInBounds_toArray, List.set_cons_zero, List.set_cons_succ]
                refine take 23 141 (v := .bool false) rfl rfl (by kernel_rfl) (by kernel_rfl) (by kernel_rfl) rfl (fun W hW => rfl) (by assumption) ?_
                simp only [Act.put, List.setIfInBounds_toArray, List.set_cons_zero, List.set_cons_succ]
                refine take 24 142 (v := .bool false) rfl rfl (by kernel_rfl) (by kernel_rfl) (by kernel_rfl) rfl (fun W hW => exec_move rfl rfl) (by assumption) ?_
                simp only [Act.put, List.setIfInBounds_toArray, List.set_cons_zero, List.set_cons_succ]
                refine take 25 143 (v := .int .i64 ((((n - 2) / 2 : Nat) : Int) * 512)) rfl rfl (by kernel_rfl) (by kernel_rfl) (by kernel_rfl) rfl (fun W hW => exec_move rfl rfl) (by assumption) ?_
                simp only [Act.put, List.setIfInBounds_toArray, List.set_cons_zero, List.set_cons_succ]
                refine take 26 144 (v := .int .i64 (n : Int)) rfl rfl (by kernel_rfl) (by kernel_rfl) (by kernel_rfl) rfl (fun W hW => exec_move rfl rfl) (by assumption) ?_
                simp only [Act.put, List.setIfInBounds_toArray, List.set_cons_zero, List.set_cons_succ]
                refine onlyCall 27 145 rfl rfl (by kernel_rfl) rfl (exec_call [.int .i64 (n : Int)] rfl rfl Try.func29 (by kernel_rfl) (by kernel_rfl)) ?_
                refine (ref_half n (by omega) (by omega) _).mono ?_
                rintro e w' ⟨rfl, rfl⟩
                refine ⟨_, rfl, .inr hS7, ?_⟩
                simp only [Act.put, List.setIfInBounds_toArray, List.set_cons_zero, List.set_cons_succ]
                refine take 28 146 (v := .int .i64 ((((n - 2) / 2 : Nat) : Int) * 512)) rfl rfl (by kernel_rfl) (by kernel_rfl) (by kernel_rfl) rfl (fun W hW => exec_mul512 rfl rfl rfl (by omega)) (by assumption) ?_
                simp only [Act.put, List.setIfInBounds_toArray, List.set_cons_zero, List.set_cons_succ]
                refine take 29 147 (v := .bool false) rfl rfl (by kernel_rfl) (by kernel_rfl) (by kernel_rfl) rfl (fun W hW => exec_bini rfl rfl rfl (hnr W)) (by assumption) ?_
                simp only [Act.put, List.setIfInBounds_toArray, List.set_cons_zero, List.set_cons_succ]
                refine take 30 148 (v := .bool false) rfl rfl (by kernel_rfl) (by kernel_rfl) (by kernel_rfl) rfl (fun W hW => rfl) (by assumption) ?_
                simp only [Act.put, List.setIfInBounds_toArray, List.set_cons_zero, List.set_cons_succ]
                refine done (by kernel_rfl) ?_ _
                have Hnew : Hid (PlayI w w7 Mb n (k + 1) b5) := Lib.hid ⟨a5, d5, N5, su5, ma5, de5, op5, hbk7, hS7, HR5.out⟩
                clear hS hS6 hS7 hbk7 hbk6d hbk6 hM6 hdr hf0 hf2 hf3 hnN hnb hnr hown7 hb7 hsu H6
                go_wp2
                go_roundw
                case rel => exact ⟨k + 1, b5, by omega, by go_num, rfl, Hnew.out⟩
                case measure => simp [intOf]; omega
            · have f1 : (kd == 1) = false := by simpa using e1
              have f2 : (kd == 2) = false := by simpa using e2
              have f3 : (kd == 3) = false := by simpa using e3
              have f4 : (kd == 4) = false := by simpa using e4
              have HXe : Hid (PlayI w _ Mb n (k + 1) b) := Lib.hid ⟨a, d, N, sure, may, dead, op, HP.out.2.1, HP.out.2.2.1, HP.out.1.mono⟩
              obtain ⟨a5, d5, N5, su5, ma5, de5, op5, hbk5, hM5, hR5⟩ := HXe.out
              have hst5 := hbk5.state (by rw [hR5.1]; exact h4)
              have hhf5 : hf d5 = (n - 2) / 2 := by unfold hf; rw [hR5.1]
              rw [hhf5] at hst5
              have HSt := Lib.hid hst5
              have HM5 := Lib.hid hM5
              have HR5 := Lib.hid hR5
              clear hbk5 hM5 hR5 hst5 hhf5 HXe
              go_wp2_with (first
                | (go_at_call 23; refine HDk.out.mono ?_; rintro e w' ⟨rfl, rfl⟩)
                | (go_at_call 22; refine HSt.out.mono ?_; rintro e w6 ⟨rfl, hbk6, hb6⟩; have H6 := Lib.hid (And.intro hbk6 (HM5.out.below hb6)); clear hbk6 hb6 HSt))
              obtain ⟨hbk6, hM6⟩ := H6.out
              have hdr : Below w6.heap.size w6 w6.drew := (Below.refl _ _).drew
              have hbk6d := hbk6.grow hdr
              have hS6 := hM6.below hdr
              have hsu : su5.length ≤ 3000 := HR5.out.2.2.2.2.1
              have hf0 : ∀ W' : World, (Instr.fieldAt 65 (.pointer (some ⟨Mb, 0, none⟩)) 0).run Try.prog W' = .ok (.pointer (some ⟨Mb, 0, none⟩)) W' := by intro W'; simp [go_sem]
              have hf2 : ∀ W' : World, (Instr.fieldAt 65 (.pointer (some ⟨Mb, 0, none⟩)) 2).run Try.prog W' = .ok (.pointer (some ⟨Mb, 2, none⟩)) W' := by intro W'; simp [go_sem]
              have hf3 : ∀ W' : World, (Instr.fieldAt 65 (.pointer (some ⟨Mb, 0, none⟩)) 3).run Try.prog W' = .ok (.pointer (some ⟨Mb, 3, none⟩)) W' := by intro W'; simp [go_sem]
              have hnN : ∀ W : World, (binOp .neq 2 (.int .i64 (N5 : Int)) (.int .i64 (N5 : Int))).run Try.prog W = .ok (.bool false) W := by intro W; simp [go_sem]
              have hnb : ∀ W : World, (binOp .neq 4 (.bool de5) (.bool de5)).run Try.prog W = .ok (.bool false) W := by intro W; cases de5 <;> rfl
              have hnr : ∀ W : World, (binOp .neq 3 (.int .i64 ((((n - 2) / 2 : Nat) : Int) * 512)) (.int .i64 ((((n - 2) / 2 : Nat) : Int) * 512))).run Try.prog W = .ok (.bool false) W := by intro W; simp [go_sem]
              refine plain_region_draws (fun W => ModelAt W Mb su5 ma5 (N5 : Int) de5 op5) (by kernel_rfl) hS6 (fun hS => ?_)
              refine take 0 118 (v := .pointer (some ⟨b, 0, none⟩)) rfl rfl (by kernel_rfl) (by kernel_rfl) (by kernel_rfl) rfl (fun W hW => exec_move rfl rfl) (by assumption) ?_
              simp only [Act.put, List.setIfInBounds_toArray, List.set_cons_zero, List.set_cons_succ]
              refine take 3 121 (v := .pointer (some ⟨Mb, 0, none⟩)) rfl rfl (by kernel_rfl) (by kernel_rfl) (by kernel_rfl) rfl (fun W hW => exec_move rfl rfl) (by assumption) ?_
              simp only [Act.put, List.setIfInBounds_toArray, List.set_cons_zero, List.set_cons_succ]
              refine take 4 122 (v := .pointer (some ⟨Mb, 0, none⟩)) rfl rfl (by kernel_rfl) (by kernel_rfl) (by kernel_rfl) rfl (fun W hW => rfl) (by assumption) ?_
              simp only [Act.put, List.setIfInBounds_toArray, List.set_cons_zero, List.set_cons_succ]
              refine take 5 123 (v := .pointer (some ⟨Mb, 0, none⟩)) rfl rfl (by kernel_rfl) (by kernel_rfl) (by kernel_rfl) rfl (fun W hW => exec_fieldAddr rfl rfl (hf0 W)) (by assumption) ?_
              simp only [Act.put, List.setIfInBounds_toArray, List.set_cons_zero, List.set_cons_succ]
              refine take 6 124 (v := .string (strB su5)) rfl rfl (by kernel_rfl) (by kernel_rfl) (by kernel_rfl) rfl (fun W hW => exec_load rfl rfl (run_load1 (w := W) Try.underlying9 rfl hW.cells.1)) (by assumption) ?_
              simp only [Act.put, List.setIfInBounds_toArray, List.set_cons_zero, List.set_cons_succ]
              refine onlyCall 1 119 rfl rfl (by kernel_rfl) rfl (exec_call [.pointer (some ⟨b, 0, none⟩)] rfl rfl Try.func17 (by kernel_rfl) (by kernel_rfl)) ?_
              refine (hbk6d.bytes (by omega)).mono ?_
              rintro e w7 ⟨a7, c7, rfl, hown7, hbk7, hb7⟩
              have hS7 := hS6.below hb7
              refine ⟨_, rfl, .inr hS7, ?_⟩
              simp only [Act.put, List.setIfInBounds_toArray, List.set_cons_zero, List.set_cons_succ]
              refine onlyRun 2 120 (v := .string (strB su5)) rfl rfl (by kernel_rfl) rfl (exec_convert rfl rfl (run_str hown7.rd)) (.inr hS7) ?_
              simp only [Act.put, List.setIfInBounds_toArray, List.set_cons_zero, List.set_cons_succ]
              refine take 7 125 (v := .bool false) rfl rfl (by kernel_rfl) (by kernel_rfl) (by kernel_rfl) rfl (fun W hW => exec_bins rfl rfl rfl (run_nesb su5 su5 false (by simp) W)) (by assumption) ?_
              simp only [Act.put, List.setIfInBounds_toArray, List.set_cons_zero, List.set_cons_succ]
              refine take 8 126 (v := .bool false) rfl rfl (by kernel_rfl) (by kernel_rfl) (by kernel_rfl) rfl (fun W hW => exec_move rfl rfl) (by assumption) ?_
              simp only [Act.put, List.setIfInBounds_toArray, List.set_cons_zero, List.set_cons_succ]
              refine take 9 127 (v := .int .i64 (N5 : Int)) rfl rfl (by kernel_rfl) (by kernel_rfl) (by kernel_rfl) rfl (fun W hW => exec_move rfl rfl) (by assumption) ?_
              simp only [Act.put, List.setIfInBounds_toArray, List.set_cons_zero, List.set_cons_succ]
              refine take 10 128 (v := .pointer (some ⟨Mb, 0, none⟩)) rfl rfl (by kernel_rfl) (by kernel_rfl) (by kernel_rfl) rfl (fun W hW => exec_move rfl rfl) (by assumption) ?_
              simp only [Act.put, List.setIfInBounds_toArray, List.set_cons_zero, List.set_cons_succ]
              refine take 11 129 (v := .pointer (some ⟨Mb, 0, none⟩)) rfl rfl (by kernel_rfl) (by kernel_rfl) (by kernel_rfl) rfl (fun W hW => rfl) (by assumption) ?_
              simp only [Act.put, List.setIfInBounds_toArray, List.set_cons_zero, List.set_cons_succ]
              refine take 12 130 (v := .pointer (some ⟨Mb, 2, none⟩)) rfl rfl (by kernel_rfl) (by kernel_rfl) (by kernel_rfl) rfl (fun W hW => exec_fieldAddr rfl rfl (hf2 W)) (by assumption) ?_
              simp only [Act.put, List.setIfInBounds_toArray, List.set_cons_zero, List.set_cons_succ]
              refine take 13 131 (v := .int .i64 (N5 : Int)) rfl rfl (by kernel_rfl) (by kernel_rfl) (by kernel_rfl) rfl (fun W hW => exec_load rfl rfl (run_load1 (w := W) Try.underlying2 rfl hW.cells.2.2.1)) (by assumption) ?_
              simp only [Act.put, List.setIfInBounds_toArray, List.set_cons_zero, List.set_cons_succ]
              refine take 14 132 (v := .bool false) rfl rfl (by kernel_rfl) (by kernel_rfl) (by kernel_rfl) rfl (fun W hW => exec_bini rfl rfl rfl (hnN W)) (by assumption) ?_
              simp only [Act.put, List.setIfInBounds_toArray, List.set_cons_zero, List.set_cons_succ]
              refine take 15 133 (v := .bool false) rfl rfl (by kernel_rfl) (by kernel_rfl) (by kernel_rfl) rfl (fun W hW => rfl) (by assumption) ?_
              simp only [Act.put, List.setIfInBounds_toArray, List.set_cons_zero, List.set_cons_succ]
              refine take 16 134 (v := .bool false) rfl rfl (by kernel_rfl) (by kernel_rfl) (by kernel_rfl) rfl (fun W hW => exec_move rfl rfl) (by assumption) ?_
              simp only [Act.put, List.setIfInBounds_toArray, List.set_cons_zero, List.set_cons_succ]
              refine take 17 135 (v := .bool de5) rfl rfl (by kernel_rfl) (by kernel_rfl) (by kernel_rfl) rfl (fun W hW => exec_move rfl rfl) (by assumption) ?_
              simp only [Act.put, List.setIfInBounds_toArray, List.set_cons_zero, List.set_cons_succ]
              refine take 18 136 (v := .pointer (some ⟨Mb, 0, none⟩)) rfl rfl (by kernel_rfl) (by kernel_rfl) (by kernel_rfl) rfl (fun W hW => exec_move rfl rfl) (by assumption) ?_
              simp only [Act.put, List.setIfInBounds_toArray, List.set_cons_zero, List.set_cons_succ]
              refine take 19 137 (v := .pointer (some ⟨Mb, 0, none⟩)) rfl rfl (by kernel_rfl) (by kernel_rfl) (by kernel_rfl) rfl (fun W hW => rfl) (by assumption) ?_
              simp only [Act.put, List.setIfInBounds_toArray, List.set_cons_zero, List.set_cons_succ]
              refine take 20 138 (v := .pointer (some ⟨Mb, 3, none⟩)) rfl rfl (by kernel_rfl) (by kernel_rfl) (by kernel_rfl) rfl (fun W hW => exec_fieldAddr rfl rfl (hf3 W)) (by assumption) ?_
              simp only [Act.put, List.setIfInBounds_toArray, List.set_cons_zero, List.set_cons_succ]
              refine take 21 139 (v := .bool de5) rfl rfl (by kernel_rfl) (by kernel_rfl) (by kernel_rfl) rfl (fun W hW => exec_load rfl rfl (run_load1 (w := W) Try.underlying4 rfl hW.cells.2.2.2.1)) (by assumption) ?_
              simp only [Act.put, List.setIfInBounds_toArray, List.set_cons_zero, List.set_cons_succ]
              refine take 22 140 (v := .bool false) rfl rfl (by kernel_rfl) (by kernel_rfl) (by kernel_rfl) rfl (fun W hW => exec_binb rfl rfl rfl (hnb W)) (by assumption) ?_
              simp only [Act.put, List.setIfInBounds_toArray, List.set_cons_zero, List.set_cons_succ]
              refine take 23 141 (v := .bool false) rfl rfl (by kernel_rfl) (by kernel_rfl) (by kernel_rfl) rfl (fun W hW => rfl) (by assumption) ?_
              simp only [Act.put, List.setIfInBounds_toArray, List.set_cons_zero, List.set_cons_succ]
              refine take 24 142 (v := .bool false) rfl rfl (by kernel_rfl) (by kernel_rfl) (by kernel_rfl) rfl (fun W hW => exec_move rfl rfl) (by assumption) ?_
              simp only [Act.put, List.setIfInBounds_toArray, List.set_cons_zero, List.set_cons_succ]
              refine take 25 143 (v := .int .i64 ((((n - 2) / 2 : Nat) : Int) * 512)) rfl rfl (by kernel_rfl) (by kernel_rfl) (by kernel_rfl) rfl (fun W hW => exec_move rfl rfl) (by assumption) ?_
              simp only [Act.put, List.setIfInBounds_toArray, List.set_cons_zero, List.set_cons_succ]
              refine take 26 144 (v := .int .i64 (n : Int)) rfl rfl (by kernel_rfl) (by kernel_rfl) (by kernel_rfl) rfl (fun W hW => exec_move rfl rfl) (by assumption) ?_
              simp only [Act.put, List.setIfInBounds_toArray, List.set_cons_zero, List.set_cons_succ]
              refine onlyCall 27 145 rfl rfl (by kernel_rfl) rfl (exec_call [.int .i64 (n : Int)] rfl rfl Try.func29 (by kernel_rfl) (by kernel_rfl)) ?_
              refine (ref_half n (by omega) (by omega) _).mono ?_
              rintro e w' ⟨rfl, rfl⟩
              refine ⟨_, rfl, .inr hS7, ?_⟩
              simp only [Act.put, List.setIfInBounds_toArray, List.set_cons_zero, List.set_cons_succ]
              refine take 28 146 (v := .int .i64 ((((n - 2) / 2 : Nat) : Int) * 512)) rfl rfl (by kernel_rfl) (by kernel_rfl) (by kernel_rfl) rfl (fun W hW => exec_mul512 rfl rfl rfl (by omega)) (by assumption) ?_
              simp only [Act.put, List.setIfInBounds_toArray, List.set_cons_zero, List.set_cons_succ]
              refine take 29 147 (v := .bool false) rfl rfl (by kernel_rfl) (by kernel_rfl) (by kernel_rfl) rfl (fun W hW => exec_bini rfl rfl rfl (hnr W)) (by assumption) ?_
              simp only [Act.put, List.setIfInBounds_toArray, List.set_cons_zero, List.set_cons_succ]
              refine take 30 148 (v := .bool false) rfl rfl (by kernel_rfl) (by kernel_rfl) (by kernel_rfl) rfl (fun W hW => rfl) (by assumption) ?_
              simp only [Act.put, List.setIfInBounds_toArray, List.set_cons_zero, List.set_cons_succ]
              refine done (by kernel_rfl) ?_ _
              have Hnew : Hid (PlayI w w7 Mb n (k + 1) b) := Lib.hid ⟨a5, d5, N5, su5, ma5, de5, op5, hbk7, hS7, HR5.out⟩
              clear hS hS6 hS7 hbk7 hbk6d hbk6 hM6 hdr hf0 hf2 hf3 hnN hnb hnr hown7 hb7 hsu H6
              go_wp2
              go_roundw
              case rel => exact ⟨k + 1, b, by omega, by go_num, rfl, Hnew.out⟩
              case measure => simp [intOf]; omega
    · have hB : Below w.heap.size w wr := hI.below
      have HBf := Lib.hid hB
      clear hB hI
      go_wp2_with (go_at_call 8; refine (Hk.out _).mono ?_; rintro e w9 ⟨rfl, hb9⟩; have HB9 := Lib.hid hb9; clear hb9)
      go_ret
      exact ⟨rfl, HBf.out.trans (HB9.out.mono HBf.out.size)⟩
end Go.Proofs.Ytfpmdagchbbkcaa
