/- BookCuts: the walk of what is asked. -/
import Derived.Test.YtfpmdagchbbkcaaCutsW
namespace Go.Proofs.Ytfpmdagchbbkcaa
open Go.RowKit

/-- "old bytes", "newer". -/
def oldL : List UInt8 := [111, 108, 100, 32, 98, 121, 116, 101, 115]
def newL : List UInt8 := [110, 101, 119, 101, 114]
/-- A string's bytes, converted. -/
theorem cv_strB (w : World) (l : List UInt8) (hl : l.length ≤ 1000000) : ∃ c W', (convert 9 34 (.string (strB l))).run Try.prog w = .ok (.slice (some ⟨w.heap.size, 0, none⟩) l.length c) W' ∧
    Below w.heap.size w W' ∧ RdB W' (.slice (some ⟨w.heap.size, 0, none⟩) l.length c) l := by
  obtain ⟨c, W', h1, h2, h3⟩ := run_cvs w (strB l) (by rw [strB_size]; omega)
  rw [strB_size] at h1 h3
  exact ⟨c, W', h1, h2, h3⟩

theorem putE_ok {d : DM} (hno : ∀ k, d.fails k = none) (N : Nat) (l : List UInt8) : (putE d N l).2 = false := by rw [putE_no hno]
/-- The disk behind the first Put, and with a step that will fail. -/
def cutD (n : Nat) : DM := (putE (fmtD n) 1 oldL).1
theorem cutD_fails (n : Nat) : ∀ k, (cutD n).fails k = none := by unfold cutD; rw [putE_fails]; exact fmtD_no n
theorem cutD_size (n : Nat) : (cutD n).size = n := (putE_size _ _ _).trans (fmtD_size n)
theorem cutD_steps (n : Nat) : (cutD n).steps = 6 := by unfold cutD; rw [putE_steps (putE_ok (fmtD_no n) 1 oldL), fmtD_steps]
theorem cutD_clean (n : Nat) : (cutD n).Clean := putE_clean (putE_ok (fmtD_no n) 1 oldL)
theorem cutD_looked (n : Nat) (h4 : 4 ≤ n) (hm : n ≤ 65536) : looked (cutD n) = some (((2 : Nat) : Int), oldL) :=
  looked_putE (by rw [fmtD_size]; exact h4) (by rw [fmtD_size]; exact hm) (N := 1) (by omega) (fmtD_looked n hm) oldL (by unfold hf; rw [fmtD_size]; show 9 ≤ _; omega) (putE_ok (fmtD_no n) 1 oldL)
def cutE (n cut : Nat) : DM := (cutD n).failL [6 + (cut : Int)]
theorem cutE_fails (n cut : Nat) (k : Int) : ((cutE n cut).fails k).isSome = decide (k = 6 + (cut : Int)) := by
  unfold cutE
  rw [failL_some, cutD_fails]
  simp [List.contains_cons]
theorem cutE_size (n cut : Nat) : (cutE n cut).size = n := (failL_size _ _).1.trans (cutD_size n)
theorem cutE_steps (n cut : Nat) : (cutE n cut).steps = 6 := (failL_size _ _).2.1.trans (cutD_steps n)
theorem cutE_clean (n cut : Nat) : (cutE n cut).Clean := by
  obtain ⟨h1, h2, h3, h4, h5⟩ := failL_size (cutD n) [6 + (cut : Int)]
  have hc := cutD_clean n
  unfold cutE
  exact ⟨by rw [h5]; exact hc.1, by rw [h3, h4]; exact hc.2⟩
theorem cutE_looked (n cut : Nat) (h4 : 4 ≤ n) (hm : n ≤ 65536) : looked (cutE n cut) = some (((2 : Nat) : Int), oldL) := by
  obtain ⟨h1, h2, h3, hs, h5⟩ := failL_size (cutD n) [6 + (cut : Int)]
  exact looked_same (d := cutD n) h1 (cutD_looked n h4 hm) (fun k _ => by unfold cutE; rw [hs]) (fun i _ => by unfold cutE; rw [hs])
theorem cutE_B (n cut : Nat) : FailB (cutE n cut) 1 := (FailB.none (cutD_fails n)).failL [6 + (cut : Int)]
theorem cutE_flags (n cut : Nat) (hcut : cut ≤ 3) (l : List UInt8) : (putE (cutE n cut) 2 l).2 = true ∧ ((cutE n cut).failing = false → (putA (cutE n cut) 2 l).failing = false → 2 ≤ cut) := by
  obtain ⟨f0, f1, f2⟩ := putE_flag (cutE_B n cut) 2 l
  rw [f0, f1, f2, cutE_steps]
  simp only [cutE_fails]
  rcases (by omega : cut = 0 ∨ cut = 1 ∨ cut = 2 ∨ cut = 3) with rfl | rfl | rfl | rfl <;> refine ⟨by rfl, ?_⟩ <;> simp
/-- What a crash of it leaves. -/
def cutF (n cut : Nat) (ls : List UInt8) (picks : List Int) : DM := (putE (cutE n cut) 2 ls).1.crash picks
theorem cutF_looked (n cut : Nat) (h4 : 4 ≤ n) (hm : n ≤ 65536) (hcut : cut ≤ 3) (ls : List UInt8) (hl : ls.length ≤ hf (fmtD n) * 512) (picks : List Int) :
    ∃ (M : Nat) (s : List UInt8), looked (cutF n cut ls picks) = some ((M : Int), s) ∧ 2 ≤ M ∧ M ≤ 3 ∧ ((s = oldL ∧ cut < 2 ∧ M = 2) ∨ (s = oldL ∧ 2 ≤ cut) ∨ (s = ls ∧ s ≠ oldL ∧ 2 ≤ cut)) := by
  have hhf : hf (fmtD n) = hf (cutE n cut) := hf_size ((fmtD_size n).trans (cutE_size n cut).symm)
  rw [hhf] at hl
  obtain ⟨g1, g2⟩ := cutE_flags n cut hcut ls
  rcases looked_cut (cutE_clean n cut) (by rw [cutE_size]; exact h4) (by rw [cutE_size]; exact hm) (N := 2) (by omega) (cutE_looked n cut h4 hm) ls hl g1 picks with h | ⟨h1, h2, h⟩
  · refine ⟨2, oldL, h, by omega, by omega, ?_⟩
    by_cases hc : cut < 2
    · exact .inl ⟨rfl, hc, rfl⟩
    · exact .inr (.inl ⟨rfl, by omega⟩)
  · refine ⟨3, ls, h, by omega, by omega, ?_⟩
    have := g2 h1 h2
    by_cases hs : ls = oldL
    · exact .inr (.inl ⟨hs, this⟩)
    · exact .inr (.inr ⟨rfl, hs, this⟩)
theorem cutF_size (n cut : Nat) (ls : List UInt8) (picks : List Int) : (cutF n cut ls picks).size = n := by
  show (putE (cutE n cut) 2 ls).1.size = n
  rw [putE_size, cutE_size]

theorem Bk.put_new {w0 w : World} {a b M : Nat} {D : DM} {s : List UInt8} (h : Bk (fun _ => True) w0 w a b D (M : Int) s false) (h4 : 4 ≤ D.size) (hm : D.size ≤ 65536) (hM : M ≤ 3) (hno : ∀ k, D.fails k = none) (hst : D.steps = 0) (hl : looked D = some ((M : Int), s)) :
    ∃ W', (convert 34 34 (.slice (some ⟨w.heap.size, 0, none⟩) 5 5)).run Try.prog (w.alloc (.cells #[.int .u8 110, .int .u8 101, .int .u8 119, .int .u8 101, .int .u8 114] 5)) = .ok (.slice (some ⟨w.heap.size, 0, none⟩) 5 5) W' ∧
    Calls Try.prog 18 #[.pointer (some ⟨b, 0, none⟩), .slice (some ⟨w.heap.size, 0, none⟩) 5 5] W' fun e w' => e = .returned (.int .i64 0) ∧ Dk (fun _ => True) w0 w' a (putE D M newL).1 ∧
      Calls Try.prog 15 #[.pointer (some ⟨a, 0, none⟩)] w' fun e w'' => ∃ a1 c1, e = .returned (.tuple #[.slice a1 5 c1, .int .i64 ((M + 1 : Nat) : Int), .int .i64 0]) ∧ OwnB w'' (.slice a1 5 c1) newL ∧ Below w'.heap.size w' w'' := by
  obtain ⟨W', hcv, hB, hrd⟩ := run_cvb w newL (by simp [newL])
  have hhf : 1 ≤ hf D := by unfold hf; omega
  refine ⟨W', hcv, (h.put (fun _ _ => trivial) h4 (by omega) (some ⟨w.heap.size, 0, none⟩) 5 5 newL W' hB hrd (fun g hg => by cases hg; exact Nat.le_refl _) (by omega) (by omega)).mono ?_⟩
  rintro e w' ⟨⟨rfl, h2, h3⟩ | ⟨_, h2, _⟩, _⟩
  · exact ⟨rfl, h3.dk, h3.dk.look (l := newL) (by rw [putE_size]; exact h4) (looked_putE h4 hm (by omega) hl newL (by show 5 ≤ _; omega) h2)⟩
  · rw [putE_ok hno] at h2; cases h2

set_option maxRecDepth 100000 in
set_option maxHeartbeats 4000000 in
theorem cuts_main (n cut : Nat) (ls : List UInt8) (kd num : Int) (q : Option Addr) (m c : Nat) (w : World) (picks : List Int) (hrd : RdI w (.slice q m c) picks) (hmc : m ≤ c)
    (hv : vastB (n : Int) [(ls.length, m)] = false) (h4 : 4 ≤ n) (h12 : n ≤ 12) (hls : ls.length ≤ 3000) (hpl : picks.length ≤ 40) (hng : anyNeg picks = false) (hcut : cut ≤ 3) :
    Calls Try.prog 5 #[.int .i64 (n : Int), .agg (stepV kd num ls q m c), .int .i64 (cut : Int)] w fun e w' => e = .returned (.bool true) ∧ Below w.heap.size w w' := by
  have hv0 := vast_cut n ls kd num q m c w
  rw [hv] at hv0
  have hb0 : Below w.heap.size w (cutW ls kd num q m c w) := ((Below.refl _ _).alloc (Nat.le_refl _) _).alloc (by simp) _
  have hnb := noBelow_any q m c picks (cutW ls kd num q m c w) (hrd.below hb0) (by omega)
  rw [hng] at hnb
  have Hv := Lib.hid hv0
  have Hnb := Lib.hid hnb
  have Hk := Lib.hid known_any
  have hbeg := begun_any n h4 (by omega) (cutW ls kd num q m c w)
  have Hbeg := Lib.hid hbeg
  have c1 : decide ((n : Int) < 4) = false := by simp; omega
  have c2 : decide ((n : Int) > 65536) = false := by simp; omega
  have c3 : decide ((cut : Int) < 0) = false := by simp
  have c4 : decide ((cut : Int) > 3) = false := by simp; omega
  have hcs0 : (cutW ls kd num q m c w).heap[w.heap.size]? = some (.cells (stepV kd num ls q m c) 25 (0, 0)) := by
    simp only [heap_get_alloc, World.size_alloc]; rw [if_neg (by omega), if_pos trivial]; rfl
  have hszW : (cutW ls kd num q m c w).heap.size = w.heap.size + 2 := by simp
  have Hin : Hid (∀ w', Below (cutW ls kd num q m c w).heap.size (cutW ls kd num q m c w) w' → w'.cell? ⟨w.heap.size, 2, none⟩ = some (.string (strB ls)) ∧ w'.cell? ⟨w.heap.size, 3, none⟩ = some (.slice q m c) ∧ RdI w' (.slice q m c) picks ∧ Below w.heap.size w w') :=
    Lib.hid fun w' hb => by
      have h1 := belowBlk hb (by rw [hszW]; omega) hcs0
      have h2 := hb0.trans (hb.mono hb0.size)
      exact ⟨cellOf h1 rfl, cellOf h1 rfl, hrd.below h2, h2⟩
  have H0 := Lib.hid (And.intro hmc hng)
  have hss : (strB ls).size = ls.length := strB_size _
  clear hv hv0 hnb hb0 hbeg hrd hmc hng hcs0 hszW
  unfold stepV
  have hhf : 1 ≤ hf (fmtD n) ∧ (hf (fmtD n) : Int) ≤ 65536 := by unfold hf; rw [fmtD_size]; omega
  obtain ⟨hh1, hh2⟩ := hhf
  by_cases hbig : hf (fmtD n) * 512 < ls.length
  · have cb : decide ((ls.length : Int) > (hf (fmtD n) : Int) * 512) = true := by simp; omega
    clear hbig
    go_enter Try.func5, Try.ntmps5
    go_wp2_with (first
      | (go_at_call 7; refine Hv.out.mono ?_; rintro e w1 ⟨rfl, rfl⟩)
      | (go_at_call 20; refine Hnb.out.mono ?_; rintro e w1 ⟨rfl, rfl⟩)
      | (go_at_call 21; refine Hbeg.out.mono ?_; rintro e w2 ⟨a, b, rfl, hbk⟩
         have HSt := Lib.hid (hbk.state (by rw [fmtD_size]; exact h4))
         clear hbk Hbeg)
      | (go_at_call 22; refine HSt.out.mono ?_; rintro e w3 ⟨rfl, hbk3, hb3⟩
         have hin3 := (Hin.out w3 hbk3.below).1
         have HB3 := Lib.hid (Hin.out w3 hbk3.below).2.2.2
         clear hbk3 hb3 HSt)
      | (go_at_call 8; refine (Hk.out _).mono ?_; rintro e w4 ⟨rfl, hb4⟩; have HB4 := Lib.hid hb4; clear hb4))
    go_ret
    exact ⟨rfl, HB3.out.trans (HB4.out.mono HB3.out.size)⟩
  · have cb : decide ((ls.length : Int) > (hf (fmtD n) : Int) * 512) = false := by simp; omega
    have hsm : ls.length ≤ hf (fmtD n) * 512 := by omega
    clear hbig
    have hfE : hf (fmtD n) = hf (cutE n cut) := hf_size ((fmtD_size n).trans (cutE_size n cut).symm)
    have HfE := Lib.hid hfE
    clear hfE
    go_enter Try.func5, Try.ntmps5
    go_wp2_with (first
      | (go_at_call 7; refine Hv.out.mono ?_; rintro e w1 ⟨rfl, rfl⟩)
      | (go_at_call 20; refine Hnb.out.mono ?_; rintro e w1 ⟨rfl, rfl⟩)
      | (go_at_call 21; refine Hbeg.out.mono ?_; rintro e w2 ⟨a, b, rfl, hbk⟩
         have HSt := Lib.hid (hbk.state (by rw [fmtD_size]; exact h4))
         clear hbk Hbeg)
      | (go_at_call 22; refine HSt.out.mono ?_; rintro e w3 ⟨rfl, hbk3, hb3⟩
         have hin3 := (Hin.out w3 hbk3.below).1
         obtain ⟨cc, W0, hcv, hbW0, hrdW0⟩ := cv_strB w3 oldL (by show 9 ≤ 1000000; omega)
         have hcv0 : (convert 9 34 (.string ⟨#[111, 108, 100, 32, 98, 121, 116, 101, 115]⟩)).run Try.prog w3 = .ok (.slice (some ⟨w3.heap.size, 0, none⟩) 9 cc) W0 := hcv
         have HPut1 := Lib.hid (hbk3.put (fun _ _ => trivial) (by rw [fmtD_size]; exact h4) (by omega) (some ⟨w3.heap.size, 0, none⟩) 9 cc oldL W0 hbW0 hrdW0 (fun g hg => by cases hg; exact Nat.le_refl _) (by omega) (by rw [fmtD_steps]; omega))
         clear hbk3 hb3 HSt hcv hbW0 hrdW0)
      | (go_at_call 18; refine HPut1.out.mono ?_
         rintro e w5 hres
         obtain ⟨rfl, hbk5⟩ : e = .returned (.int .i64 0) ∧ Bk (fun _ => True) (cutW ls kd num q m c w) w5 a b (cutD n) ((1 + 1 : Nat) : Int) oldL false := by
           rcases hres.1 with ⟨h1, _, h3⟩ | ⟨_, h2, _⟩
           · exact ⟨h1, h3⟩
           · rw [putE_ok (fmtD_no n)] at h2; cases h2
         have HDk := Lib.hid hbk5.disk
         have HB5 := Lib.hid hbk5
         have hst5 := hbk5.dk.steps
         rw [cutD_steps] at hst5
         have HSteps := Lib.hid hst5
         have hb56 : Below w5.heap.size w5 (w5.alloc (.cells #[.int .i64 (6 + (cut : Int))] 3)) := (Below.refl _ _).alloc (Nat.le_refl _) _
         have hrdk : RdI (w5.alloc (.cells #[.int .i64 (6 + (cut : Int))] 3)) (.slice (some ⟨w5.heap.size, 0, none⟩) 1 1) [6 + (cut : Int)] := ⟨some ⟨w5.heap.size, 0, none⟩, 1, rfl, fun h => (by cases h), fun ad had => by
           cases had
           refine ⟨fun _ => rfl, fun i k hi => ?_⟩
           cases i with
           | zero => simp at hi; subst hi; exact cellOf (heap_alloc_new _ _) rfl
           | succ i => simp at hi⟩
         have HFail := Lib.hid (hbk5.fail (some ⟨w5.heap.size, 0, none⟩) 1 1 [6 + (cut : Int)] _ hb56 hrdk (fun g hg => by cases hg; exact Nat.le_refl _) (by show 1 ≤ 1000000; omega) (FailB.none (cutD_fails n)) (by show 0 + 1 ≤ 1000000000; omega) (by simp [anyNeg]; omega))
         clear hres hbk5 hst5 hb56 hrdk HPut1 hcv0)
      | (go_at_call 23; refine HDk.out.mono ?_; rintro e w' ⟨rfl, rfl⟩)
      | (go_at_call 25; refine HSteps.out.mono ?_; rintro e w' ⟨rfl, rfl⟩)
      | (go_at_call 24; refine HFail.out.mono ?_
         rintro e w6 ⟨rfl, hbk6, _⟩
         have hin6 := (Hin.out w6 hbk6.below).1
         obtain ⟨cc6, W6, hcv6, hbW6, hrdW6⟩ := cv_strB w6 ls (by omega)
         have HPut2 := Lib.hid (Bk.put (d := cutE n cut) (N := 2) hbk6 (fun _ _ => trivial) (by rw [cutE_size]; exact h4) (by omega) (some ⟨w6.heap.size, 0, none⟩) ls.length cc6 ls W6 hbW6 hrdW6 (fun g hg => by cases hg; exact Nat.le_refl _) (by rw [← HfE.out]; exact hsm) (by rw [cutE_steps]; omega))
         clear hbk6 hbW6 hrdW6 HFail)
      | (go_at_call 18; refine HPut2.out.mono ?_
         rintro e w7 hres
         obtain ⟨rfl, hbk7⟩ : e = .returned (.int .i64 300) ∧ Bk (fun _ => True) (cutW ls kd num q m c w) w7 a b (putE (cutE n cut) 2 ls).1 ((2 : Nat) : Int) oldL true := by
           rcases hres.1 with ⟨_, h2, _⟩ | ⟨h1, _, h3⟩
           · rw [(cutE_flags n cut hcut ls).1] at h2; cases h2
           · exact ⟨h1, h3⟩
         obtain ⟨_, hin7, hpk7, _⟩ := Hin.out w7 hbk7.below
         have hs7 : (putE (cutE n cut) 2 ls).1.steps < 1073741824 := by
           have h1 := putE_steps_le (cutE n cut) 2 ls
           have h2 := cutE_steps n cut
           omega
         have HCr := Lib.hid (hbk7.dk.crash (fun _ _ => trivial) q m c picks hpk7 H0.out.1 (by omega) H0.out.2 hs7)
         clear hres hbk7 hpk7 hs7 HPut2 hcv6)
      | (go_at_call 26; refine HCr.out.mono ?_
         rintro e w8 ⟨a', rfl, hdk8, hb8⟩
         have HD8 : Hid (Dk (fun _ => True) (cutW ls kd num q m c w) w8 a' (cutF n cut ls picks)) := Lib.hid hdk8
         clear hdk8 hb8 HCr))
    obtain ⟨M, s, hlook, hM1, hM2, hcase⟩ := cutF_looked n cut h4 (by omega) hcut ls hsm picks
    have h4F : 4 ≤ (cutF n cut ls picks).size := by rw [cutF_size]; exact h4
    have hfF : 1 ≤ hf (cutF n cut ls picks) := by unfold hf; rw [cutF_size]; omega
    have hno : ∀ k, (cutF n cut ls picks).fails k = none := fun _ => rfl
    have hslen : s.length ≤ 1000000 := by
      rcases hcase with ⟨rfl, _⟩ | ⟨rfl, _⟩ | ⟨rfl, _⟩
      · show 9 ≤ 1000000; omega
      · show 9 ≤ 1000000; omega
      · omega
    have hst0 : (cutF n cut ls picks).steps = 0 := rfl
    have hmF : (cutF n cut ls picks).size ≤ 65536 := by rw [cutF_size]; omega
    have HLk := Lib.hid (HD8.out.look h4F hlook)
    have HF := Lib.hid (And.intro h4F (And.intro hmF (And.intro hM2 (And.intro hno (And.intro hst0 hlook)))))
    clear h4F hmF hlook hst0 hno hfF
    generalize cutF n cut ls picks = D at *
    have hlit : ∀ (W : World) (x : List UInt8) (r : Bool), (x = oldL) = (r = true) → ((strB x).toList == [111, 108, 100, 32, 98, 121, 116, 101, 115]) = r := fun W x r h => by
      rw [strB_toList]
      cases r with
      | true => have h1 : x = oldL := by rw [h]
                rw [h1]; rfl
      | false =>
        have h1 : x ≠ oldL := fun e => by rw [e] at h; simp at h
        rw [beq_eq_false_iff_ne]; exact h1
    have hc2 : decide ((cut : Int) < 2) = decide (cut < 2) := by rw [Bool.eq_iff_iff]; simp; omega
    have hM3 : (M : Int) ≤ 3 := by omega
    have hM4 : (2 : Int) ≤ (M : Int) := by omega
    rcases hcase with ⟨hs, hct, rfl⟩ | ⟨hs, hct⟩ | ⟨hs, hne, hct⟩
    all_goals
      have k1 := hlit w8 s (decide (s = oldL)) (by simp)
      first | (have hd1 : decide (s = oldL) = true := decide_eq_true hs) | (have hd1 : decide (s = oldL) = false := decide_eq_false hne)
      first | (have hd2 : decide (cut < 2) = true := decide_eq_true hct) | (have hd2 : decide (cut < 2) = false := decide_eq_false (by omega))
      rw [hd1] at k1
      rw [hd2] at hc2
      have k2 : (strB s).toList = [111, 108, 100, 32, 98, 121, 116, 101, 115] ↔ decide (s = oldL) = true := by rw [← hlit w8 s (decide (s = oldL)) (by simp)]; simp
      rw [hd1] at k2
      clear hlit hd1 hd2 hct
      first | (subst hs) | skip
      try clear hne
      go_wp2_with (first
        | (go_at_call 15; refine HLk.out.mono ?_; rintro e w9 ⟨a1, cc1, rfl, hown9, hb9⟩
           have HD9 := Lib.hid (HD8.out.grow hb9)
           have hstr9 := run_str hown9.rd
           have hin9 := (Hin.out w9 (HD8.out.grow hb9).below).1
           have HO := Lib.hid ((HD8.out.grow hb9).open_ HF.out.1 HF.out.2.2.2.2.2)
           clear hown9 hb9 HLk)
        | (go_at_call 16; refine HO.out.mono ?_; rintro e w10 ⟨b', rfl, hbk10, _⟩
           obtain ⟨W11, hcv11, hput11⟩ := hbk10.put_new HF.out.1 HF.out.2.1 HF.out.2.2.1 HF.out.2.2.2.1 HF.out.2.2.2.2.1 HF.out.2.2.2.2.2
           have HPut3 := Lib.hid hput11
           clear hbk10 hput11 HO hstr9 hin9)
        | (go_at_call 18; refine HPut3.out.mono ?_; rintro e w12 ⟨rfl, hdk12, hlk12⟩
           have HLk2 := Lib.hid hlk12
           have HD12 := Lib.hid hdk12
           clear hdk12 hlk12 HPut3 hcv11)
        | (go_at_call 15; refine HLk2.out.mono ?_; rintro e w13 ⟨a2, cc2, rfl, hown13, hb13⟩
           have hstr13 : (convert 34 9 (.slice a2 5 cc2)).run Try.prog w13 = .ok (.string (strB newL)) w13 := run_str hown13.rd
           have hnew : ((strB newL).toList == [110, 101, 119, 101, 114]) = true := by rw [strB_toList]; rfl
           have hnew' : ((strB newL).toList = [110, 101, 119, 101, 114]) = True := eq_true (strB_toList _)
           have HB13 := Lib.hid (HD12.out.grow hb13).below
           clear hown13 hb13 HLk2)
        | (go_at_call 8; refine (Hk.out _).mono ?_; rintro e w14 ⟨rfl, hb14⟩; have HB14 := Lib.hid (HB13.out.trans (hb14.mono HB13.out.size)); clear hb14))
      go_ret
      exact ⟨rfl, (Hin.out _ HB14.out).2.2.2⟩
end Go.Proofs.Ytfpmdagchbbkcaa
