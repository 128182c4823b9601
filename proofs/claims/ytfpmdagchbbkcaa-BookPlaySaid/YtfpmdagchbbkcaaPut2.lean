/- The book: Put, whichever of its steps fails. -/
import Derived.Test.YtfpmdagchbbkcaaCatch
namespace Go.Proofs.Ytfpmdagchbbkcaa
open Go.RowKit

def putA (d : DM) (N : Nat) (l : List UInt8) : DM := (d.write (plc d (N + 1)) (padB l) ((padB l).length / 512)).1
def putC (d : DM) (N : Nat) (l : List UInt8) : DM := ((putA d N l).flush.1.write ((N + 1) % 2) (headB ((N + 1 : Nat) : Int) (l.length : Int)) 1).1
def putD (d : DM) (N : Nat) (l : List UInt8) : DM := (putC d N l).flush.1
/-- A Put, as far as it comes: the disk behind it, and whether it was given up with. -/
def putE (d : DM) (N : Nat) (l : List UInt8) : DM × Bool :=
  if d.failing then (putA d N l, true) else if (putA d N l).failing then ((putA d N l).flush.1, true) else if ((putA d N l).flush.1).failing then (putC d N l, true) else (putD d N l, (putC d N l).failing)
/-- What a Put leaves. -/
def PutEnd (w : World) (F : Nat → Prop) (a b N : Nat) (d : DM) (v : Value) (l : List UInt8) (e : Ending) (w' : World) : Prop :=
  (e = .returned (.int .i64 0) ∧ (putE d N l).2 = false ∧ ∃ B v', Disk w' (fun x => (F x ∨ w.heap.size ≤ x) ∧ x < B) a (putE d N l).1 ∧ B ≤ w'.heap.size ∧
      BookAt w' b ((N + 1 : Nat) : Int) v' false (some ⟨a, 0, none⟩) ∧ OwnB w' v' l ∧ (∀ g, v'.ownBlock = some g → B ≤ g) ∧ Touch (fun x => F x ∨ x = b) w w') ∨
  (e = .returned (.int .i64 300) ∧ (putE d N l).2 = true ∧ ∃ B, Disk w' (fun x => (F x ∨ w.heap.size ≤ x) ∧ x < B) a (putE d N l).1 ∧ B ≤ w'.heap.size ∧
      BookAt w' b (N : Int) v true (some ⟨a, 0, none⟩) ∧ Touch (fun x => F x ∨ x = b) w w')
theorem nofail {d : DM} (h : ∀ k, d.fails k = none) : d.failing = false := by simp [DM.failing, h]
theorem write_fails (d : DM) (at_ : Nat) (l : List UInt8) (m : Nat) : (d.write at_ l m).1.fails = d.fails := rfl
theorem flush_fails (d : DM) : d.flush.1.fails = d.fails := by unfold DM.flush; cases d.failing <;> rfl
theorem write_code {d : DM} (h : ∀ k, d.fails k = none) (at_ : Nat) (l : List UInt8) (m : Nat) : (d.write at_ l m).2 = 0 := by unfold DM.write; rw [nofail h]; rfl
theorem flush_code {d : DM} (h : ∀ k, d.fails k = none) : d.flush.2 = 0 := by unfold DM.flush; rw [nofail h]; rfl

theorem write_good {w w1 : World} {F : Nat → Prop} {B a : Nat} {d : DM} (h : Then w w1 F B a d) (hf : d.failing = false) (hst : d.steps < 1073741824) (v : Value) (l : List UInt8) (hown : OwnB w1 v l) (hoff : ∀ g, v.ownBlock = some g → B ≤ g)
    (at_ m : Nat) (hl : l.length = 512 * m) (hm : at_ + m ≤ d.size) :
    Calls Try.prog 10 #[.pointer (some ⟨a, 0, none⟩), .int .i64 (at_ : Int), v] w1 fun e w' => e = .returned (.int .i64 0) ∧ Then w w' F w'.heap.size a (d.write at_ l m).1 := by
  obtain ⟨a1, c1, rfl⟩ := hown.shape
  refine (then_write h hst a1 _ c1 l hown.rd hoff at_ m hl hm).mono ?_
  rintro e w' ⟨rfl, ht⟩
  exact ⟨by unfold DM.write; rw [hf]; rfl, ht⟩
theorem write_bad {w w1 : World} {F : Nat → Prop} {B a : Nat} {d : DM} (h : Then w w1 F B a d) (hf : d.failing = true) (hst : d.steps < 1073741824) (v : Value) (l : List UInt8) (hown : OwnB w1 v l) (hoff : ∀ g, v.ownBlock = some g → B ≤ g)
    (at_ m : Nat) (hl : l.length = 512 * m) (hm : at_ + m ≤ d.size) :
    Calls Try.prog 10 #[.pointer (some ⟨a, 0, none⟩), .int .i64 (at_ : Int), v] w1 fun e w' => e = .returned (.int .i64 300) ∧ Then w w' F w'.heap.size a (d.write at_ l m).1 := by
  obtain ⟨a1, c1, rfl⟩ := hown.shape
  refine (then_write h hst a1 _ c1 l hown.rd hoff at_ m hl hm).mono ?_
  rintro e w' ⟨rfl, ht⟩
  exact ⟨by unfold DM.write; rw [hf]; rfl, ht⟩
theorem flush_good {w w1 : World} {F : Nat → Prop} {B a : Nat} {d : DM} (h : Then w w1 F B a d) (hf : d.failing = false) (hst : d.steps < 1073741824) :
    Calls Try.prog 43 #[.pointer (some ⟨a, 0, none⟩)] w1 fun e w' => e = .returned (.int .i64 0) ∧ Then w w' F w'.heap.size a d.flush.1 := by
  refine (then_flush h hst).mono ?_
  rintro e w' ⟨rfl, ht⟩
  exact ⟨by unfold DM.flush; rw [hf]; rfl, ht⟩
theorem flush_bad {w w1 : World} {F : Nat → Prop} {B a : Nat} {d : DM} (h : Then w w1 F B a d) (hf : d.failing = true) (hst : d.steps < 1073741824) :
    Calls Try.prog 43 #[.pointer (some ⟨a, 0, none⟩)] w1 fun e w' => e = .returned (.int .i64 300) ∧ Then w w' F w'.heap.size a d.flush.1 := by
  refine (then_flush h hst).mono ?_
  rintro e w' ⟨rfl, ht⟩
  exact ⟨by unfold DM.flush; rw [hf]; rfl, ht⟩

section
variable {a : Act} {w : World} {o : Oper}
theorem exec_rem2 {t t' : TypeId} {x y : Operand} {N : Nat} (ho : o.op = .binOp .rem t x y t') (hx : a.eval x = .int .i64 ((N : Int) + 1)) (hy : a.eval y = .int .i64 2) : (execOp a.eval o).run Try.prog w = .ok (.value (.int .i64 (((N + 1) % 2 : Nat) : Int))) w := by
  have e : ((N : Int) + 1).tmod 2 = (((N + 1) % 2 : Nat) : Int) := by rw [Int.tmod_eq_emod_of_nonneg (by omega)]; omega
  unfold execOp; rw [ho]; simp only [hx, hy]
  simp [go_sem, e]
theorem exec_len {x : Operand} {p : Option Addr} {n c : Nat} (ho : o.op = .call { callee := .builtin .len, args := #[x], argTypes := #[34] }) (hx : a.eval x = .slice p n c) : (execOp a.eval o).run Try.prog w = .ok (.value (.int .i64 (n : Int))) w := by
  unfold execOp
  simp only [ho, resolve, invoke, builtin, Sem.run_bind, Sem.run_pure, Result.andThen_ok, List.map_toArray, List.map_cons, List.map_nil, hx]
  simp [go_sem]
theorem run_store_i64 {ad : Addr} {n : Int} {u : Value} (hc : w.cell? ad = some u) (hf : w.frozen? ad = false) : (storeVar 2 ad (.int .i64 n)).run Try.prog w = .ok () (w.setCell ad (.int .i64 n)) := by
  simp [storeVar, go_sem, hc, hf]
theorem run_store_sl {ad : Addr} {p : Option Addr} {n c : Nat} {u : Value} (hc : w.cell? ad = some u) (hf : w.frozen? ad = false) : (storeVar 34 ad (.slice p n c)).run Try.prog w = .ok () (w.setCell ad (.slice p n c)) := by
  simp [storeVar, go_sem, hc, hf]
end

set_option maxRecDepth 100000 in
set_option maxHeartbeats 4000000 in
theorem put_any {w : World} {F : Nat → Prop} {a b N : Nat} {d : DM} {v : Value} (hd : Disk w F a d) (hF : ∀ x, F x → x < w.heap.size) (hbF : ¬ F b) (h4 : 4 ≤ d.size) (hbk : BookAt w b (N : Int) v false (some ⟨a, 0, none⟩)) (hN : N < 4611686018427387904)
    (a1 : Option Addr) (n1 c1 : Nat) (l : List UInt8) (hrd : RdB w (.slice a1 n1 c1) l) (hoff : OffF F (.slice a1 n1 c1)) (hsm : n1 ≤ hf d * 512) (hst : d.steps < 1073741000) :
    Calls Try.prog 18 #[.pointer (some ⟨b, 0, none⟩), .slice a1 n1 c1] w (PutEnd w F a b N d v l) := by
  have hb : Below w.heap.size w ((w.alloc (.cells #[.pointer (some ⟨b, 0, none⟩)] 42)).alloc (.cells #[.int .i64 0] 30)) := ((Below.refl _ _).alloc (Nat.le_refl _) _).alloc (by simp) _
  have hbk2 : BookAt ((w.alloc (.cells #[.pointer (some ⟨b, 0, none⟩)] 42)).alloc (.cells #[.int .i64 0] 30)) b N v false (some ⟨a, 0, none⟩) := belowBlk hb (Array.getElem?_eq_some_iff.1 hbk).1 hbk
  have Hn := Lib.hid (bnone_at hbk2)
  have Hh := Lib.hid (half_disk (hd.below hb) h4)
  have k0 := cellOf (o := 0) hbk2 rfl
  have k2 := cellOf (o := 2) hbk2 rfl
  have k3 := cellOf (o := 3) hbk2 rfl
  have hn1 : n1 = l.length := by obtain ⟨_, _, h, _⟩ := hrd; cases h; rfl
  have hmost := hd.1.most
  have hq : hf d ≤ 32767 ∧ 2 + 2 * hf d ≤ d.size := by unfold hf; omega
  have hq0 : (hf d : Int) ≤ 65536 := by omega
  have hc : decide ((hf d : Int) * 512 < (n1 : Int)) = false := by simp; omega
  have hc2 : decide (4611686018427387904 ≤ (N : Int)) = false := by simp; omega
  have hN2 : (N : Int) < 4611686018427387904 := by omega
  have Hall := Lib.hid (And.intro hd (And.intro h4 (And.intro hbk (And.intro hrd (And.intro hn1 (And.intro hq (And.intro hb hbk2)))))))
  have Hlt := Lib.hid (And.intro hsm (And.intro hst (And.intro hF (And.intro hbF (And.intro hoff hN)))))
  clear hd h4 hbk hrd hn1 hq hb hsm hst hF hbF hoff hN hmost hbk2
  have hmf : ∀ (fn : Fn) (first cap : Array Value) (w : World), (Instr.makeFunc fn first cap).run Try.prog w = .ok (.func fn first cap) w := fun _ _ _ _ => rfl
  go_enter_defers Try.func18, Try.ntmps18
  go_wp2_with (first
    | (go_at_call 36; refine Hn.out.mono ?_; rintro e w' ⟨rfl, rfl⟩)
    | (go_at_call 38; refine Hh.out.mono ?_; rintro e w' ⟨rfl, rfl⟩))
  obtain ⟨hd, h4, hbk, hrd, hn1, hq, hb, hbk2⟩ := Hall.out
  obtain ⟨hsm, hst, hF, hbF, hoff, hN⟩ := Hlt.out
  have hblt : b < w.heap.size := (Array.getElem?_eq_some_iff.1 hbk).1
  have ct : ((w.alloc (.cells #[.pointer (some ⟨b, 0, none⟩)] 42)).alloc (.cells #[.int .i64 0] 30)).heap[w.heap.size]? = some (.cells #[.pointer (some ⟨b, 0, none⟩)] 42 (0, 0)) := by
    simp only [heap_get_alloc, World.size_alloc]; repeat (first | rfl | rw [if_pos trivial] | rw [if_pos (by omega)] | rw [if_neg (by omega)])
  have ce : ((w.alloc (.cells #[.pointer (some ⟨b, 0, none⟩)] 42)).alloc (.cells #[.int .i64 0] 30)).heap[w.heap.size + 1]? = some (.cells #[.int .i64 0] 30 (0, 0)) := by
    simp only [heap_get_alloc, World.size_alloc]; repeat (first | rfl | rw [if_pos trivial] | rw [if_pos (by omega)] | rw [if_neg (by omega)])
  have hs0 : ((w.alloc (.cells #[.pointer (some ⟨b, 0, none⟩)] 42)).alloc (.cells #[.int .i64 0] 30)).heap.size = w.heap.size + 2 := by simp
  generalize (w.alloc (.cells #[.pointer (some ⟨b, 0, none⟩)] 42)).alloc (.cells #[.int .i64 0] 30) = W0 at *
  have hT00 : Then W0 W0 F W0.heap.size a d := Then.self (hd.below hb)
  have hcell : ∀ W B d', Then W0 W F B a d' → (W.cell? ⟨w.heap.size, 0, none⟩ = some (.pointer (some ⟨b, 0, none⟩)) ∧ W.cell? ⟨b, 3, none⟩ = some (.pointer (some ⟨a, 0, none⟩))) := fun W B d' h =>
    ⟨cellOf (h.touch.heap ct (fun e => by have := hF _ e; omega)) rfl, cellOf (h.touch.heap hbk2 hbF) rfl⟩
  have hread : ∀ W B d', Then W0 W F B a d' → RdB W (.slice a1 n1 c1) l := fun W B d' h => (hrd.below hb).touch h.touch hoff
  have Hcell := Lib.hid hcell
  have Hread := Lib.hid hread
  have hm : (padB l).length = 512 * ((padB l).length / 512) := by have := padB_length l; omega
  have hm2 : (padB l).length / 512 ≤ hf d := by
    have e : (padB l).length = l.length + (512 - l.length % 512) % 512 := by simp [padB]
    omega
  have hmod : (N + 1) % 2 * hf d ≤ hf d := by rcases Nat.mod_two_eq_zero_or_one (N + 1) with e | e <;> rw [e] <;> simp
  have hroom : plc d (N + 1) + (padB l).length / 512 ≤ d.size := by unfold plc; omega
  have hT0 : Then W0 W0.drew F W0.heap.size a d := hT00.below (Below.refl _ _).drew
  have hf3 : ∀ W' : World, (Instr.fieldAt 52 (.pointer (some ⟨b, 0, none⟩)) 1).run Try.prog W' = .ok (.pointer (some ⟨b, 3, none⟩)) W' := by intro W'; simp [go_sem]
  refine plain_region_draws_out (fun W => W.cell? ⟨w.heap.size, 0, none⟩ = some (.pointer (some ⟨b, 0, none⟩)) ∧ W.cell? ⟨b, 3, none⟩ = some (.pointer (some ⟨a, 0, none⟩))) (by kernel_rfl) (hcell _ _ _ hT0) (fun hS => ?_)
  refine take 0 40 (v := .pointer (some ⟨b, 0, none⟩)) rfl rfl (by kernel_rfl) (by kernel_rfl) (by kernel_rfl) rfl (fun W hW => exec_load rfl rfl (run_load1 (w := W) Try.underlying42 rfl hW.1)) hS ?_
  simp only [Act.put, List.setIfInBounds_toArray, List.set_cons_zero, List.set_cons_succ]
  refine take 1 41 (v := .pointer (some ⟨b, 0, none⟩)) rfl rfl (by kernel_rfl) (by kernel_rfl) (by kernel_rfl) rfl (fun W hW => rfl) hS ?_
  simp only [Act.put, List.setIfInBounds_toArray, List.set_cons_zero, List.set_cons_succ]
  refine take 2 42 (v := .pointer (some ⟨b, 3, none⟩)) rfl rfl (by kernel_rfl) (by kernel_rfl) (by kernel_rfl) rfl (fun W hW => exec_fieldAddr rfl rfl (hf3 W)) hS ?_
  simp only [Act.put, List.setIfInBounds_toArray, List.set_cons_zero, List.set_cons_succ]
  refine take 3 43 (v := .pointer (some ⟨a, 0, none⟩)) rfl rfl (by kernel_rfl) (by kernel_rfl) (by kernel_rfl) rfl (fun W hW => exec_load rfl rfl (run_load1 (w := W) Try.underlying29 rfl hW.2)) hS ?_
  simp only [Act.put, List.setIfInBounds_toArray, List.set_cons_zero, List.set_cons_succ]
  refine take 4 44 (v := .pointer (some ⟨b, 0, none⟩)) rfl rfl (by kernel_rfl) (by kernel_rfl) (by kernel_rfl) rfl (fun W hW => exec_load rfl rfl (run_load1 (w := W) Try.underlying42 rfl hW.1)) hS ?_
  simp only [Act.put, List.setIfInBounds_toArray, List.set_cons_zero, List.set_cons_succ]
  refine take 5 45 (v := .pointer (some ⟨b, 0, none⟩)) rfl rfl (by kernel_rfl) (by kernel_rfl) (by kernel_rfl) rfl (fun W hW => rfl) hS ?_
  simp only [Act.put, List.setIfInBounds_toArray, List.set_cons_zero, List.set_cons_succ]
  refine take 6 46 (v := .pointer (some ⟨b, 3, none⟩)) rfl rfl (by kernel_rfl) (by kernel_rfl) (by kernel_rfl) rfl (fun W hW => exec_fieldAddr rfl rfl (hf3 W)) hS ?_
  simp only [Act.put, List.setIfInBounds_toArray, List.set_cons_zero, List.set_cons_succ]
  refine take 7 47 (v := .pointer (some ⟨a, 0, none⟩)) rfl rfl (by kernel_rfl) (by kernel_rfl) (by kernel_rfl) rfl (fun W hW => exec_load rfl rfl (run_load1 (w := W) Try.underlying29 rfl hW.2)) hS ?_
  simp only [Act.put, List.setIfInBounds_toArray, List.set_cons_zero, List.set_cons_succ]
  refine take 8 48 (v := .int .i64 ((N : Int) + 1)) rfl rfl (by kernel_rfl) (by kernel_rfl) (by kernel_rfl) rfl (fun W hW => exec_move rfl rfl) hS ?_
  simp only [Act.put, List.setIfInBounds_toArray, List.set_cons_zero, List.set_cons_succ]
  refine take 10 50 (v := .slice a1 n1 c1) rfl rfl (by kernel_rfl) (by kernel_rfl) (by kernel_rfl) rfl (fun W hW => exec_move rfl rfl) hS ?_
  simp only [Act.put, List.setIfInBounds_toArray, List.set_cons_zero, List.set_cons_succ]
  refine onlyCall 9 49 rfl rfl (by kernel_rfl) rfl (exec_call [.pointer (some ⟨a, 0, none⟩), .int .i64 ((N : Int) + 1)] rfl rfl Try.func41 (by kernel_rfl) (by kernel_rfl)) ?_
  refine (place_disk hT0.disk h4 (N + 1) (by omega)).mono ?_
  rintro e w' ⟨rfl, rfl⟩
  refine ⟨_, rfl, .inr hS, ?_⟩
  simp only [Act.put, List.setIfInBounds_toArray, List.set_cons_zero, List.set_cons_succ]
  refine onlyCall 11 51 rfl rfl (by kernel_rfl) rfl (exec_call [.slice a1 n1 c1] rfl rfl Try.func42 (by kernel_rfl) (by kernel_rfl)) ?_
  refine (padded_any a1 n1 c1 l W0.drew (hread _ _ _ hT0) (by omega)).mono ?_
  rintro e w1 ⟨v1, rfl, hown1, hb1, hg1⟩
  refine ⟨v1, rfl, .inr (hcell _ _ _ (hT0.below hb1)), ?_⟩
  simp only [Act.put, List.setIfInBounds_toArray, List.set_cons_zero, List.set_cons_succ]
  rcases Bool.eq_false_or_eq_true d.failing with hf0 | hf0
  · refine onlyCall 12 52 rfl rfl (by kernel_rfl) rfl (exec_call [.pointer (some ⟨a, 0, none⟩), .int .i64 (plc d (N + 1) : Int), v1] rfl rfl Try.func10 (by kernel_rfl) (by kernel_rfl)) ?_
    refine (write_bad (hT0.below hb1) hf0 (by omega) v1 (padB l) hown1 hg1 (plc d (N + 1)) _ hm hroom).mono ?_
    rintro e w2 ⟨rfl, hT2⟩
    refine ⟨_, rfl, .inr (hcell _ _ _ hT2), ?_⟩
    simp only [Act.put, List.setIfInBounds_toArray, List.set_cons_zero, List.set_cons_succ]
    refine lastPanic 13 rfl (by kernel_rfl) rfl (by kernel_rfl) (exec_call [.int .i64 300] rfl rfl Try.func40 (by kernel_rfl) (by kernel_rfl)) ?_
    refine (must_bad 300 rfl w2).mono ?_
    rintro e w' ⟨rfl, rfl⟩
    refine ⟨_, rfl, ?_⟩
    change Then W0 w2 F w2.heap.size a (putA d N l) at hT2
    obtain ⟨q2, q3⟩ := hcell _ _ _ hT2
    have hpx := (hcell _ _ _ hT2).1
    have hex := hT2.touch.heap ce (fun e => by have := hF _ e; omega)
    have hbx : BookAt w2 b (N : Int) v false (some ⟨a, 0, none⟩) := hT2.touch.heap hbk2 hbF
    have hpe : putE d N l = (putA d N l, true) := by unfold putE; rw [hf0]; rfl
    have hfin : ∀ w'', BookAt w'' b (N : Int) v true (some ⟨a, 0, none⟩) → Touch (fun x => x = b ∨ x = w.heap.size + 1) w2 w'' → PutEnd w F a b N d v l (.returned (.int .i64 300)) w'' := by
      intro w'' h1 h2
      have hdsk := hT2.disk.touch h2 (fun x hx e => by
        rcases e with e | e
        · rw [e] at hx; rcases hx.1 with h | h
          · exact hbF h
          · omega
        · rw [e] at hx; rcases hx.1 with h | h
          · have := hF _ h; omega
          · omega)
      refine .inr ⟨rfl, by rw [hpe], w2.heap.size, ?_, h2.size, h1, ?_⟩
      · rw [hpe]; exact hdsk.mono (fun x hx => ⟨hx.1.imp id (fun h => by omega), hx.2⟩)
      · refine ((Touch.of_below hb (fun x h1 h2 => absurd h1 (by omega))).step hT2.touch (fun x _ h => .inl h)).step h2 (fun x h1 h2 => ?_)
        rcases h2 with h2 | h2
        · exact .inr h2
        · omega
    have Hc := Lib.hid (catch_stop (c := 300) hpx hex hbx (by omega))
    have Hfin := Lib.hid hfin
    clear hfin hpx hex hbx hpe
    go_wp2
    refine leaves_cons (f := 39) (args := #[.pointer (some ⟨w.heap.size, 0, none⟩), .pointer (some ⟨w.heap.size + 1, 0, none⟩)]) (by simp) (enters_plain Try.func39 rfl rfl _ _) ?_
    refine Hc.out.mono ?_
    rintro e u' w'' ⟨rfl, rfl, h1, h2, h3⟩
    exact ⟨_, results_cell1 rfl _ _ ⟨w.heap.size + 1, 0, none⟩ (.int .i64 300) rfl (run_load1 Try.underlying30 rfl h2), Hfin.out _ h1 h3⟩
  refine onlyCall 12 52 rfl rfl (by kernel_rfl) rfl (exec_call [.pointer (some ⟨a, 0, none⟩), .int .i64 (plc d (N + 1) : Int), v1] rfl rfl Try.func10 (by kernel_rfl) (by kernel_rfl)) ?_
  refine (write_good (hT0.below hb1) hf0 (by omega) v1 (padB l) hown1 hg1 (plc d (N + 1)) _ hm hroom).mono ?_
  rintro e w2 ⟨rfl, hT2⟩
  refine ⟨_, rfl, .inr (hcell _ _ _ hT2), ?_⟩
  simp only [Act.put, List.setIfInBounds_toArray, List.set_cons_zero, List.set_cons_succ]
  refine onlyCall 13 53 rfl rfl (by kernel_rfl) rfl (exec_call [.int .i64 0] rfl rfl Try.func40 (by kernel_rfl) (by kernel_rfl)) ?_
  refine (must_ok w2).mono ?_
  rintro e w' ⟨rfl, rfl⟩
  refine ⟨_, rfl, .inr (hcell _ _ _ hT2), ?_⟩
  simp only [Act.put, List.setIfInBounds_toArray, List.set_cons_zero, List.set_cons_succ]
  refine doneQ (by kernel_rfl) ?_ _
  change Then W0 w2 F w2.heap.size a (putA d N l) at hT2
  have hstA : (putA d N l).steps < 1073741001 := by show d.steps + 1 < 1073741001; omega
  have hszA : (putA d N l).size = d.size := rfl
  have hfl : ((putA d N l).failing = true → _) ∧ ((putA d N l).failing = false → _) := ⟨fun h => flush_bad hT2 h (by omega), fun h => flush_good hT2 h (by omega)⟩
  have Hf0 := Lib.hid hf0
  obtain ⟨q2, q3⟩ := hcell _ _ _ hT2
  have Hrest := Lib.hid (And.intro hd (And.intro h4 (And.intro hbk (And.intro hbk2 (And.intro ct (And.intro ce hs0))))))
  have Hrest2 := Lib.hid (And.intro hn1 (And.intro hq (And.intro hb (And.intro hsm (And.intro hst (And.intro hF (And.intro hbF (And.intro hN hblt))))))))
  have Hrest3 := Lib.hid (And.intro hstA hszA)
  clear hf0 hd h4 hbk hrd hn1 hq hb hbk2 hsm hst hF hbF hoff hN hblt ct ce hs0 hT00 hcell hread hm hm2 hmod hroom hT0 hS hown1 hb1 hg1 hT2 hstA hszA k0 k2 k3
  rcases Bool.eq_false_or_eq_true (putA d N l).failing with hfA | hfA
  · have Hfl := Lib.hid (hfl.1 hfA)
    have HfA := Lib.hid hfA
    clear hfl hfA
    go_wp2_with (first
      | (go_at_call 43; refine Hfl.out.mono ?_; rintro e w3 ⟨rfl, hT3⟩; have HT3 := Lib.hid hT3; clear hT3)
      | (go_at_call 40; refine (must_bad 300 rfl _).mono ?_; rintro e w' ⟨rfl, rfl⟩))
    obtain ⟨hd, h4, hbk, hbk2, ct, ce, hs0⟩ := Hrest.out
    obtain ⟨hn1, hq, hb, hsm, hst, hF, hbF, hN, hblt⟩ := Hrest2.out
    have hcell := Hcell.out
    have hpx := (hcell _ _ _ HT3.out).1
    have hex := HT3.out.touch.heap ce (fun e => by have := hF _ e; omega)
    have hbx : BookAt w3 b (N : Int) v false (some ⟨a, 0, none⟩) := HT3.out.touch.heap hbk2 hbF
    have hpe : putE d N l = ((putA d N l).flush.1, true) := by unfold putE; rw [Hf0.out, HfA.out]; rfl
    have hfin : ∀ w'', BookAt w'' b (N : Int) v true (some ⟨a, 0, none⟩) → Touch (fun x => x = b ∨ x = w.heap.size + 1) w3 w'' → PutEnd w F a b N d v l (.returned (.int .i64 300)) w'' := by
      intro w'' h1 h2
      have hdsk := HT3.out.disk.touch h2 (fun x hx e => by
        rcases e with e | e
        · rw [e] at hx; rcases hx.1 with h | h
          · exact hbF h
          · omega
        · rw [e] at hx; rcases hx.1 with h | h
          · have := hF _ h; omega
          · omega)
      refine .inr ⟨rfl, by rw [hpe], w3.heap.size, ?_, h2.size, h1, ?_⟩
      · rw [hpe]; exact hdsk.mono (fun x hx => ⟨hx.1.imp id (fun h => by omega), hx.2⟩)
      · refine ((Touch.of_below hb (fun x h1 h2 => absurd h1 (by omega))).step HT3.out.touch (fun x _ h => .inl h)).step h2 (fun x h1 h2 => ?_)
        rcases h2 with h2 | h2
        · exact .inr h2
        · omega
    have Hc := Lib.hid (catch_stop (c := 300) hpx hex hbx (by omega))
    have Hfin := Lib.hid hfin
    clear hfin hpx hex hbx hpe
    go_wp2
    refine leaves_cons (f := 39) (args := #[.pointer (some ⟨w.heap.size, 0, none⟩), .pointer (some ⟨w.heap.size + 1, 0, none⟩)]) (by simp) (enters_plain Try.func39 rfl rfl _ _) ?_
    refine Hc.out.mono ?_
    rintro e u' w'' ⟨rfl, rfl, h1, h2, h3⟩
    exact ⟨_, results_cell1 rfl _ _ ⟨w.heap.size + 1, 0, none⟩ (.int .i64 300) rfl (run_load1 Try.underlying30 rfl h2), Hfin.out _ h1 h3⟩
  have Hfl := Lib.hid (hfl.2 hfA)
  have HfA := Lib.hid hfA
  clear hfl hfA
  go_wp2_with (first
    | (go_at_call 43; refine Hfl.out.mono ?_; rintro e w3 ⟨rfl, hT3⟩; have HT3 := Lib.hid hT3; clear hT3)
    | (go_at_call 40; refine (must_ok _).mono ?_; rintro e w' ⟨rfl, rfl⟩))
  have hT3 := HT3.out
  obtain ⟨hd, h4, hbk, hbk2, ct, ce, hs0⟩ := Hrest.out
  obtain ⟨hn1, hq, hb, hsm, hst, hF, hbF, hN, hblt⟩ := Hrest2.out
  obtain ⟨hstA, hszA⟩ := Hrest3.out
  have hstB : ((putA d N l).flush.1).steps < 1073741010 := by rw [DM.flush_steps]; omega
  have hszB : ((putA d N l).flush.1).size = d.size := by rw [DM.flush_size]; exact hszA
  have hcell := Hcell.out
  have hT3d : Then W0 w3.drew F w3.heap.size a (putA d N l).flush.1 := hT3.below (Below.refl _ _).drew
  have eC : putC d N l = ((putA d N l).flush.1.write ((N + 1) % 2) (headB ((N : Int) + 1) (n1 : Int)) 1).1 := by rw [hn1]; rfl
  refine plain_region_draws_out (fun W => W.cell? ⟨w.heap.size, 0, none⟩ = some (.pointer (some ⟨b, 0, none⟩)) ∧ W.cell? ⟨b, 3, none⟩ = some (.pointer (some ⟨a, 0, none⟩))) (by kernel_rfl) (hcell _ _ _ hT3d) (fun hS => ?_)
  refine take 0 60 (v := .pointer (some ⟨b, 0, none⟩)) rfl rfl (by kernel_rfl) (by kernel_rfl) (by kernel_rfl) rfl (fun W hW => exec_load rfl rfl (run_load1 (w := W) Try.underlying42 rfl hW.1)) hS ?_
  simp only [Act.put, List.setIfInBounds_toArray, List.set_cons_zero, List.set_cons_succ]
  refine take 1 61 (v := .pointer (some ⟨b, 0, none⟩)) rfl rfl (by kernel_rfl) (by kernel_rfl) (by kernel_rfl) rfl (fun W hW => rfl) hS ?_
  simp only [Act.put, List.setIfInBounds_toArray, List.set_cons_zero, List.set_cons_succ]
  refine take 2 62 (v := .pointer (some ⟨b, 3, none⟩)) rfl rfl (by kernel_rfl) (by kernel_rfl) (by kernel_rfl) rfl (fun W hW => exec_fieldAddr rfl rfl (hf3 W)) hS ?_
  simp only [Act.put, List.setIfInBounds_toArray, List.set_cons_zero, List.set_cons_succ]
  refine take 3 63 (v := .pointer (some ⟨a, 0, none⟩)) rfl rfl (by kernel_rfl) (by kernel_rfl) (by kernel_rfl) rfl (fun W hW => exec_load rfl rfl (run_load1 (w := W) Try.underlying29 rfl hW.2)) hS ?_
  simp only [Act.put, List.setIfInBounds_toArray, List.set_cons_zero, List.set_cons_succ]
  refine take 4 64 (v := .int .i64 ((N : Int) + 1)) rfl rfl (by kernel_rfl) (by kernel_rfl) (by kernel_rfl) rfl (fun W hW => exec_move rfl rfl) hS ?_
  simp only [Act.put, List.setIfInBounds_toArray, List.set_cons_zero, List.set_cons_succ]
  refine take 5 65 (v := .int .i64 (((N + 1) % 2 : Nat) : Int)) rfl rfl (by kernel_rfl) (by kernel_rfl) (by kernel_rfl) rfl (fun W hW => exec_rem2 rfl rfl rfl) hS ?_
  simp only [Act.put, List.setIfInBounds_toArray, List.set_cons_zero, List.set_cons_succ]
  refine take 6 66 (v := .int .i64 ((N : Int) + 1)) rfl rfl (by kernel_rfl) (by kernel_rfl) (by kernel_rfl) rfl (fun W hW => exec_move rfl rfl) hS ?_
  simp only [Act.put, List.setIfInBounds_toArray, List.set_cons_zero, List.set_cons_succ]
  refine take 7 67 (v := .slice a1 n1 c1) rfl rfl (by kernel_rfl) (by kernel_rfl) (by kernel_rfl) rfl (fun W hW => exec_move rfl rfl) hS ?_
  simp only [Act.put, List.setIfInBounds_toArray, List.set_cons_zero, List.set_cons_succ]
  refine take 8 68 (v := .int .i64 (n1 : Int)) rfl rfl (by kernel_rfl) (by kernel_rfl) (by kernel_rfl) rfl (fun W hW => exec_len rfl rfl) hS ?_
  simp only [Act.put, List.setIfInBounds_toArray, List.set_cons_zero, List.set_cons_succ]
  refine onlyCall 9 69 rfl rfl (by kernel_rfl) rfl (exec_call [.int .i64 ((N : Int) + 1), .int .i64 (n1 : Int)] rfl rfl Try.func44 (by kernel_rfl) (by kernel_rfl)) ?_
  refine (head_any ((N : Int) + 1) (n1 : Int) w3.drew).mono ?_
  rintro e w4 ⟨v4, rfl, hown4, hb4, hg4⟩
  refine ⟨v4, rfl, .inr (hcell _ _ _ (hT3d.below hb4)), ?_⟩
  simp only [Act.put, List.setIfInBounds_toArray, List.set_cons_zero, List.set_cons_succ]
  rcases Bool.eq_false_or_eq_true ((putA d N l).flush.1).failing with hfB | hfB
  · refine onlyCall 10 70 rfl rfl (by kernel_rfl) rfl (exec_call [.pointer (some ⟨a, 0, none⟩), .int .i64 (((N + 1) % 2 : Nat) : Int), v4] rfl rfl Try.func10 (by kernel_rfl) (by kernel_rfl)) ?_
    refine (write_bad (hT3d.below hb4) hfB (by omega) v4 (headB ((N : Int) + 1) (n1 : Int)) hown4 hg4 ((N + 1) % 2) 1 (headB_length _ _) (by omega)).mono ?_
    rintro e w5 ⟨rfl, hT5⟩
    refine ⟨_, rfl, .inr (hcell _ _ _ hT5), ?_⟩
    simp only [Act.put, List.setIfInBounds_toArray, List.set_cons_zero, List.set_cons_succ]
    refine lastPanic 11 rfl (by kernel_rfl) rfl (by kernel_rfl) (exec_call [.int .i64 300] rfl rfl Try.func40 (by kernel_rfl) (by kernel_rfl)) ?_
    refine (must_bad 300 rfl w5).mono ?_
    rintro e w' ⟨rfl, rfl⟩
    refine ⟨_, rfl, ?_⟩
    rw [← eC] at hT5
    obtain ⟨q4, q5⟩ := hcell _ _ _ hT5
    have hpx := (hcell _ _ _ hT5).1
    have hex := hT5.touch.heap ce (fun e => by have := hF _ e; omega)
    have hbx : BookAt w5 b (N : Int) v false (some ⟨a, 0, none⟩) := hT5.touch.heap hbk2 hbF
    have hpe : putE d N l = (putC d N l, true) := by unfold putE; rw [Hf0.out, HfA.out, hfB]; rfl
    have hfin : ∀ w'', BookAt w'' b (N : Int) v true (some ⟨a, 0, none⟩) → Touch (fun x => x = b ∨ x = w.heap.size + 1) w5 w'' → PutEnd w F a b N d v l (.returned (.int .i64 300)) w'' := by
      intro w'' h1 h2
      have hdsk := hT5.disk.touch h2 (fun x hx e => by
        rcases e with e | e
        · rw [e] at hx; rcases hx.1 with h | h
          · exact hbF h
          · omega
        · rw [e] at hx; rcases hx.1 with h | h
          · have := hF _ h; omega
          · omega)
      refine .inr ⟨rfl, by rw [hpe], w5.heap.size, ?_, h2.size, h1, ?_⟩
      · rw [hpe]; exact hdsk.mono (fun x hx => ⟨hx.1.imp id (fun h => by omega), hx.2⟩)
      · refine ((Touch.of_below hb (fun x h1 h2 => absurd h1 (by omega))).step hT5.touch (fun x _ h => .inl h)).step h2 (fun x h1 h2 => ?_)
        rcases h2 with h2 | h2
        · exact .inr h2
        · omega
    have Hc := Lib.hid (catch_stop (c := 300) hpx hex hbx (by omega))
    have Hfin := Lib.hid hfin
    clear hfin hpx hex hbx hpe
    go_wp2
    refine leaves_cons (f := 39) (args := #[.pointer (some ⟨w.heap.size, 0, none⟩), .pointer (some ⟨w.heap.size + 1, 0, none⟩)]) (by simp) (enters_plain Try.func39 rfl rfl _ _) ?_
    refine Hc.out.mono ?_
    rintro e u' w'' ⟨rfl, rfl, h1, h2, h3⟩
    exact ⟨_, results_cell1 rfl _ _ ⟨w.heap.size + 1, 0, none⟩ (.int .i64 300) rfl (run_load1 Try.underlying30 rfl h2), Hfin.out _ h1 h3⟩
  refine onlyCall 10 70 rfl rfl (by kernel_rfl) rfl (exec_call [.pointer (some ⟨a, 0, none⟩), .int .i64 (((N + 1) % 2 : Nat) : Int), v4] rfl rfl Try.func10 (by kernel_rfl) (by kernel_rfl)) ?_
  refine (write_good (hT3d.below hb4) hfB (by omega) v4 (headB ((N : Int) + 1) (n1 : Int)) hown4 hg4 ((N + 1) % 2) 1 (headB_length _ _) (by omega)).mono ?_
  rintro e w5 ⟨rfl, hT5⟩
  refine ⟨_, rfl, .inr (hcell _ _ _ hT5), ?_⟩
  simp only [Act.put, List.setIfInBounds_toArray, List.set_cons_zero, List.set_cons_succ]
  refine onlyCall 11 71 rfl rfl (by kernel_rfl) rfl (exec_call [.int .i64 0] rfl rfl Try.func40 (by kernel_rfl) (by kernel_rfl)) ?_
  refine (must_ok w5).mono ?_
  rintro e w' ⟨rfl, rfl⟩
  refine ⟨_, rfl, .inr (hcell _ _ _ hT5), ?_⟩
  simp only [Act.put, List.setIfInBounds_toArray, List.set_cons_zero, List.set_cons_succ]
  refine doneQ (by kernel_rfl) ?_ _
  rw [← eC] at hT5
  have hstC : (putC d N l).steps < 1073741020 := by show ((putA d N l).flush.1).steps + 1 < 1073741020; omega
  have hfl : ((putC d N l).failing = true → _) ∧ ((putC d N l).failing = false → _) := ⟨fun h => flush_bad hT5 h (by omega), fun h => flush_good hT5 h (by omega)⟩
  have HfB := Lib.hid hfB
  obtain ⟨q4, q5⟩ := hcell _ _ _ hT5
  clear hfB hT3 hd h4 hbk hbk2 ct ce hs0 hn1 hq hb hsm hst hF hbF hN hblt hstA hszA hstB hszB hcell hT3d eC hS hown4 hb4 hg4 hT5 hstC q2 q3
  rcases Bool.eq_false_or_eq_true (putC d N l).failing with hfC | hfC
  · have Hfl := Lib.hid (hfl.1 hfC)
    have HfC := Lib.hid hfC
    clear hfl hfC
    go_wp2_with (first
      | (go_at_call 43; refine Hfl.out.mono ?_; rintro e w6 ⟨rfl, hT6⟩; have HT6 := Lib.hid hT6; clear hT6)
      | (go_at_call 40; refine (must_bad 300 rfl _).mono ?_; rintro e w' ⟨rfl, rfl⟩))
    obtain ⟨hd, h4, hbk, hbk2, ct, ce, hs0⟩ := Hrest.out
    obtain ⟨hn1, hq, hb, hsm, hst, hF, hbF, hN, hblt⟩ := Hrest2.out
    have hcell := Hcell.out
    have hpx := (hcell _ _ _ HT6.out).1
    have hex := HT6.out.touch.heap ce (fun e => by have := hF _ e; omega)
    have hbx : BookAt w6 b (N : Int) v false (some ⟨a, 0, none⟩) := HT6.out.touch.heap hbk2 hbF
    have hpe : putE d N l = (putD d N l, true) := by unfold putE; rw [Hf0.out, HfA.out, HfB.out, HfC.out]; rfl
    have hfin : ∀ w'', BookAt w'' b (N : Int) v true (some ⟨a, 0, none⟩) → Touch (fun x => x = b ∨ x = w.heap.size + 1) w6 w'' → PutEnd w F a b N d v l (.returned (.int .i64 300)) w'' := by
      intro w'' h1 h2
      have hdsk := HT6.out.disk.touch h2 (fun x hx e => by
        rcases e with e | e
        · rw [e] at hx; rcases hx.1 with h | h
          · exact hbF h
          · omega
        · rw [e] at hx; rcases hx.1 with h | h
          · have := hF _ h; omega
          · omega)
      refine .inr ⟨rfl, by rw [hpe], w6.heap.size, ?_, h2.size, h1, ?_⟩
      · rw [hpe]; exact hdsk.mono (fun x hx => ⟨hx.1.imp id (fun h => by omega), hx.2⟩)
      · refine ((Touch.of_below hb (fun x h1 h2 => absurd h1 (by omega))).step HT6.out.touch (fun x _ h => .inl h)).step h2 (fun x h1 h2 => ?_)
        rcases h2 with h2 | h2
        · exact .inr h2
        · omega
    have Hc := Lib.hid (catch_stop (c := 300) hpx hex hbx (by omega))
    have Hfin := Lib.hid hfin
    clear hfin hpx hex hbx hpe
    go_wp2
    refine leaves_cons (f := 39) (args := #[.pointer (some ⟨w.heap.size, 0, none⟩), .pointer (some ⟨w.heap.size + 1, 0, none⟩)]) (by simp) (enters_plain Try.func39 rfl rfl _ _) ?_
    refine Hc.out.mono ?_
    rintro e u' w'' ⟨rfl, rfl, h1, h2, h3⟩
    exact ⟨_, results_cell1 rfl _ _ ⟨w.heap.size + 1, 0, none⟩ (.int .i64 300) rfl (run_load1 Try.underlying30 rfl h2), Hfin.out _ h1 h3⟩
  have Hfl := Lib.hid (hfl.2 hfC)
  have HfC := Lib.hid hfC
  clear hfl hfC
  go_wp2_with (first
    | (go_at_call 43; refine Hfl.out.mono ?_; rintro e w6 ⟨rfl, hT6⟩; have HT6 := Lib.hid hT6; clear hT6)
    | (go_at_call 40; refine (must_ok _).mono ?_; rintro e w' ⟨rfl, rfl⟩))
  have hT6 := HT6.out
  obtain ⟨hd, h4, hbk, hbk2, ct, ce, hs0⟩ := Hrest.out
  obtain ⟨hn1, hq, hb, hsm, hst, hF, hbF, hN, hblt⟩ := Hrest2.out
  have hcell := Hcell.out
  have hT6d : Then W0 w6.drew F w6.heap.size a (putC d N l).flush.1 := hT6.below (Below.refl _ _).drew
  have hf0 : ∀ W' : World, (Instr.fieldAt 52 (.pointer (some ⟨b, 0, none⟩)) 0).run Try.prog W' = .ok (.pointer (some ⟨b, 0, none⟩)) W' := by intro W'; simp [go_sem]
  have hg0 : ∀ W' : World, (Instr.fieldAt 50 (.pointer (some ⟨b, 0, none⟩)) 0).run Try.prog W' = .ok (.pointer (some ⟨b, 0, none⟩)) W' := by intro W'; simp [go_sem]
  have hg1 : ∀ W' : World, (Instr.fieldAt 50 (.pointer (some ⟨b, 0, none⟩)) 1).run Try.prog W' = .ok (.pointer (some ⟨b, 1, none⟩)) W' := by intro W'; simp [go_sem]
  refine plain_region_draws (fun W => W.cell? ⟨w.heap.size, 0, none⟩ = some (.pointer (some ⟨b, 0, none⟩))) (by kernel_rfl) (hcell _ _ _ hT6d).1 (fun hS => ?_)
  refine take 0 78 (v := .pointer (some ⟨b, 0, none⟩)) rfl rfl (by kernel_rfl) (by kernel_rfl) (by kernel_rfl) rfl (fun W hW => exec_load rfl rfl (run_load1 (w := W) Try.underlying42 rfl hW)) hS ?_
  simp only [Act.put, List.setIfInBounds_toArray, List.set_cons_zero, List.set_cons_succ]
  refine take 1 79 (v := .pointer (some ⟨b, 0, none⟩)) rfl rfl (by kernel_rfl) (by kernel_rfl) (by kernel_rfl) rfl (fun W hW => exec_load rfl rfl (run_load1 (w := W) Try.underlying42 rfl hW)) hS ?_
  simp only [Act.put, List.setIfInBounds_toArray, List.set_cons_zero, List.set_cons_succ]
  refine take 2 80 (v := .int .i64 ((N : Int) + 1)) rfl rfl (by kernel_rfl) (by kernel_rfl) (by kernel_rfl) rfl (fun W hW => exec_move rfl rfl) hS ?_
  simp only [Act.put, List.setIfInBounds_toArray, List.set_cons_zero, List.set_cons_succ]
  refine take 3 81 (v := .slice a1 n1 c1) rfl rfl (by kernel_rfl) (by kernel_rfl) (by kernel_rfl) rfl (fun W hW => exec_move rfl rfl) hS ?_
  simp only [Act.put, List.setIfInBounds_toArray, List.set_cons_zero, List.set_cons_succ]
  refine onlyCall 4 82 rfl rfl (by kernel_rfl) rfl (exec_call [.slice a1 n1 c1] rfl rfl Try.func37 (by kernel_rfl) (by kernel_rfl)) ?_
  refine (clone_any a1 n1 c1 l w6.drew (Hread.out _ _ _ hT6d) (by omega)).mono ?_
  rintro e w7 ⟨v7, rfl, hown7, hb7, hg7⟩
  refine ⟨v7, rfl, .inr (hcell _ _ _ (hT6d.below hb7)).1, ?_⟩
  simp only [Act.put, List.setIfInBounds_toArray, List.set_cons_zero, List.set_cons_succ]
  have hT7 : Then W0 w7 F w6.heap.size a (putC d N l).flush.1 := hT6d.below hb7
  have hS7 := (hcell _ _ _ hT7).1
  have hbk7 : BookAt w7 b (N : Int) v false (some ⟨a, 0, none⟩) := hT7.touch.heap hbk2 hbF
  obtain ⟨a7, c7, hsh⟩ := hown7.shape
  have hst8 := run_store_i64 (n := (N : Int) + 1) (cellOf (o := 0) hbk7 rfl) (freeOf hbk7)
  have hT8 : Touch (fun x => x = b) w7 (w7.setCell ⟨b, 0, none⟩ (.int .i64 ((N : Int) + 1))) := (Touch.refl _ _).setCell (.inl (by exact rfl)) _
  have hbk8 : BookAt (w7.setCell ⟨b, 0, none⟩ (.int .i64 ((N : Int) + 1))) b ((N : Int) + 1) v false (some ⟨a, 0, none⟩) := heap_setCell_same w7 b 0 _ _ (Value.int .i64 ((N : Int) + 1)) hbk7
  generalize w7.setCell ⟨b, 0, none⟩ (.int .i64 ((N : Int) + 1)) = w8 at *
  have hS8 : w8.cell? ⟨w.heap.size, 0, none⟩ = some (.pointer (some ⟨b, 0, none⟩)) := hT8.cell hS7 (by omega)
  have hst9 := run_store_sl (p := a7) (n := l.length) (c := c7) (cellOf (o := 1) hbk8 rfl) (freeOf hbk8)
  rw [← hsh] at hst9
  have hT9 : Touch (fun x => x = b) w8 (w8.setCell ⟨b, 1, none⟩ v7) := (Touch.refl _ _).setCell (.inl (by exact rfl)) _
  have hbk9 : BookAt (w8.setCell ⟨b, 1, none⟩ v7) b ((N : Int) + 1) v7 false (some ⟨a, 0, none⟩) := heap_setCell_same w8 b 1 _ _ v7 hbk8
  generalize w8.setCell ⟨b, 1, none⟩ v7 = w9 at *
  have hS9 : w9.cell? ⟨w.heap.size, 0, none⟩ = some (.pointer (some ⟨b, 0, none⟩)) := hT9.cell hS8 (by omega)
  refine take 5 83 (v := .pointer (some ⟨b, 0, none⟩)) rfl rfl (by kernel_rfl) (by kernel_rfl) (by kernel_rfl) rfl (fun W hW => rfl) hS7 ?_
  simp only [Act.put, List.setIfInBounds_toArray, List.set_cons_zero, List.set_cons_succ]
  refine take 6 84 (v := .pointer (some ⟨b, 0, none⟩)) rfl rfl (by kernel_rfl) (by kernel_rfl) (by kernel_rfl) rfl (fun W hW => exec_fieldAddr rfl rfl (hf0 W)) hS7 ?_
  simp only [Act.put, List.setIfInBounds_toArray, List.set_cons_zero, List.set_cons_succ]
  refine take 7 85 (v := .pointer (some ⟨b, 0, none⟩)) rfl rfl (by kernel_rfl) (by kernel_rfl) (by kernel_rfl) rfl (fun W hW => exec_fieldAddr rfl rfl (hg0 W)) hS7 ?_
  simp only [Act.put, List.setIfInBounds_toArray, List.set_cons_zero, List.set_cons_succ]
  refine onlySkip 8 rfl rfl (by kernel_rfl) rfl (exec_store rfl rfl rfl hst8) (.inr hS8) ?_
  refine take 9 86 (v := .pointer (some ⟨b, 0, none⟩)) rfl rfl (by kernel_rfl) (by kernel_rfl) (by kernel_rfl) rfl (fun W hW => rfl) hS8 ?_
  simp only [Act.put, List.setIfInBounds_toArray, List.set_cons_zero, List.set_cons_succ]
  refine take 10 87 (v := .pointer (some ⟨b, 0, none⟩)) rfl rfl (by kernel_rfl) (by kernel_rfl) (by kernel_rfl) rfl (fun W hW => exec_fieldAddr rfl rfl (hf0 W)) hS8 ?_
  simp only [Act.put, List.setIfInBounds_toArray, List.set_cons_zero, List.set_cons_succ]
  refine take 11 88 (v := .pointer (some ⟨b, 1, none⟩)) rfl rfl (by kernel_rfl) (by kernel_rfl) (by kernel_rfl) rfl (fun W hW => exec_fieldAddr rfl rfl (hg1 W)) hS8 ?_
  simp only [Act.put, List.setIfInBounds_toArray, List.set_cons_zero, List.set_cons_succ]
  refine onlySkip 12 rfl rfl (by kernel_rfl) rfl (exec_store rfl rfl rfl hst9) (.inr hS9) ?_
  refine done (by kernel_rfl) ?_ _
  have hT79 : Touch (fun x => x = b) w7 w9 := hT8.trans hT9
  have he9 : w9.heap[w.heap.size + 1]? = some (.cells #[.int .i64 0] 30 (0, 0)) := hT79.heap (hT7.touch.heap ce (fun e => by have := hF _ e; omega)) (by omega)
  have c9 : w9.cell? ⟨w.heap.size + 1, 0, none⟩ = some (.int .i64 0) := cellOf he9 rfl
  have f9 : w9.frozen? ⟨w.heap.size + 1, 0, none⟩ = false := freeOf he9
  have hcell9 := heap_setCell_same w9 (w.heap.size + 1) 0 _ _ (Value.int .i64 0) he9
  have hT10 : Touch (fun x => x = w.heap.size + 1) w9 (w9.setCell ⟨w.heap.size + 1, 0, none⟩ (.int .i64 0)) := (Touch.refl _ _).setCell (.inl (by exact rfl)) _
  have hTall : Touch (fun x => F x ∨ x = b) w (w9.setCell ⟨w.heap.size + 1, 0, none⟩ (.int .i64 0)) := by
    refine (((Touch.of_below hb (fun x h1 h2 => absurd h1 (by omega))).step hT7.touch (fun x _ h => .inl h)).step hT79 (fun x _ h => .inr h)).step hT10 (fun x h1 h2 => ?_)
    omega
  have hT710 : Touch (fun x => x = b ∨ x = w.heap.size + 1) w7 (w9.setCell ⟨w.heap.size + 1, 0, none⟩ (.int .i64 0)) := (hT79.mono (fun x _ h => .inl h)).step hT10 (fun x _ h => .inr h)
  have hdsk := hT7.disk.touch hT710 (fun x hx e => by
    rcases e with e | e
    · rw [e] at hx; rcases hx.1 with h | h
      · exact hbF h
      · omega
    · rw [e] at hx; rcases hx.1 with h | h
      · have := hF _ h; omega
      · omega)
  have h6s := hb7.size
  have h6s' : W0.heap.size ≤ w6.heap.size := hT6.touch.size
  have hown10 : OwnB (w9.setCell ⟨w.heap.size + 1, 0, none⟩ (.int .i64 0)) v7 l := hown7.touch hT710 (fun g hg e => by have h := hg7 g hg; have : w6.drew.heap.size = w6.heap.size := rfl; omega)
  have hbk10 := hT10.heap hbk9 (by omega)
  have hle := hT710.size
  have ce10 : (w9.setCell ⟨w.heap.size + 1, 0, none⟩ (.int .i64 0)).cell? ⟨w.heap.size + 1, 0, none⟩ = some (.int .i64 0) := cellOf hcell9 rfl
  generalize hw10 : w9.setCell ⟨w.heap.size + 1, 0, none⟩ (.int .i64 0) = w10 at *
  have hpe : putE d N l = (putD d N l, false) := by unfold putE; rw [Hf0.out, HfA.out, HfB.out, HfC.out]; rfl
  have hfin : PutEnd w F a b N d v l (.returned (.int .i64 0)) w10 := by
    refine .inl ⟨rfl, by rw [hpe], ?_⟩
    rw [hpe]
    refine ⟨w6.heap.size, v7, hdsk.mono (fun x hx => ⟨hx.1.imp id (fun h => by omega), hx.2⟩), Nat.le_trans h6s hle, hbk10, hown10, hg7, hTall⟩
  have Hfin := Lib.hid hfin
  clear hfin hT79 he9 hcell9 hT10 hTall hT710 hdsk h6s h6s' hown10 hbk10 hle hS9 hbk9 hT9 hst9 hS8 hbk8 hT8 hst8 hsh hbk7 hS7 hT7 hown7 hb7 hg7 hS hT6d hcell hn1 hq hb hsm hst hF hbF hN hblt hd h4 hbk hbk2 ct ce hs0 hT6 q4 q5 hpe
  go_wp2
  refine leaves_cons (f := 39) (args := #[.pointer (some ⟨w.heap.size, 0, none⟩), .pointer (some ⟨w.heap.size + 1, 0, none⟩)]) (by simp) (enters_plain Try.func39 rfl rfl _ _) ?_
  refine (catch_idle ⟨w.heap.size, 0, none⟩ ⟨w.heap.size + 1, 0, none⟩ _).mono ?_
  rintro e u' w'' ⟨rfl, rfl, rfl⟩
  exact ⟨_, results_cell1 rfl _ _ ⟨w.heap.size + 1, 0, none⟩ (.int .i64 0) rfl (run_load1 Try.underlying30 rfl ce10), Hfin.out⟩

theorem putE_no {d : DM} (hno : ∀ k, d.fails k = none) (N : Nat) (l : List UInt8) : putE d N l = (putD d N l, false) := by
  have hA : ∀ k, (putA d N l).fails k = none := hno
  have hB : ∀ k, ((putA d N l).flush.1).fails k = none := by rw [flush_fails]; exact hA
  have hC : ∀ k, (putC d N l).fails k = none := hB
  unfold putE
  rw [nofail hno, nofail hA, nofail hB, nofail hC]
  rfl
theorem put_ok {w : World} {F : Nat → Prop} {a b N : Nat} {d : DM} {v : Value} (hd : Disk w F a d) (hF : ∀ x, F x → x < w.heap.size) (hbF : ¬ F b) (h4 : 4 ≤ d.size) (hbk : BookAt w b (N : Int) v false (some ⟨a, 0, none⟩)) (hN : N < 4611686018427387904)
    (a1 : Option Addr) (n1 c1 : Nat) (l : List UInt8) (hrd : RdB w (.slice a1 n1 c1) l) (hoff : OffF F (.slice a1 n1 c1)) (hsm : n1 ≤ hf d * 512) (hst : d.steps < 1073741000) (hno : ∀ k, d.fails k = none) :
    Calls Try.prog 18 #[.pointer (some ⟨b, 0, none⟩), .slice a1 n1 c1] w fun e w' => e = .returned (.int .i64 0) ∧ ∃ B v', Disk w' (fun x => (F x ∨ w.heap.size ≤ x) ∧ x < B) a (putD d N l) ∧ B ≤ w'.heap.size ∧
      BookAt w' b ((N + 1 : Nat) : Int) v' false (some ⟨a, 0, none⟩) ∧ OwnB w' v' l ∧ (∀ g, v'.ownBlock = some g → B ≤ g) ∧ Touch (fun x => F x ∨ x = b) w w' := by
  refine (put_any hd hF hbF h4 hbk hN a1 n1 c1 l hrd hoff hsm hst).mono ?_
  rintro e w' h
  unfold PutEnd at h
  rw [putE_no hno] at h
  rcases h with ⟨rfl, _, h⟩ | ⟨_, h, _⟩
  · exact ⟨rfl, h⟩
  · cases h
end Go.Proofs.Ytfpmdagchbbkcaa
