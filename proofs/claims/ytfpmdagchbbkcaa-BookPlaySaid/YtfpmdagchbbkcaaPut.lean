/- The book: Put. -/
import Derived.Test.YtfpmdagchbbkcaaOpen
import Derived.Recover
namespace Go.Proofs.Ytfpmdagchbbkcaa
open Go.RowKit

/-- The deferred closure, in a frame that returns: it turns nothing. -/
theorem catch_idle (p q : Addr) (w : World) :
    CallsD Try.prog 39 #[.pointer (some p), .pointer (some q)] .returning w fun e u' w' => e = .returned (.tuple #[]) ∧ u' = .returning ∧ w' = w := by
  have hnil : ∀ w : World, (binOp BinOp.eql 20 .nilIface .nilIface).run Try.prog w = .ok (.bool true) w := fun _ => by kernel_rfl
  refine callsD_of_wpS Try.func39 rfl fun c₀ cs hu => ?_
  apply wpS_seq
  apply wpS_region
  simp [wpOpsS, go_sem, recoverD, hu, Try.ntmps39, Exit.thenS]
  have e : (#[.pointer (some p), .pointer (some q)] ++ (Array.replicate 15 undef).setIfInBounds 3 Value.nilIface : Array Value) = #[.pointer (some p), .pointer (some q), undef, undef, undef, .nilIface, undef, undef, undef, undef, undef, undef, undef, undef, undef, undef, undef] := rfl
  rw [e]
  clear e
  refine wpS_of_wp ?_
  have HU := Lib.hid hu
  clear hu
  go_wp2
  refine ⟨rfl, .returning, ?_, _, results_none rfl _ _ _, rfl, rfl, rfl⟩
  have hu := HU.out
  cases c₀
  simp_all

theorem results_cell1 {P : Program} {fn : Func} {p : Tmp} {ty : TypeId} (h : fn.results = #[.cell p ty]) (tmps : Array Value) (w : World) (ad : Addr) (v : Value)
    (hp : tmps.getD p undef = .pointer (some ad)) (hl : (loadVar ty ad).run P w = .ok v w) : (results fn tmps).run P w = .ok v w := by
  have hp' : tmps[p]?.getD undef = .pointer (some ad) := by simpa using hp
  simp [results, h, hp', asAddr, hl]

set_option maxRecDepth 100000 in
set_option maxHeartbeats 1000000 in
theorem put_no {w : World} {p : Option Addr} (h : NoBook w p) (vb : Value) :
    Calls Try.prog 18 #[.pointer p, vb] w fun e w' => e = .returned (.int .i64 1) ∧ Below w.heap.size w w' := by
  have hb : Below w.heap.size w ((w.alloc (.cells #[.pointer p] 42)).alloc (.cells #[.int .i64 0] 30)) := ((Below.refl _ _).alloc (Nat.le_refl _) _).alloc (by simp) _
  have Hn := Lib.hid (bnone_no (h.below hb))
  have Hb := Lib.hid hb
  clear h hb
  go_enter Try.func18, Try.ntmps18
  go_wp2_with (go_at_call 36; refine Hn.out.mono ?_; rintro e w' ⟨rfl, rfl⟩)
  refine bodyPost_ret (results_cell1 rfl _ _ ⟨w.heap.size + 1, 0, none⟩ (.int .i64 1) rfl (run_load1 Try.underlying30 rfl (by simp [go_sem]))) rfl ⟨rfl, ?_⟩
  exact ((Below.refl _ _).alloc (Nat.le_refl _) _).alloc (by simp) _

/-- More bytes than a half holds, or a number past the last. -/
def tooBig (d : DM) (n : Int) (len : Nat) : Bool := decide ((hf d : Int) * 512 < (len : Int)) || decide (4611686018427387904 ≤ n)
set_option maxRecDepth 100000 in
set_option maxHeartbeats 1000000 in
theorem put_big {w : World} {F : Nat → Prop} {a b : Nat} {d : DM} {n : Int} {v : Value} (hd : Disk w F a d) (h4 : 4 ≤ d.size) (hbk : BookAt w b n v false (some ⟨a, 0, none⟩)) (a1 : Option Addr) (n1 c1 : Nat) (hbig : tooBig d n n1 = true) :
    Calls Try.prog 18 #[.pointer (some ⟨b, 0, none⟩), .slice a1 n1 c1] w fun e w' => e = .returned (.int .i64 3) ∧ Below w.heap.size w w' := by
  have hb : Below w.heap.size w ((w.alloc (.cells #[.pointer (some ⟨b, 0, none⟩)] 42)).alloc (.cells #[.int .i64 0] 30)) := ((Below.refl _ _).alloc (Nat.le_refl _) _).alloc (by simp) _
  have hbk2 : BookAt ((w.alloc (.cells #[.pointer (some ⟨b, 0, none⟩)] 42)).alloc (.cells #[.int .i64 0] 30)) b n v false (some ⟨a, 0, none⟩) := belowBlk hb (Array.getElem?_eq_some_iff.1 hbk).1 hbk
  have Hn := Lib.hid (bnone_at hbk2)
  have Hh := Lib.hid (half_disk (hd.below hb) h4)
  have k0 := cellOf (o := 0) hbk2 rfl
  have k2 := cellOf (o := 2) hbk2 rfl
  have k3 := cellOf (o := 3) hbk2 rfl
  have hq0 : (hf d : Int) ≤ 65536 := by have := hd.1.most; unfold hf; omega
  have hcases : decide ((hf d : Int) * 512 < (n1 : Int)) = true ∨ (decide ((hf d : Int) * 512 < (n1 : Int)) = false ∧ decide (4611686018427387904 ≤ n) = true) := by
    unfold tooBig at hbig
    cases h : decide ((hf d : Int) * 512 < (n1 : Int)) with
    | true => exact .inl rfl
    | false => rw [h] at hbig; exact .inr ⟨rfl, by simpa using hbig⟩
  clear hbig hbk hbk2 hd h4 hb
  rcases hcases with hc | ⟨hc, hc2⟩
  all_goals
    go_enter Try.func18, Try.ntmps18
    go_wp2_with (first
      | (go_at_call 36; refine Hn.out.mono ?_; rintro e w' ⟨rfl, rfl⟩)
      | (go_at_call 38; refine Hh.out.mono ?_; rintro e w' ⟨rfl, rfl⟩))
    refine bodyPost_ret (results_cell1 rfl _ _ ⟨w.heap.size + 1, 0, none⟩ (.int .i64 3) rfl (run_load1 Try.underlying30 rfl (by simp [go_sem]))) rfl ⟨rfl, ?_⟩
    exact ((Below.refl _ _).alloc (Nat.le_refl _) _).alloc (by simp) _
end Go.Proofs.Ytfpmdagchbbkcaa
