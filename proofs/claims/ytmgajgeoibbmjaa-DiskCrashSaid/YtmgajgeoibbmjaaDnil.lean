/- A disk that is not there. -/
import Derived.Test.YtmgajgeoibbmjaaCrash
import Derived.Test.YtmgajgeoibbmjaaFail
namespace Go.Proofs.Ytmgajgeoibbmjaa
open Go.RowKit

def NoD (w : World) (p : Option Addr) : Prop := p = none ∨ ∃ b, p = some ⟨b, 0, none⟩ ∧ w.cell? ⟨b, 0, none⟩ = some (.int .i64 0)
theorem NoD.below {w w' : World} {p : Option Addr} (h : NoD w p) (g : Below w.heap.size w w') : NoD w' p := by
  rcases h with h | ⟨b, h, hc⟩
  · exact .inl h
  · exact .inr ⟨b, h, belowCell g (ltOf hc) hc⟩
theorem nod_none {w : World} {p : Option Addr} (h : NoD w p) : Calls Try.prog 28 #[.pointer p] w fun e w' => e = .returned (.bool true) ∧ w = w' := by
  rcases h with rfl | ⟨b, rfl, hc⟩
  · exact none_nil w
  · exact none_at w b 0 true hc rfl
theorem read_none {w : World} {p : Option Addr} (h : NoD w p) (v1 v2 : Value) : Calls Try.prog 12 #[.pointer p, v1, v2] w fun e w' => e = .returned (.tuple #[.slice none 0 0, .int .i64 1]) ∧ w = w' := by
  have Hn := Lib.hid (nod_none h)
  clear h
  go_enter Try.func12, Try.ntmps12
  go_wp2_with (go_at_call 28; refine Hn.out.mono ?_; rintro e w' ⟨rfl, rfl⟩)
  go_ret2
  exact ⟨rfl, rfl⟩
theorem crash_none {w : World} {p : Option Addr} (h : NoD w p) (q : Option Addr) (n c : Nat) : Calls Try.prog 11 #[.pointer p, .slice q n c] w fun e w' => e = .returned (.tuple #[.pointer none, .int .i64 1]) ∧ Below w.heap.size w w' := by
  have hb : Below w.heap.size w (w.alloc (.cells #[.slice q n c] 31)) := (Below.refl _ _).alloc (Nat.le_refl _) _
  have Hn := Lib.hid (nod_none (h.below hb))
  have Hb := Lib.hid hb
  clear h hb
  go_enter Try.func11, Try.ntmps11
  go_wp2_with (go_at_call 28; refine Hn.out.mono ?_; rintro e w' ⟨rfl, rfl⟩)
  go_ret2
  exact ⟨rfl, Hb.out⟩
theorem write_none {w : World} {p : Option Addr} (h : NoD w p) (v1 v2 : Value) : Calls Try.prog 16 #[.pointer p, v1, v2] w fun e w' => e = .returned (.int .i64 1) ∧ Below w.heap.size w w' := by
  have hb : Below w.heap.size w (w.alloc (.cells #[.pointer p] 25)) := (Below.refl _ _).alloc (Nat.le_refl _) _
  have Hn := Lib.hid (nod_none (h.below hb))
  have Hb := Lib.hid hb
  clear h hb
  go_enter Try.func16, Try.ntmps16
  go_wp2_with (go_at_call 28; refine Hn.out.mono ?_; rintro e w' ⟨rfl, rfl⟩)
  go_ret
  exact ⟨rfl, Hb.out⟩
theorem flush_none {w : World} {p : Option Addr} (h : NoD w p) : Calls Try.prog 19 #[.pointer p] w fun e w' => e = .returned (.int .i64 1) ∧ w = w' := by
  have Hn := Lib.hid (nod_none h)
  clear h
  go_enter Try.func19, Try.ntmps19
  go_wp2_with (go_at_call 28; refine Hn.out.mono ?_; rintro e w' ⟨rfl, rfl⟩)
  go_ret
  exact ⟨rfl, rfl⟩
theorem fail_none {w : World} {p : Option Addr} (h : NoD w p) (v : Value) : Calls Try.prog 20 #[.pointer p, v] w fun e w' => e = .returned (.int .i64 1) ∧ w = w' := by
  have Hn := Lib.hid (nod_none h)
  clear h
  go_enter Try.func20, Try.ntmps20
  go_wp2_with (go_at_call 28; refine Hn.out.mono ?_; rintro e w' ⟨rfl, rfl⟩)
  go_ret
  exact ⟨rfl, rfl⟩
theorem size_none {w : World} {p : Option Addr} (h : NoD w p) : Calls Try.prog 41 #[.pointer p] w fun e w' => e = .returned (.int .i64 0) ∧ w = w' := by
  have Hn := Lib.hid (nod_none h)
  clear h
  go_enter Try.func41, Try.ntmps41
  go_wp2_with (go_at_call 28; refine Hn.out.mono ?_; rintro e w' ⟨rfl, rfl⟩)
  go_ret
  exact ⟨rfl, rfl⟩
theorem steps_none {w : World} {p : Option Addr} (h : NoD w p) : Calls Try.prog 21 #[.pointer p] w fun e w' => e = .returned (.int .i64 0) ∧ w = w' := by
  have Hn := Lib.hid (nod_none h)
  clear h
  go_enter Try.func21, Try.ntmps21
  go_wp2_with (go_at_call 28; refine Hn.out.mono ?_; rintro e w' ⟨rfl, rfl⟩)
  go_ret
  exact ⟨rfl, rfl⟩
theorem pending_none {w : World} {p : Option Addr} (h : NoD w p) : Calls Try.prog 22 #[.pointer p] w fun e w' => e = .returned (.int .i64 0) ∧ w = w' := by
  have Hn := Lib.hid (nod_none h)
  clear h
  go_enter Try.func22, Try.ntmps22
  go_wp2_with (go_at_call 28; refine Hn.out.mono ?_; rintro e w' ⟨rfl, rfl⟩)
  go_ret
  exact ⟨rfl, rfl⟩
theorem copy_none {w : World} {p : Option Addr} (h : NoD w p) : Calls Try.prog 42 #[.pointer p] w fun e w' => e = .returned (.pointer none) ∧ w = w' := by
  have Hn := Lib.hid (nod_none h)
  clear h
  go_enter Try.func42, Try.ntmps42
  go_wp2_with (go_at_call 28; refine Hn.out.mono ?_; rintro e w' ⟨rfl, rfl⟩)
  go_ret
  exact ⟨rfl, rfl⟩
/-- Same, where one of two is not there. -/
theorem same_nn {w : World} {p q : Option Addr} (hp : NoD w p) (hq : NoD w q) : Calls Try.prog 13 #[.pointer p, .pointer q] w fun e w' => e = .returned (.bool true) ∧ w = w' := by
  have Hp := Lib.hid (nod_none hp)
  have Hq := Lib.hid (nod_none hq)
  clear hp hq
  go_enter Try.func13, Try.ntmps13
  go_wp2_with (first
    | (go_at_call 28; ((with_reducible refine Hp.out.mono ?_); rintro e w' ⟨rfl, rfl⟩))
    | (go_at_call 28; ((with_reducible refine Hq.out.mono ?_); rintro e w' ⟨rfl, rfl⟩)))
  go_ret
  exact ⟨rfl, rfl⟩
theorem same_nd {w : World} {F : Nat → Prop} {a : Nat} {d : DM} {p : Option Addr} (hp : NoD w p) (hd : Disk w F a d) : Calls Try.prog 13 #[.pointer p, .pointer (some ⟨a, 0, none⟩)] w fun e w' => e = .returned (.bool false) ∧ w = w' := by
  have Hp := Lib.hid (nod_none hp)
  have Hq := Lib.hid (none_disk hd)
  clear hp hd
  go_enter Try.func13, Try.ntmps13
  go_wp2_with (first
    | (go_at_call 28; ((with_reducible refine Hp.out.mono ?_); rintro e w' ⟨rfl, rfl⟩))
    | (go_at_call 28; ((with_reducible refine Hq.out.mono ?_); rintro e w' ⟨rfl, rfl⟩)))
  go_ret
  exact ⟨rfl, rfl⟩
theorem same_dn {w : World} {F : Nat → Prop} {a : Nat} {d : DM} {p : Option Addr} (hd : Disk w F a d) (hp : NoD w p) : Calls Try.prog 13 #[.pointer (some ⟨a, 0, none⟩), .pointer p] w fun e w' => e = .returned (.bool false) ∧ w = w' := by
  have Hp := Lib.hid (nod_none hp)
  have Hq := Lib.hid (none_disk hd)
  clear hp hd
  go_enter Try.func13, Try.ntmps13
  go_wp2_with (first
    | (go_at_call 28; ((with_reducible refine Hp.out.mono ?_); rintro e w' ⟨rfl, rfl⟩))
    | (go_at_call 28; ((with_reducible refine Hq.out.mono ?_); rintro e w' ⟨rfl, rfl⟩)))
  go_ret
  exact ⟨rfl, rfl⟩

set_option maxRecDepth 100000 in
set_option maxHeartbeats 2000000 in
/-- The law's nothing. -/
theorem nothing_any {w : World} {p : Option Addr} (hp : NoD w p) (kd at_ num : Int) (vb : Value) (q : Option Addr) (m c : Nat) (q2 : Option Addr) (m2 c2 : Nat) (hvb : vb = .slice q2 m2 c2) :
    Calls Try.prog 15 #[.pointer p, .agg #[.int .i64 kd, .int .i64 at_, .int .i64 num, vb, .slice q m c]] w fun e w' => e = .returned (.bool true) ∧ Below w.heap.size w w' := by
  subst hvb
  have hb : Below w.heap.size w (w.alloc (.cells #[.int .i64 kd, .int .i64 at_, .int .i64 num, .slice q2 m2 c2, .slice q m c] 37)) := (Below.refl _ _).alloc (Nat.le_refl _) _
  have hc : (w.alloc (.cells #[.int .i64 kd, .int .i64 at_, .int .i64 num, .slice q2 m2 c2, .slice q m c] 37)).heap[w.heap.size]? = some (.cells #[.int .i64 kd, .int .i64 at_, .int .i64 num, .slice q2 m2 c2, .slice q m c] 37 (0, 0)) := heap_alloc_new _ _
  have hp1 := hp.below hb
  have HB := Lib.hid (And.intro hb (And.intro hc hp1))
  have HR := Lib.hid (read_none hp1 (.int .i64 at_) (.int .i64 num))
  have HC := Lib.hid (crash_none hp1 q m c)
  clear hb hc hp hp1
  go_enter Try.func15, Try.ntmps15
  go_wp2_with (first
    | (go_at_call 12; refine HR.out.mono ?_; rintro e w' ⟨rfl, rfl⟩)
    | (go_at_call 11; refine HC.out.mono ?_; rintro e w2 ⟨rfl, hb2⟩
       obtain ⟨hb, hc, hp1⟩ := HB.out
       have hp2 := hp1.below hb2
       have hc2 := belowBlk hb2 (Array.getElem?_eq_some_iff.1 hc).1 hc
       have k1 := cellOf (o := 1) hc2 rfl
       have k3 := cellOf (o := 3) hc2 rfl
       have HW := Lib.hid (write_none hp2 (.int .i64 at_) (.slice q2 m2 c2))
       have H2 := Lib.hid (And.intro (hb.trans (hb2.mono hb.size)) (And.intro hc2 hp2))
       clear hb hc hp1 hb2 hp2 hc2 HC HB)
    | (go_at_call 16; refine HW.out.mono ?_; rintro e w3 ⟨rfl, hb3⟩
       obtain ⟨hb, hc, hp2⟩ := H2.out
       have hp3 := hp2.below hb3
       have hc3 := belowBlk hb3 (Array.getElem?_eq_some_iff.1 hc).1 hc
       have k4 := cellOf (o := 4) hc3 rfl
       have HF := Lib.hid (flush_none hp3)
       have HFa := Lib.hid (fail_none hp3 (.slice q m c))
       have HSz := Lib.hid (size_none hp3)
       have HSt := Lib.hid (steps_none hp3)
       have HPn := Lib.hid (pending_none hp3)
       have HCp := Lib.hid (copy_none hp3)
       have H3 := Lib.hid (hb.trans (hb3.mono hb.size))
       clear hb hc hp2 hb3 hp3 hc3 HW k1 k3)
    | (go_at_call 19; refine HF.out.mono ?_; rintro e w' ⟨rfl, rfl⟩)
    | (go_at_call 20; refine HFa.out.mono ?_; rintro e w' ⟨rfl, rfl⟩)
    | (go_at_call 41; refine HSz.out.mono ?_; rintro e w' ⟨rfl, rfl⟩)
    | (go_at_call 21; refine HSt.out.mono ?_; rintro e w' ⟨rfl, rfl⟩)
    | (go_at_call 22; refine HPn.out.mono ?_; rintro e w' ⟨rfl, rfl⟩)
    | (go_at_call 42; refine HCp.out.mono ?_; rintro e w' ⟨rfl, rfl⟩))
  go_ret
  exact ⟨rfl, H3.out⟩
end Go.Proofs.Ytmgajgeoibbmjaa
