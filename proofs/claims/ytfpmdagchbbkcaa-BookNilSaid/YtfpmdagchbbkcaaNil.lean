/- BookNil: the walk. -/
import Derived.Test.YtfpmdagchbbkcaaKnown
import Derived.Test.YtfpmdagchbbkcaaStrb
namespace Go.Proofs.Ytfpmdagchbbkcaa
open Go.RowKit

set_option maxRecDepth 100000 in
set_option maxHeartbeats 1000000 in
theorem nothing_any {w : World} {p : Option Addr} (h : NoBook w p) (s : ByteArray) (hs : s.size ≤ 140737488351232) :
    Calls Try.prog 19 #[.pointer p, .string s] w fun e w' => e = .returned (.bool true) ∧ Below w.heap.size w w' := by
  have Hst := Lib.hid (state_no h)
  obtain ⟨c, W', hcv, hB, hrd⟩ := run_cvs w s hs
  have Hput := Lib.hid (put_no (h.below hB) (.slice (some ⟨w.heap.size, 0, none⟩) s.size c))
  have Hn := Lib.hid (h.below hB)
  have HB := Lib.hid hB
  clear h hs hB hrd
  go_enter Try.func19, Try.ntmps19
  go_wp2_with (first
    | (go_at_call 22; refine Hst.out.mono ?_; rintro e w' ⟨rfl, rfl⟩)
    | (go_at_call 18; refine Hput.out.mono ?_; rintro e w2 ⟨rfl, hb2⟩; have Hby := Lib.hid (bytes_no (Hn.out.below hb2)); have Hdk := Lib.hid (disk_no (Hn.out.below hb2)); have HB2 := Lib.hid (HB.out.trans (hb2.mono HB.out.size)); clear hb2)
    | (go_at_call 17; refine Hby.out.mono ?_; rintro e w' ⟨rfl, rfl⟩)
    | (go_at_call 23; refine Hdk.out.mono ?_; rintro e w' ⟨rfl, rfl⟩))
  go_ret
  exact ⟨rfl, HB2.out⟩

theorem Look_nil (w : World) : Calls Try.prog 15 #[.pointer none] w fun e w' => e = .returned (.tuple #[.slice none 0 0, .int .i64 0, .int .i64 1]) ∧ Below w.heap.size w w' := by
  refine (Look_gen none w (fun n v c w' => n = 0 ∧ v = .slice none 0 0 ∧ c = 1 ∧ Below w.heap.size w w') (looks_of_code (look_nil w)) (fun n v c w1 w2 h g => ⟨h.1, h.2.1, h.2.2.1, h.2.2.2.trans (g.mono h.2.2.2.size)⟩)).mono ?_
  rintro e w' ⟨n, v, c, rfl, rfl, rfl, rfl, hb⟩
  exact ⟨rfl, hb⟩
theorem Open_nil (w : World) : Calls Try.prog 16 #[.pointer none] w fun e w' => e = .returned (.tuple #[.pointer none, .int .i64 1]) ∧ Below w.heap.size w w' := by
  refine (Open_gen none w (fun n v c w' => n = 0 ∧ v = .slice none 0 0 ∧ c = 1 ∧ Below w.heap.size w w') (looks_of_code (look_nil w)) (fun n v c w1 w2 h g => ⟨h.1, h.2.1, h.2.2.1, h.2.2.2.trans (g.mono h.2.2.2.size)⟩)).mono ?_
  rintro e w' ⟨n, v, c, ⟨rfl, rfl, rfl, hb⟩, h⟩
  rcases h with ⟨_, rfl⟩ | ⟨h, _⟩
  · exact ⟨rfl, hb⟩
  · cases h

set_option maxRecDepth 100000 in
set_option maxHeartbeats 2000000 in
theorem book_nil (s : ByteArray) (w : World) :
    Calls Try.prog 4 #[.string s] w fun e w' => e = .returned (.bool true) ∧ Below w.heap.size w w' := by
  have Hk := Lib.hid known_any
  by_cases hs : s.size > 3000
  · have h1 : decide ((s.size : Int) > 3000) = true := by simp; omega
    clear hs
    go_enter Try.func4, Try.ntmps4
    go_wp2_with (go_at_call 8; refine (Hk.out _).mono ?_; rintro e w1 ⟨rfl, hb⟩; have HB := Lib.hid hb; clear hb)
    go_ret
    exact ⟨rfl, HB.out⟩
  · have h1 : decide ((s.size : Int) > 3000) = false := by simp; omega
    have h2 : s.size ≤ 3000 := by omega
    have Hs := Lib.hid (And.intro h2 (Nat.le_trans h2 (by omega : 3000 ≤ 140737488351232)))
    have HL := Lib.hid (Look_nil w)
    clear hs h2
    go_enter Try.func4, Try.ntmps4
    go_wp2_with (first
      | (go_at_call 15; refine HL.out.mono ?_; rintro e w1 ⟨rfl, hb1⟩; have HB1 := Lib.hid hb1; have HO := Lib.hid (Open_nil w1); clear hb1 HL)
      | (go_at_call 16; refine HO.out.mono ?_; rintro e w2 ⟨rfl, hb2⟩; have HB2 := Lib.hid (HB1.out.trans (hb2.mono HB1.out.size)); have HN := Lib.hid (nothing_any (w := w2) (p := none) (.inl rfl) s Hs.out.2); clear hb2 HO HB1)
      | (go_at_call 19; refine HN.out.mono ?_; rintro e w3 ⟨rfl, hb3⟩
         have HB3 := Lib.hid (HB2.out.trans (hb3.mono HB2.out.size))
         have HB4 : Hid (Below w.heap.size w (w3.alloc (.cells #[.int .i64 0, .slice none 0 0, .bool false, .pointer none] 52))) := Lib.hid (HB3.out.alloc HB3.out.size _)
         have HN2 := Lib.hid (nothing_any (w := w3.alloc (.cells #[.int .i64 0, .slice none 0 0, .bool false, .pointer none] 52)) (p := some ⟨w3.heap.size, 0, none⟩) (.inr ⟨w3.heap.size, _, _, _, rfl, heap_alloc_new _ _⟩) s Hs.out.2)
         clear hb3 HN HB2)
      | (go_at_call 19; refine HN2.out.mono ?_; rintro e w4 ⟨rfl, hb4⟩; have HB5 := Lib.hid (HB4.out.trans (hb4.mono HB4.out.size)); clear hb4 HN2)
      | (go_at_call 8; refine (Hk.out _).mono ?_; rintro e w5 ⟨rfl, hb5⟩; have HB6 := Lib.hid (HB5.out.trans (hb5.mono HB5.out.size)); clear hb5))
    go_ret
    exact ⟨rfl, HB6.out⟩
end Go.Proofs.Ytfpmdagchbbkcaa
