/- The law's own `known`. -/
import Derived.Test.YtfpmdagchbbkcaaLaw
namespace Go.Proofs.Ytfpmdagchbbkcaa
open Go.RowKit

theorem open_none {w : World} {F : Nat → Prop} {a : Nat} {d : DM} (hd : Disk w F a d) (h4 : 4 ≤ d.size) (hl : looked d = none) :
    Calls Try.prog 16 #[.pointer (some ⟨a, 0, none⟩)] w fun e w' => e = .returned (.tuple #[.pointer none, .int .i64 310]) ∧ Below w.heap.size w w' := by
  refine (Open_gen (some ⟨a, 0, none⟩) w (Told w d) (looks_of_disk hd h4) (fun _ _ _ _ _ h g => h.below g)).mono ?_
  rintro e w' ⟨n, v, c, ht, h⟩
  have h2 := ht.2
  rw [hl] at h2
  obtain ⟨rfl, rfl, rfl⟩ := h2
  rcases h with ⟨_, rfl⟩ | ⟨h, _⟩
  · exact ⟨rfl, ht.1⟩
  · cases h
theorem open_some {w : World} {F : Nat → Prop} {a : Nat} {d : DM} {n : Int} {l : List UInt8} (hd : Disk w F a d) (h4 : 4 ≤ d.size) (hl : looked d = some (n, l)) :
    Calls Try.prog 16 #[.pointer (some ⟨a, 0, none⟩)] w fun e w' => ∃ b v, e = .returned (.tuple #[.pointer (some ⟨b, 0, none⟩), .int .i64 0]) ∧ BookAt w' b n v false (some ⟨a, 0, none⟩) ∧ OwnB w' v l ∧ Below w.heap.size w w' ∧ w.heap.size ≤ b ∧ (∀ g, v.ownBlock = some g → w.heap.size ≤ g) := by
  refine (Open_gen (some ⟨a, 0, none⟩) w (Told w d) (looks_of_disk hd h4) (fun _ _ _ _ _ h g => h.below g)).mono ?_
  rintro e w' ⟨n', v, c, ht, h⟩
  have h2 := ht.2
  rw [hl] at h2
  obtain ⟨rfl, rfl, hown, hg⟩ := h2
  rcases h with ⟨h, _⟩ | ⟨_, b, rfl, hbk, w0, ht0, hb0, hle⟩
  · exact absurd rfl h
  · exact ⟨b, v, rfl, hbk, hown, ht.1, Nat.le_trans ht0.1.size hle, hg⟩
theorem Look_some {w : World} {F : Nat → Prop} {a : Nat} {d : DM} {n : Int} {l : List UInt8} (hd : Disk w F a d) (h4 : 4 ≤ d.size) (hl : looked d = some (n, l)) :
    Calls Try.prog 15 #[.pointer (some ⟨a, 0, none⟩)] w fun e w' => ∃ a1 c1, e = .returned (.tuple #[.slice a1 l.length c1, .int .i64 n, .int .i64 0]) ∧ OwnB w' (.slice a1 l.length c1) l ∧ Below w.heap.size w w' := by
  refine (Look_gen (some ⟨a, 0, none⟩) w (Told w d) (looks_of_disk hd h4) (fun _ _ _ _ _ h g => h.below g)).mono ?_
  rintro e w' ⟨n', v, c, rfl, ht⟩
  have h2 := ht.2
  rw [hl] at h2
  obtain ⟨rfl, rfl, hown, hg⟩ := h2
  obtain ⟨a1, c1, rfl⟩ := hown.shape
  exact ⟨a1, c1, rfl, hown, ht.1⟩
theorem Look_none {w : World} {F : Nat → Prop} {a : Nat} {d : DM} (hd : Disk w F a d) (h4 : 4 ≤ d.size) (hl : looked d = none) :
    Calls Try.prog 15 #[.pointer (some ⟨a, 0, none⟩)] w fun e w' => e = .returned (.tuple #[.slice none 0 0, .int .i64 0, .int .i64 310]) ∧ Below w.heap.size w w' := by
  refine (Look_gen (some ⟨a, 0, none⟩) w (Told w d) (looks_of_disk hd h4) (fun _ _ _ _ _ h g => h.below g)).mono ?_
  rintro e w' ⟨n', v, c, rfl, ht⟩
  have h2 := ht.2
  rw [hl] at h2
  obtain ⟨rfl, rfl, rfl⟩ := h2
  exact ⟨rfl, ht.1⟩
theorem format_small {w : World} {F : Nat → Prop} {a : Nat} {d : DM} (hd : Disk w F a d) (h4 : d.size < 4) :
    Calls Try.prog 30 #[.pointer (some ⟨a, 0, none⟩)] w fun e w' => e = .returned (.int .i64 2) ∧ w = w' := by
  have Hk := Lib.hid (asked_small hd h4)
  clear hd h4
  go_enter Try.func30, Try.ntmps30
  go_wp2_with (go_at_call 52; refine Hk.out.mono ?_; rintro e w1 ⟨rfl, rfl⟩)
  go_ret
  exact ⟨rfl, rfl⟩
theorem format_nil (w : World) : Calls Try.prog 30 #[.pointer none] w fun e w' => e = .returned (.int .i64 1) ∧ w = w' := by
  have Hk := Lib.hid (asked_nil w)
  go_enter Try.func30, Try.ntmps30
  go_wp2_with (go_at_call 52; refine Hk.out.mono ?_; rintro e w1 ⟨rfl, rfl⟩)
  go_ret
  exact ⟨rfl, rfl⟩

/-- A book that was just opened, or put to: the disk and the book behind it. -/
structure Live (w0 w : World) (a b : Nat) (d : DM) (n : Int) (l : List UInt8) : Prop where
  ex : ∃ B v, Disk w (fun x => w0.heap.size ≤ x ∧ x < B) a d ∧ B ≤ w.heap.size ∧ BookAt w b n v false (some ⟨a, 0, none⟩) ∧ B ≤ b ∧ OwnB w v l ∧ (∀ g, v.ownBlock = some g → B ≤ g)
  below : Below w0.heap.size w0 w
theorem Live.grow {w0 w w' : World} {a b : Nat} {d : DM} {n : Int} {l : List UInt8} (h : Live w0 w a b d n l) (g : Below w.heap.size w w') : Live w0 w' a b d n l := by
  obtain ⟨⟨B, v, h1, h2, h3, h4, h5, h6⟩, h7⟩ := h
  exact ⟨⟨B, v, h1.below g, Nat.le_trans h2 g.size, belowBlk g (Array.getElem?_eq_some_iff.1 h3).1 h3, h4, h5.below g, h6⟩, h7.trans (g.mono h7.size)⟩
theorem Live.opened {w0 w w' : World} {a b : Nat} {d : DM} {n : Int} {l : List UInt8} {v : Value} (hd : Disk w (fun x => w0.heap.size ≤ x ∧ x < w.heap.size) a d) (hb : Below w0.heap.size w0 w) (hbk : BookAt w' b n v false (some ⟨a, 0, none⟩)) (hown : OwnB w' v l) (hw : Below w.heap.size w w') (hle : w.heap.size ≤ b) (hg : ∀ g, v.ownBlock = some g → w.heap.size ≤ g) :
    Live w0 w' a b d n l := ⟨⟨w.heap.size, v, hd.below hw, hw.size, hbk, hle, hown, hg⟩, hb.trans (hw.mono hb.size)⟩
theorem Live.disk {w0 w : World} {a b : Nat} {d : DM} {n : Int} {l : List UInt8} (h : Live w0 w a b d n l) : ∃ F, Disk w F a d := by
  obtain ⟨⟨B, v, h1, _⟩, _⟩ := h; exact ⟨_, h1⟩
/-- Put, where nothing fails, on a live book. -/
theorem put_live {w0 w : World} {a b N : Nat} {d : DM} {l0 : List UInt8} (h : Live w0 w a b d (N : Int) l0) (hb0 : w0.heap.size ≤ b) (h4 : 4 ≤ d.size) (hN : N < 4611686018427387904) (a1 : Option Addr) (n1 c1 : Nat) (l : List UInt8) (hrd : RdB w (.slice a1 n1 c1) l)
    (hfree : ∀ g, (Value.slice a1 n1 c1).ownBlock = some g → b ≤ g) (hsm : n1 ≤ hf d * 512) (hst : d.steps < 1073741000) (hno : ∀ k, d.fails k = none) :
    Calls Try.prog 18 #[.pointer (some ⟨b, 0, none⟩), .slice a1 n1 c1] w fun e w' => e = .returned (.int .i64 0) ∧ ∃ B v', Disk w' (fun x => w0.heap.size ≤ x ∧ x < B) a (putD d N l) ∧ B ≤ w'.heap.size ∧
      BookAt w' b ((N + 1 : Nat) : Int) v' false (some ⟨a, 0, none⟩) ∧ OwnB w' v' l ∧ (∀ g, v'.ownBlock = some g → B ≤ g) ∧ Below w0.heap.size w0 w' := by
  obtain ⟨⟨B, v, h1, h2, h3, hBb, h5, h6⟩, h7⟩ := h
  refine (put_ok h1 (fun x hx => by omega) (by omega) h4 h3 hN a1 n1 c1 l hrd (fun g hg hx => by have := hfree g hg; omega) hsm hst hno).mono ?_
  rintro e w' ⟨rfl, B', v', k1, k2, k3, k4, k5, k6⟩
  have hs := h7.size
  exact ⟨rfl, B', v', k1.mono (fun x hx => by omega), k2, k3, k4, k5, k6.below h7 (fun x hx hh => by omega) h7.size⟩

theorem format_zero {w : World} {F : Nat → Prop} {a : Nat} {d : DM} (hd : Disk w F a d) (h4 : 4 ≤ d.size) (hst : d.steps < 1073741822) (hno : ∀ k, d.fails k = none) :
    Calls Try.prog 30 #[.pointer (some ⟨a, 0, none⟩)] w fun e w' => e = .returned (.int .i64 0) ∧ Then w w' F w'.heap.size a d.format.1 := by
  refine (format_ok hd h4 hst).mono ?_
  rintro e w' ⟨rfl, h⟩
  exact ⟨by rw [format_code hno], h⟩
theorem rd_alloc (w : World) (l : List UInt8) (hl : l.length ≤ 1000) : RdB (w.alloc (.cells (bcells l).toArray 5)) (.slice (some ⟨w.heap.size, 0, none⟩) l.length l.length) l :=
  OwnB.rd (ownsRow_of_heap (heap_alloc_new _ _) (Nat.le_refl _) (by unfold maxLen; omega) (by simp [bcells_length]) (by rw [Nat.mul_one]; show (bcells l).take l.length = bcells l; exact List.take_of_length_le (by rw [bcells_length]; exact Nat.le_refl _)) (by rw [bcells_length, Nat.mul_one]))

def kd1 : DM := (DM.new 6).format.1
def kd2 : DM := putD kd1 1 [97, 98, 99]
theorem new_no (n : Nat) : ∀ k, (DM.new n).fails k = none := fun _ => rfl
theorem kd1_no : ∀ k, kd1.fails k = none := fun k => by unfold kd1; rw [format_fails (new_no 6)]; rfl
theorem kd1_size : kd1.size = 6 := format_size (new_no 6)
theorem kd1_steps : kd1.steps = 2 := format_steps (new_no 6)
theorem kd1_hf : hf kd1 = 2 := by unfold hf; rw [kd1_size]
theorem kd1_looked : looked kd1 = some (1, []) := looked_format (new_no 6) (by show 6 ≤ 65536; omega)
theorem kd2_looked : looked kd2 = some (2, [97, 98, 99]) := looked_put (by rw [kd1_size]; omega) (by rw [kd1_size]; omega) kd1_no 1 (by omega) (by unfold kd1; rw [best_format (new_no 6) (by show 6 ≤ 65536; omega)]; rfl) [97, 98, 99] (by rw [kd1_hf]; simp)
theorem kd2_size : kd2.size = 6 := (put_size 1 _).trans kd1_size
theorem kd2_hf : hf kd2 = 2 := by unfold hf; rw [kd2_size]

/-- A byte slice that was built of elements, converted to its own type: the block is marked. -/
theorem run_cvb (w : World) (l : List UInt8) (hl : l.length ≤ 1000) : ∃ W', (convert 34 34 (.slice (some ⟨w.heap.size, 0, none⟩) l.length l.length)).run Try.prog (w.alloc (.cells (bcells l).toArray 5)) = .ok (.slice (some ⟨w.heap.size, 0, none⟩) l.length l.length) W' ∧
    Below w.heap.size w W' ∧ RdB W' (.slice (some ⟨w.heap.size, 0, none⟩) l.length l.length) l := by
  have hN : (w.alloc (.cells (bcells l).toArray 5)).heap[w.heap.size]? = some (.cells (bcells l).toArray 5 (0, 0)) := heap_alloc_new _ _
  have hB : Below w.heap.size w (w.alloc (.cells (bcells l).toArray 5)) := (Below.refl _ _).alloc (Nat.le_refl _) _
  have hlt : w.heap.size < (w.alloc (.cells (bcells l).toArray 5)).heap.size := (Array.getElem?_eq_some_iff.1 hN).1
  have hsh : (w.alloc (.cells (bcells l).toArray 5)).shape? w.heap.size = some (5, l.length) := by
    simp only [World.shape?, hN]
    simp [bcells_length]
  generalize w.alloc (.cells (bcells l).toArray 5) = W1 at *
  refine ⟨W1.freeze ⟨w.heap.size, l.length, none⟩ 1, ?_, ?_, ?_⟩
  · simp [convert, run_underlying Try.underlying34, run_underlying Try.underlying5, markStringish, hsh, Sem.run_bind, Result.andThen]
  · refine ⟨hB.os, hB.tape, hB.output, by unfold World.freeze; simpa using hB.size, fun k hk => ?_⟩
    rw [← hB.block k hk]
    unfold World.freeze
    simp only [Nat.one_ne_zero, if_false, Array.getElem?_modify]
    rw [if_neg (by omega)]
  · have hF : (W1.freeze ⟨w.heap.size, l.length, none⟩ 1).heap[w.heap.size]? = some (.cells (bcells l).toArray 5 (l.length, l.length + 1)) := by
      unfold World.freeze
      simp only [Nat.one_ne_zero, if_false, Array.getElem?_modify, if_pos, hN, Option.map_some]
      rfl
    refine ⟨some ⟨w.heap.size, 0, none⟩, l.length, rfl, ⟨Nat.le_refl _, by unfold maxLen; omega, fun h => by cases h⟩, fun ad had => ?_⟩
    cases had
    refine ⟨rfl, fun i b hi => ?_⟩
    refine cellOf hF ?_
    simp [bcells, hi]
/-- What a put leaves. -/
structure Behind (w0 w : World) (a b : Nat) (d : DM) (n : Int) (l : List UInt8) : Prop where
  ex : ∃ B v, Disk w (fun x => w0.heap.size ≤ x ∧ x < B) a d ∧ B ≤ w.heap.size ∧ BookAt w b n v false (some ⟨a, 0, none⟩) ∧ OwnB w v l ∧ (∀ g, v.ownBlock = some g → B ≤ g)
  below : Below w0.heap.size w0 w
theorem Behind.grow {w0 w w' : World} {a b : Nat} {d : DM} {n : Int} {l : List UInt8} (h : Behind w0 w a b d n l) (g : Below w.heap.size w w') : Behind w0 w' a b d n l := by
  obtain ⟨⟨B, v, h1, h2, h3, h5, h6⟩, h7⟩ := h
  exact ⟨⟨B, v, h1.below g, Nat.le_trans h2 g.size, belowBlk g (Array.getElem?_eq_some_iff.1 h3).1 h3, h5.below g, h6⟩, h7.trans (g.mono h7.size)⟩
theorem known_put {w w5 : World} {a b : Nat} (h : Live w w5 a b kd1 1 []) (hb0 : w.heap.size ≤ b) :
    ∃ W', (convert 34 34 (.slice (some ⟨w5.heap.size, 0, none⟩) 3 3)).run Try.prog (w5.alloc (.cells #[.int .u8 97, .int .u8 98, .int .u8 99] 5)) = .ok (.slice (some ⟨w5.heap.size, 0, none⟩) 3 3) W' ∧
    Calls Try.prog 18 #[.pointer (some ⟨b, 0, none⟩), .slice (some ⟨w5.heap.size, 0, none⟩) 3 3] W' fun e w' => e = .returned (.int .i64 0) ∧ Behind w w' a b kd2 2 [97, 98, 99] := by
  have hblt : b < w5.heap.size := by
    obtain ⟨⟨B, v, _, _, h3, _⟩, _⟩ := h; exact (Array.getElem?_eq_some_iff.1 h3).1
  obtain ⟨W', hcv, hB, hrd⟩ := run_cvb w5 [97, 98, 99] (by simp)
  refine ⟨W', hcv, (put_live (N := 1) (h.grow hB) hb0 (by rw [kd1_size]; omega) (by omega) (some ⟨w5.heap.size, 0, none⟩) 3 3 [97, 98, 99] hrd (fun g hg => by simp only [Value.ownBlock, Option.some.injEq] at hg; omega) (by rw [kd1_hf]; omega) (by rw [kd1_steps]; omega) kd1_no).mono ?_⟩
  rintro e w' ⟨rfl, B, v', k1, k2, k3, k4, k5, k6⟩
  exact ⟨rfl, ⟨B, v', k1, k2, k3, k4, k5⟩, k6⟩
theorem Behind.big {w0 w : World} {a b : Nat} {d : DM} {n : Int} {l : List UInt8} (h : Behind w0 w a b d n l) (h4 : 4 ≤ d.size) (a1 : Option Addr) (n1 c1 : Nat) (hbig : tooBig d n n1 = true) :
    Calls Try.prog 18 #[.pointer (some ⟨b, 0, none⟩), .slice a1 n1 c1] w fun e w' => e = .returned (.int .i64 3) ∧ Below w.heap.size w w' := by
  obtain ⟨⟨B, v, h1, h2, h3, h5, h6⟩, h7⟩ := h
  exact put_big h1 h4 h3 a1 n1 c1 hbig
theorem Behind.look {w0 w : World} {a b : Nat} {d : DM} {n : Int} {l : List UInt8} (h : Behind w0 w a b d n l) (h4 : 4 ≤ d.size) (hl : looked d = some (n, l)) :
    Calls Try.prog 15 #[.pointer (some ⟨a, 0, none⟩)] w fun e w' => ∃ a1 c1, e = .returned (.tuple #[.slice a1 l.length c1, .int .i64 n, .int .i64 0]) ∧ OwnB w' (.slice a1 l.length c1) l ∧ Below w.heap.size w w' := by
  obtain ⟨⟨B, v, h1, h2, h3, h5, h6⟩, h7⟩ := h
  exact Look_some h1 h4 hl

set_option maxRecDepth 100000 in
set_option maxHeartbeats 4000000 in
theorem known_any (w : World) : Calls Try.prog 8 #[] w fun e w' => e = .returned (.bool true) ∧ Below w.heap.size w w' := by
  have HN := Lib.hid (new_ok 6 (by omega) (by omega) w)
  have habc : ((strB [97, 98, 99]).toList == [97, 98, 99]) = true := by rw [strB_toList]; rfl
  have habc' : ((strB [97, 98, 99]).toList = [97, 98, 99]) = True := eq_true (strB_toList _)
  have HN3 := Lib.hid (fun w => new_ok 3 (by omega) (by omega) w)
  go_enter Try.func8, Try.ntmps8
  go_wp2_with (first
    | (go_at_call 9; refine HN.out.mono ?_; rintro e w1 ⟨rfl, hd1, hb1, _⟩; have HO := Lib.hid (open_none hd1 (by show 4 ≤ 6; omega) (looked_new 6)); have H1 := Lib.hid hd1; have B1 := Lib.hid hb1; clear hd1 hb1 HN)
    | (go_at_call 16; refine HO.out.mono ?_; rintro e w2 ⟨rfl, hb2⟩; have HF := Lib.hid (format_zero (H1.out.below hb2) (by show 4 ≤ 6; omega) (by show 0 < 1073741822; omega) (new_no 6)); have B2 := Lib.hid (B1.out.trans (hb2.mono B1.out.size)); clear hb2 HO)
    | (go_at_call 30; refine HF.out.mono ?_; rintro e w3 ⟨rfl, hth⟩
       have H3 : Hid (Disk w3 (fun x => w.heap.size ≤ x ∧ x < w3.heap.size) (w.heap.size + 4) kd1 ∧ Below w.heap.size w w3) := Lib.hid ⟨hth.disk.mono (fun x hx => ⟨hx.1.elim id (fun h => Nat.le_trans B2.out.size h), hx.2⟩), hth.touch.below B2.out (fun x hx h => by omega) B2.out.size⟩
       have HO2 := Lib.hid (open_some H3.out.1 (by rw [kd1_size]; omega) kd1_looked)
       clear hth HF)
    | (go_at_call 16; refine HO2.out.mono ?_; rintro e w4 ⟨b, v, rfl, hbk, hown, hb4, hle, hg⟩
       have HL : Hid (Live w w4 (w.heap.size + 4) b kd1 1 []) := Lib.hid (Live.opened H3.out.1 H3.out.2 hbk hown hb4 hle hg)
       have HS := Lib.hid (state_at hbk (H3.out.1.below hb4) (by rw [kd1_size]; omega))
       have Hle := Lib.hid (Nat.le_trans H3.out.2.size hle)
       clear hbk hown hb4 hle hg HO2)
    | (go_at_call 22; refine HS.out.mono ?_; rintro e w5 ⟨rfl, hb5⟩; obtain ⟨W', hcv, hput⟩ := known_put (HL.out.grow hb5) Hle.out; have HPut := Lib.hid hput; clear hb5 HS hput; rw [kd1_hf])
    | (go_at_call 18; refine HPut.out.mono ?_; rintro e w6 ⟨rfl, hbe⟩; have HLk := Lib.hid (hbe.look (by rw [kd2_size]; omega) kd2_looked); have HBe := Lib.hid hbe; clear hbe HPut hcv)
    | (go_at_call 15; refine HLk.out.mono ?_; rintro e w7 ⟨a1, c1, rfl, hown7, hb7⟩; obtain ⟨w8, hmk, hz8, hb8⟩ := make_zeros 1025 (by omega) w7; have Hmk := Lib.hid hmk
       have HB8 := Lib.hid ((HBe.out.grow hb7).grow hb8); have Hown8 := Lib.hid (hown7.below hb8)
       have HPb := Lib.hid (HB8.out.big (by rw [kd2_size]; omega) (some ⟨w7.heap.size, 0, none⟩) 1025 1025 (by unfold tooBig; rw [kd2_hf]; rfl))
       clear hown7 hb7 hmk hz8 hb8 HLk HBe)
    | (refine wpList_run rfl (exec_makeSlice rfl rfl rfl Hmk.out) ?_)
    | (go_at_call 18; refine HPb.out.mono ?_; rintro e w9 ⟨rfl, hb9⟩; have HB9 := Lib.hid hb9; clear hb9 HPb)
    | (go_at_call 9; refine (HN3.out _).mono ?_; rintro e w10 ⟨rfl, hd10, hb10, _⟩
       have hstr : (convert 34 9 (.slice a1 3 c1)).run Try.prog w10 = .ok (.string (strB [97, 98, 99])) w10 := run_str ((Hown8.out.below HB9.out).below hb10).rd
       have HF3 := Lib.hid (format_small hd10 (by show 3 < 4; omega)); have HFn := Lib.hid (format_nil w10)
       have Hend : Hid (Below w.heap.size w w10) := Lib.hid ((HB8.out.below.trans (HB9.out.mono HB8.out.below.size)).trans (hb10.mono (Nat.le_trans HB8.out.below.size HB9.out.size)))
       clear hd10 hb10 HN3)
    | (go_at_call 30; refine HF3.out.mono ?_; rintro e w' ⟨rfl, rfl⟩; clear HF3)
    | (go_at_call 30; refine HFn.out.mono ?_; rintro e w' ⟨rfl, rfl⟩; clear HFn))
  go_ret
  exact ⟨rfl, Hend.out⟩
end Go.Proofs.Ytfpmdagchbbkcaa
