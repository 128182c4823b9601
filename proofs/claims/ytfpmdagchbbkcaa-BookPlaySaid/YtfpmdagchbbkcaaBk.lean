/- A book with its disk, live or dead: what its calls make of it. -/
import Derived.Test.YtfpmdagchbbkcaaKnown
import Derived.Test.YtfpmdagchbbkcaaCuts
import Derived.Test.YtfpmdagchbbkcaaFail
import Derived.Test.YtfpmdagchbbkcaaVast
namespace Go.Proofs.Ytfpmdagchbbkcaa
open Go.RowKit

set_option maxRecDepth 100000 in
set_option maxHeartbeats 1000000 in
theorem put_dead {w : World} {b : Nat} {n : Int} {v : Value} {ad : Addr} (hbk : BookAt w b n v true (some ad)) (vb : Value) :
    Calls Try.prog 18 #[.pointer (some ⟨b, 0, none⟩), vb] w fun e w' => e = .returned (.int .i64 311) ∧ Below w.heap.size w w' := by
  have hb : Below w.heap.size w ((w.alloc (.cells #[.pointer (some ⟨b, 0, none⟩)] 42)).alloc (.cells #[.int .i64 0] 30)) := ((Below.refl _ _).alloc (Nat.le_refl _) _).alloc (by simp) _
  have hbk2 : BookAt ((w.alloc (.cells #[.pointer (some ⟨b, 0, none⟩)] 42)).alloc (.cells #[.int .i64 0] 30)) b n v true (some ad) := belowBlk hb (Array.getElem?_eq_some_iff.1 hbk).1 hbk
  have Hn := Lib.hid (bnone_at hbk2)
  have k2 := cellOf (o := 2) hbk2 rfl
  clear hb hbk hbk2
  go_enter Try.func18, Try.ntmps18
  go_wp2_with (go_at_call 36; refine Hn.out.mono ?_; rintro e w' ⟨rfl, rfl⟩)
  refine bodyPost_ret (results_cell1 rfl _ _ ⟨w.heap.size + 1, 0, none⟩ (.int .i64 311) rfl (run_load1 Try.underlying30 rfl (by simp [go_sem]))) rfl ⟨rfl, ?_⟩
  exact ((Below.refl _ _).alloc (Nat.le_refl _) _).alloc (by simp) _

theorem looked_len {d : DM} (hok : d.Ok) {n : Int} {l : List UInt8} (h : looked d = some (n, l)) : l.length ≤ 33554432 := by
  unfold looked at h
  by_cases h0 : (best (heads d 2)).1 = 0
  · rw [if_pos h0] at h; cases h
  · rw [if_neg h0] at h
    simp only [Option.some.injEq, Prod.mk.injEq] at h
    rw [← h.2, List.length_take, readB_length hok]
    have := hok.most
    unfold hf
    omega
theorem looked_edition {d : DM} {n : Int} {l : List UInt8} (h : looked d = some (n, l)) : 1 ≤ n ∧ n ≤ 4611686018427387904 := by
  unfold looked at h
  by_cases h0 : (best (heads d 2)).1 = 0
  · rw [if_pos h0] at h; cases h
  · rw [if_neg h0] at h
    simp only [Option.some.injEq, Prod.mk.injEq] at h
    rcases best_heads d 2 with hb | hb
    · rw [hb] at h0; exact absurd rfl h0
    · omega

/-- A disk of ours: its blocks lie from w0 on, and are of R. -/
structure Dk (R : Nat → Prop) (w0 w : World) (a : Nat) (d : DM) : Prop where
  ex : ∃ F, Disk w F a d ∧ ∀ x, F x → (R x ∧ w0.heap.size ≤ x) ∧ x < w.heap.size
  below : Below w0.heap.size w0 w
theorem Dk.grow {R : Nat → Prop} {w0 w w' : World} {a : Nat} {d : DM} (h : Dk R w0 w a d) (g : Below w.heap.size w w') : Dk R w0 w' a d := by
  obtain ⟨⟨F, h1, h2⟩, h3⟩ := h
  exact ⟨⟨F, h1.below g, fun x hx => ⟨(h2 x hx).1, Nat.lt_of_lt_of_le (h2 x hx).2 g.size⟩⟩, h3.trans (g.mono h3.size)⟩
theorem Dk.ok {R : Nat → Prop} {w0 w : World} {a : Nat} {d : DM} (h : Dk R w0 w a d) : d.Ok := by obtain ⟨⟨F, h1, _⟩, _⟩ := h; exact h1.1
/-- A book of ours on its disk. -/
structure Bk (R : Nat → Prop) (w0 w : World) (a b : Nat) (d : DM) (n : Int) (l : List UInt8) (dead : Bool) : Prop where
  ex : ∃ F v, Disk w F a d ∧ (∀ x, F x → (R x ∧ w0.heap.size ≤ x) ∧ x < w.heap.size) ∧ ¬ F b ∧ w0.heap.size ≤ b ∧ BookAt w b n v dead (some ⟨a, 0, none⟩) ∧ OwnB w v l ∧ (∀ g, v.ownBlock = some g → ¬ F g ∧ g ≠ b)
  below : Below w0.heap.size w0 w
section
variable {R : Nat → Prop} {w0 w w' : World} {a b : Nat} {d : DM} {n : Int} {l : List UInt8} {dead : Bool}
theorem Bk.grow (h : Bk R w0 w a b d n l dead) (g : Below w.heap.size w w') : Bk R w0 w' a b d n l dead := by
  obtain ⟨⟨F, v, h1, h2, h3, h4, h5, h6, h7⟩, h8⟩ := h
  exact ⟨⟨F, v, h1.below g, fun x hx => ⟨(h2 x hx).1, Nat.lt_of_lt_of_le (h2 x hx).2 g.size⟩, h3, h4, belowBlk g (Array.getElem?_eq_some_iff.1 h5).1 h5, h6.below g, h7⟩, h8.trans (g.mono h8.size)⟩
theorem Bk.mono {R' : Nat → Prop} (h : Bk R w0 w a b d n l dead) (hR : ∀ x, x < w.heap.size → R x → R' x) : Bk R' w0 w a b d n l dead := by
  obtain ⟨⟨F, v, h1, h2, h3⟩, h8⟩ := h
  exact ⟨⟨F, v, h1, fun x hx => ⟨⟨hR x (h2 x hx).2 (h2 x hx).1.1, (h2 x hx).1.2⟩, (h2 x hx).2⟩, h3⟩, h8⟩
theorem Bk.dk (h : Bk R w0 w a b d n l dead) : Dk R w0 w a d := by
  obtain ⟨⟨F, v, h1, h2, _⟩, h8⟩ := h; exact ⟨⟨F, h1, h2⟩, h8⟩
theorem Bk.ok (h : Bk R w0 w a b d n l dead) : d.Ok := h.dk.ok
theorem Bk.lt (h : Bk R w0 w a b d n l dead) : ∃ v, w.heap[b]? = some (.cells #[.int .i64 n, v, .bool dead, .pointer (some ⟨a, 0, none⟩)] 52 (0, 0)) := by
  obtain ⟨⟨F, v, h1, h2, h3, h4, h5, _⟩, h8⟩ := h; exact ⟨v, h5⟩
theorem own_ne {v v' : Value} {q : Option Addr} {l' : List UInt8} (h : OwnB w v l') (hbk : BookAt w b n v' dead q) : ∀ g, v.ownBlock = some g → g ≠ b := by
  rintro g hg rfl
  rcases h.2 with ⟨rfl, _⟩ | ⟨g', cap, cur, rfl, _, hh, _⟩
  · cases hg
  · cases hg
    unfold BookAt at hbk
    rw [hbk] at hh
    simp only [Option.some.injEq, Obj.cells.injEq] at hh
    exact absurd hh.2.1 (by decide)
theorem Bk.opened {v : Value} (hd : Dk R w0 w a d) (hbk : BookAt w' b n v false (some ⟨a, 0, none⟩)) (hown : OwnB w' v l) (hw : Below w.heap.size w w') (hle : w.heap.size ≤ b) (hg : ∀ g, v.ownBlock = some g → w.heap.size ≤ g) : Bk R w0 w' a b d n l false := by
  obtain ⟨⟨F, h1, h2⟩, h3⟩ := hd
  exact ⟨⟨F, v, h1.below hw, fun x hx => ⟨(h2 x hx).1, Nat.lt_of_lt_of_le (h2 x hx).2 hw.size⟩, fun hx => by have := (h2 _ hx).2; omega, Nat.le_trans h3.size hle, hbk, hown,
    fun g hg' => ⟨fun hx => by have := (h2 _ hx).2; have := hg g hg'; omega, own_ne hown hbk g hg'⟩⟩, h3.trans (hw.mono h3.size)⟩
theorem Dk.open_ (h : Dk R w0 w a d) (h4 : 4 ≤ d.size) (hl : looked d = some (n, l)) :
    Calls Try.prog 16 #[.pointer (some ⟨a, 0, none⟩)] w fun e w' => ∃ b, e = .returned (.tuple #[.pointer (some ⟨b, 0, none⟩), .int .i64 0]) ∧ Bk R w0 w' a b d n l false ∧ Below w.heap.size w w' := by
  have h' := h
  obtain ⟨⟨F, h1, h2⟩, h3⟩ := h
  refine (open_some h1 h4 hl).mono ?_
  rintro e w' ⟨b, v, rfl, k1, k2, k3, k4, k5⟩
  exact ⟨b, rfl, Bk.opened h' k1 k2 k3 k4 k5, k3⟩
theorem Dk.look (h : Dk R w0 w a d) (h4 : 4 ≤ d.size) (hl : looked d = some (n, l)) :
    Calls Try.prog 15 #[.pointer (some ⟨a, 0, none⟩)] w fun e w' => ∃ a1 c1, e = .returned (.tuple #[.slice a1 l.length c1, .int .i64 n, .int .i64 0]) ∧ OwnB w' (.slice a1 l.length c1) l ∧ Below w.heap.size w w' := by
  obtain ⟨⟨F, h1, h2⟩, h3⟩ := h
  exact Look_some h1 h4 hl
theorem Dk.steps (h : Dk R w0 w a d) : Calls Try.prog 25 #[.pointer (some ⟨a, 0, none⟩)] w fun e w' => e = .returned (.int .i64 (d.steps : Int)) ∧ w = w' := by
  obtain ⟨⟨F, h1, h2⟩, h3⟩ := h; exact steps_at h1
theorem Bk.state (h : Bk R w0 w a b d n l dead) (h4 : 4 ≤ d.size) :
    Calls Try.prog 22 #[.pointer (some ⟨b, 0, none⟩)] w fun e w' => e = .returned (.tuple #[.int .i64 n, .int .i64 ((hf d : Int) * 512), .bool dead]) ∧ Bk R w0 w' a b d n l dead ∧ Below w.heap.size w w' := by
  have h' := h
  obtain ⟨⟨F, v, h1, h2, h3, hb4, h5, h6, h7⟩, h8⟩ := h
  refine (state_at h5 h1 h4).mono ?_
  rintro e w' ⟨rfl, hb⟩
  exact ⟨rfl, h'.grow hb, hb⟩
theorem Bk.disk (h : Bk R w0 w a b d n l dead) :
    Calls Try.prog 23 #[.pointer (some ⟨b, 0, none⟩)] w fun e w' => e = .returned (.pointer (some ⟨a, 0, none⟩)) ∧ w = w' := by
  obtain ⟨⟨F, v, h1, h2, h3, h4, h5, h6, h7⟩, h8⟩ := h
  exact disk_at h5
theorem Bk.bytes (h : Bk R w0 w a b d n l dead) (hl : l.length ≤ 140737488355328) :
    Calls Try.prog 17 #[.pointer (some ⟨b, 0, none⟩)] w fun e w' => ∃ a1 c1, e = .returned (.slice a1 l.length c1) ∧ OwnB w' (.slice a1 l.length c1) l ∧ Bk R w0 w' a b d n l dead ∧ Below w.heap.size w w' := by
  have h' := h
  obtain ⟨⟨F, v, h1, h2, h3, h4, h5, h6, h7⟩, h8⟩ := h
  refine (bytes_at h5 l h6 hl).mono ?_
  rintro e w' ⟨v', rfl, k1, k2, k3⟩
  obtain ⟨a1, c1, rfl⟩ := k1.shape
  exact ⟨a1, c1, rfl, k1, h'.grow k2, k2⟩
/-- What is neither of R nor the book stays. -/
def Stays (R : Nat → Prop) (b : Nat) (w w' : World) : Prop := w.heap.size ≤ w'.heap.size ∧ ∀ x, ¬ R x → x ≠ b → x < w.heap.size → w'.heap[x]? = w.heap[x]?
theorem Stays.below {w w' : World} (h : Below w.heap.size w w') : Stays R b w w' := ⟨h.size, fun x _ _ hx => h.block x hx⟩
theorem Stays.trans {w w' w'' : World} (h : Stays R b w w') (g : Stays R b w' w'') : Stays R b w w'' :=
  ⟨Nat.le_trans h.1 g.1, fun x h1 h2 hx => (g.2 x h1 h2 (Nat.lt_of_lt_of_le hx h.1)).trans (h.2 x h1 h2 hx)⟩
/-- Steps that fail are named. -/
theorem Bk.fail {N : Nat} (h : Bk R w0 w a b d n l dead) (p : Option Addr) (m c : Nat) (ks : List Int) (w1 : World) (hw : Below w.heap.size w w1) (hrd : RdI w1 (.slice p m c) ks) (hfree : ∀ g, (Value.slice p m c).ownBlock = some g → w.heap.size ≤ g) (hlen : ks.length ≤ 1000000) (hB : FailB d N) (hN : N + ks.length ≤ 1000000000) (hneg : anyNeg ks = false) :
    Calls Try.prog 24 #[.pointer (some ⟨a, 0, none⟩), .slice p m c] w1 fun e w' => e = .returned (.int .i64 0) ∧ Bk R w0 w' a b (d.failL ks) n l dead ∧ Stays R b w1 w' := by
  have hg := h.grow hw
  obtain ⟨⟨F, v, h1, h2, h3, h4, h5, h6, h7⟩, h8⟩ := h
  refine (fail_any (h1.below hw) p m c ks hrd (fun g hg hx => by have := hfree g hg; have := (h2 g hx).2; omega) hlen hB hN hneg).mono ?_
  rintro e w' ⟨rfl, k1, k2⟩
  have h5' := belowBlk hw (Array.getElem?_eq_some_iff.1 h5).1 h5
  have hb8 := h8.trans (hw.mono h8.size)
  refine ⟨rfl, ⟨⟨F, v, k1, fun x hx => ⟨(h2 x hx).1, Nat.lt_of_lt_of_le (h2 x hx).2 (Nat.le_trans hw.size k2.size)⟩, h3, h4, k2.heap h5' h3, (h6.below hw).touch k2 (fun g hg => (h7 g hg).1), h7⟩, k2.below hb8 (fun x hx hh => by have := (h2 x hh).1.2; omega) hb8.size⟩, k2.size, fun x hx hb hl => k2.block x hl (fun hh => hx (h2 x hh).1.1)⟩
/-- A Put on a book that is not dead. -/
theorem Bk.put {N : Nat} (h : Bk R w0 w a b d (N : Int) l false) (hR : ∀ x, w.heap.size ≤ x → R x) (h4 : 4 ≤ d.size) (hN : N < 4611686018427387904) (a1 : Option Addr) (n1 c1 : Nat) (new : List UInt8) (w1 : World) (hw : Below w.heap.size w w1) (hrd : RdB w1 (.slice a1 n1 c1) new)
    (hfree : ∀ g, (Value.slice a1 n1 c1).ownBlock = some g → w.heap.size ≤ g) (hsm : n1 ≤ hf d * 512) (hst : d.steps < 1073741000) :
    Calls Try.prog 18 #[.pointer (some ⟨b, 0, none⟩), .slice a1 n1 c1] w1 fun e w' =>
      ((e = .returned (.int .i64 0) ∧ (putE d N new).2 = false ∧ Bk R w0 w' a b (putE d N new).1 ((N + 1 : Nat) : Int) new false) ∨ (e = .returned (.int .i64 300) ∧ (putE d N new).2 = true ∧ Bk R w0 w' a b (putE d N new).1 (N : Int) l true)) ∧ Stays R b w1 w' := by
  obtain ⟨⟨F, v, h1, h2, h3, hb4, h5, h6, h7⟩, h8⟩ := h
  have hblt : b < w.heap.size := (Array.getElem?_eq_some_iff.1 h5).1
  refine (put_any (h1.below hw) (fun x hx => Nat.lt_of_lt_of_le (h2 x hx).2 hw.size) h3 h4 (belowBlk hw hblt h5) hN a1 n1 c1 new hrd (fun g hg hx => by have := hfree g hg; have := (h2 g hx).2; omega) hsm hst).mono ?_
  have hb8 := h8.trans (hw.mono h8.size)
  rintro e w' (⟨rfl, k0, B, v', k1, k2, k3, k4, k5, k6⟩ | ⟨rfl, k0, B, k1, k2, k3, k6⟩)
  all_goals
    have hB8 : Below w0.heap.size w0 w' := k6.below hb8 (fun x hx hh => by rcases hh with hh | hh; (have := (h2 x hh).1.2; omega); omega) hb8.size
    have hF : ∀ x, (F x ∨ w1.heap.size ≤ x) ∧ x < B → (R x ∧ w0.heap.size ≤ x) ∧ x < w'.heap.size := fun x hx => ⟨hx.1.elim (fun h => (h2 x h).1) (fun h => ⟨hR x (Nat.le_trans hw.size h), Nat.le_trans hb8.size h⟩), by omega⟩
    have hnb : ¬ ((F b ∨ w1.heap.size ≤ b) ∧ b < B) := fun hx => by rcases hx.1 with h | h; exact h3 h; (have := hw.size; omega)
    refine ⟨?_, k6.size, fun x hx hb hl => k6.block x hl (fun hh => hh.elim (fun hh => hx (h2 x hh).1.1) hb)⟩
  · exact .inl ⟨rfl, k0, ⟨_, v', k1, hF, hnb, hb4, k3, k4, fun g hg => ⟨fun hx => by have := k5 g hg; omega, own_ne k4 k3 g hg⟩⟩, hB8⟩
  · have hown : OwnB w' v l := (h6.below hw).touch k6 (fun g hg hx => by rcases hx with hx | hx; exact (h7 g hg).1 hx; exact (h7 g hg).2 hx)
    refine .inr ⟨rfl, k0, ⟨_, v, k1, hF, hnb, hb4, k3, hown, fun g hg => ⟨fun hx => ?_, (h7 g hg).2⟩⟩, hB8⟩
    rcases hx.1 with h | h
    · exact (h7 g hg).1 h
    · have := (h6.lt g hg).2; have := hw.size; omega
/-- What a crash leaves. -/
theorem Dk.crash (h : Dk R w0 w a d) (hR : ∀ x, w.heap.size ≤ x → R x) (p : Option Addr) (m c : Nat) (ks : List Int) (hrd : RdI w (.slice p m c) ks) (hmc : m ≤ c) (hlen : ks.length ≤ 1000000) (hneg : anyNeg ks = false) (hst : d.steps < 1073741824) :
    Calls Try.prog 26 #[.pointer (some ⟨a, 0, none⟩), .slice p m c] w fun e w' => ∃ a', e = .returned (.tuple #[.pointer (some ⟨a', 0, none⟩), .int .i64 0]) ∧ Dk R w0 w' a' (d.crash ks) ∧ Below w.heap.size w w' := by
  obtain ⟨⟨F, h1, h2⟩, h3⟩ := h
  refine (crash_ok h1 (fun x hx => (h2 x hx).2) p m c ks hrd hmc hlen hneg hst).mono ?_
  rintro e w' ⟨a', rfl, k1, k2⟩
  exact ⟨a', rfl, ⟨⟨_, k1.cap, fun x hx => ⟨⟨hR x hx.1, Nat.le_trans h3.size hx.1⟩, hx.2⟩⟩, h3.trans (k2.mono h3.size)⟩, k2⟩
end

/-! ### the law's small functions -/
set_option maxRecDepth 100000 in
theorem noBelow_any (p : Option Addr) (n c : Nat) (l : List Int) (w : World) (h : RdI w (.slice p n c) l) (hlen : l.length ≤ 1000000) :
    Calls Try.prog 20 #[.slice p n c] w fun e w' => e = .returned (.bool (!anyNeg l)) ∧ w = w' := by
  obtain ⟨a, cap, heq, hnil, hcell⟩ := h
  cases heq
  have HC := Lib.hid (And.intro hnil hcell)
  clear hnil hcell
  go_enter Try.func20, Try.ntmps20
  go_wp2
  go_loop [3] (fun i => ∃ k : Nat, k ≤ l.length ∧ i = .int .i64 (k : Int) ∧ anyNeg (l.take k) = false) (fun i => l.length - (intOf i).toNat)
  case atStart => exact ⟨0, Nat.zero_le _, rfl, by simp [anyNeg]⟩
  case round =>
    obtain ⟨k, hk, rfl, hany⟩ := hrel
    by_cases hlt : k < l.length
    · obtain ⟨ad, rfl⟩ : ∃ ad, p = some ad := by
        cases p with
        | none => have := HC.out.1 rfl; subst this; simp at hlt
        | some ad => exact ⟨ad, rfl⟩
      obtain ⟨hspot, hcs⟩ := HC.out.2 ad rfl
      obtain ⟨ab, ao, asp⟩ := ad
      have hspot := hspot (fun e => by rw [e] at hlt; simp at hlt)
      simp only at hspot
      subst hspot
      have hc := hcs k l[k] (by simp [hlt])
      have htk : anyNeg (l.take (k + 1)) = (anyNeg (l.take k) || decide (l[k] < 0)) := by
        unfold anyNeg; rw [List.take_succ_eq_append_getElem hlt, List.any_append]; simp
      by_cases hx : l[k] < 0
      · have e : anyNeg l = true := List.any_eq_true.2 ⟨_, List.getElem_mem hlt, by simpa using hx⟩
        have c1 : decide (l[k] < 0) = true := by simpa using hx
        have He := Lib.hid e
        clear htk hany e hcs hx
        go_wp2
        go_ret
        exact ⟨by rw [He.out]; rfl, rfl⟩
      · have e : anyNeg (l.take (k + 1)) = false := by rw [htk, hany]; simpa using hx
        have c1 : decide (l[k] < 0) = false := by simpa using hx
        have He := Lib.hid e
        clear htk hany e hcs hx
        go_wp2
        go_round
        case rel => exact ⟨k + 1, by omega, by go_num, He.out⟩
        case measure => simp [intOf]; omega
    · have e : anyNeg l = false := by rw [← hany, List.take_of_length_le (by omega)]
      have He := Lib.hid e
      clear e hany
      go_wp2
      go_ret
      exact ⟨by rw [He.out]; rfl, rfl⟩

/-- A formatted disk. -/
def fmtD (n : Nat) : DM := (DM.new n).format.1
theorem fmtD_no (n : Nat) : ∀ k, (fmtD n).fails k = none := fun k => by unfold fmtD; rw [format_fails (new_no n)]; rfl
theorem fmtD_size (n : Nat) : (fmtD n).size = n := format_size (new_no n)
theorem fmtD_steps (n : Nat) : (fmtD n).steps = 2 := format_steps (new_no n)
theorem fmtD_looked (n : Nat) (h : n ≤ 65536) : looked (fmtD n) = some (((1 : Nat) : Int), []) := looked_format (new_no n) h
theorem fmtD_clean (n : Nat) : (fmtD n).Clean := by
  have h : (fmtD n) = ((DM.new n).write 0 fmtB 2).1.flush.1 := by unfold fmtD; rw [format_eq (new_no n)]
  rw [h]
  unfold DM.flush
  have : ((DM.new n).write 0 fmtB 2).1.failing = false := nofail (new_no n)
  rw [this]
  exact ⟨fun _ => rfl, fun _ => rfl⟩

set_option maxRecDepth 100000 in
set_option maxHeartbeats 1000000 in
theorem begun_any (n : Nat) (h4 : 4 ≤ n) (hm : n ≤ 65536) (w : World) :
    Calls Try.prog 21 #[.int .i64 (n : Int)] w fun e w' => ∃ a b, e = .returned (.pointer (some ⟨b, 0, none⟩)) ∧ Bk (fun _ => True) w w' a b (fmtD n) ((1 : Nat) : Int) [] false := by
  have HN := Lib.hid (new_ok n (by omega) (by omega) w)
  have H4 := Lib.hid (And.intro h4 hm)
  clear h4 hm
  go_enter Try.func21, Try.ntmps21
  go_wp2_with (first
    | (go_at_call 9; refine HN.out.mono ?_; rintro e w1 ⟨rfl, hd1, hb1, _⟩
       have HF := Lib.hid (format_zero hd1 (by show 4 ≤ n; exact H4.out.1) (by show 0 < 1073741822; omega) (new_no n)); have B1 := Lib.hid hb1; clear hd1 hb1 HN)
    | (go_at_call 30; refine HF.out.mono ?_; rintro e w3 ⟨rfl, hth⟩
       have H3 : Hid (Dk (fun _ => True) w w3 (w.heap.size + 4) (fmtD n)) := Lib.hid ⟨⟨_, hth.disk, fun x hx => ⟨⟨trivial, hx.1.elim id (fun h => Nat.le_trans B1.out.size h)⟩, hx.2⟩⟩, hth.touch.below B1.out (fun x hx h => by have h' : w.heap.size ≤ x := h; omega) B1.out.size⟩
       have HO := Lib.hid (H3.out.open_ (by rw [fmtD_size]; exact H4.out.1) (fmtD_looked n H4.out.2))
       clear hth HF)
    | (go_at_call 16; refine HO.out.mono ?_; rintro e w4 ⟨b, rfl, hbk, _⟩; have HB := Lib.hid hbk; clear hbk HO))
  go_ret
  exact ⟨_, b, rfl, HB.out⟩
end Go.Proofs.Ytfpmdagchbbkcaa
