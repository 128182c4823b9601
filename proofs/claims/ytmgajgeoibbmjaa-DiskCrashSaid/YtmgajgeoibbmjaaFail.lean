/- The disk: Steps; steps that fail are named. -/
import Derived.Test.YtmgajgeoibbmjaaPicks
import Derived.Test.YtmgajgeoibbmjaaFlush
namespace Go.Proofs.Ytmgajgeoibbmjaa
open Go.RowKit

theorem steps_at {w : World} {F : Nat → Prop} {a : Nat} {d : DM} (h : Disk w F a d) :
    Calls Try.prog 21 #[.pointer (some ⟨a, 0, none⟩)] w fun e w' => e = .returned (.int .i64 (d.steps : Int)) ∧ w = w' := by
  have Hn := Lib.hid (none_disk h)
  obtain ⟨ok, L, S, C, X, mc, hA⟩ := h
  have c5 : w.cell? ⟨a, 5, none⟩ = some (.int .i64 (d.steps : Int)) := cellOf hA.cells rfl
  clear ok hA
  go_enter Try.func21, Try.ntmps21
  go_wp2_with (go_at_call 28; refine Hn.out.mono ?_; rintro e w' ⟨rfl, rfl⟩)
  go_ret
  exact ⟨rfl, rfl⟩

def DM.failAt (d : DM) (k : Int) : DM := { d with fails := fun j => if j = k then some ((d.fails k).getD 0 + 1) else d.fails j }
def DM.failL (d : DM) (l : List Int) : DM := l.foldl DM.failAt d
/-- How often a step was named at most. -/
def FailB (d : DM) (n : Nat) : Prop := ∀ k v, d.fails k = some v → 1 ≤ v ∧ v ≤ (n : Int)
theorem FailB.none {d : DM} (h : ∀ k, d.fails k = none) : FailB d 0 := fun k v hv => by rw [h] at hv; cases hv
theorem FailB.failAt {d : DM} {n : Nat} (h : FailB d n) (k : Int) : FailB (d.failAt k) (n + 1) := by
  intro j v hv
  change (if j = k then some ((d.fails k).getD 0 + 1) else d.fails j) = some v at hv
  split at hv
  · cases hk : d.fails k with
    | none => rw [hk] at hv; simp at hv; omega
    | some u => rw [hk] at hv; have := h k u hk; simp at hv; omega
  · have := h j v hv; omega
theorem failL_snoc (d : DM) (l : List Int) (k : Int) : d.failL (l ++ [k]) = (d.failL l).failAt k := by simp [DM.failL]
theorem FailB.failL {d : DM} {n : Nat} (h : FailB d n) (l : List Int) : FailB (d.failL l) (n + l.length) := by
  unfold DM.failL
  induction l generalizing d n with
  | nil => exact h
  | cons x r ih => have := ih (h.failAt x); rw [List.length_cons, show n + (r.length + 1) = n + 1 + r.length by omega]; exact this
theorem FailB.mono {d : DM} {n m : Nat} (h : FailB d n) (hm : n ≤ m) : FailB d m := fun k v hv => by have := h k v hv; omega
theorem failL_size (d : DM) (l : List Int) : (d.failL l).size = d.size ∧ (d.failL l).steps = d.steps ∧ (d.failL l).lasting = d.lasting ∧ (d.failL l).seen = d.seen ∧ (d.failL l).since = d.since := by
  unfold DM.failL
  induction l generalizing d with
  | nil => exact ⟨rfl, rfl, rfl, rfl, rfl⟩
  | cons x r ih => exact ih (d.failAt x)
theorem DM.Ok.failL {d : DM} (h : d.Ok) (l : List Int) : (d.failL l).Ok := by
  obtain ⟨h1, h2, h3, h4, h5⟩ := failL_size d l
  exact ⟨by rw [h1]; exact h.pos, by rw [h1]; exact h.most, by rw [h1, h3]; exact h.lasting, by rw [h1, h4]; exact h.seen, by rw [h1, h2, h5]; exact h.since⟩
theorem failL_some (d : DM) (l : List Int) (k : Int) : ((d.failL l).fails k).isSome = ((d.fails k).isSome || l.contains k) := by
  unfold DM.failL
  induction l generalizing d with
  | nil => simp
  | cons x r ih =>
    rw [List.foldl_cons, ih, List.contains_cons]
    show ((if k = x then some ((d.fails x).getD 0 + 1) else d.fails k).isSome || r.contains k) = _
    by_cases h : k = x
    · subst h; simp
    · have : (k == x) = false := by simpa using h
      rw [if_neg h, this]; simp
theorem FailB.failing {d : DM} {n : Nat} (h : FailB d n) : d.failing = (d.fails (d.steps : Int)).isSome := by
  unfold DM.failing
  cases hk : d.fails (d.steps : Int) with
  | none => rfl
  | some v => have := h _ v hk; simp; omega

/-- What a Fail leaves in memory. -/
structure FlI (w W : World) (F : Nat → Prop) (a L S C X : Nat) (mc : Int → Option Value) (d : DM) : Prop where
  at_ : DiskAt W F a d L S C X mc
  touch : Touch (fun b => b = X) w W
theorem DiskAt.failAt {w w' : World} {F : Nat → Prop} {a : Nat} {d : DM} {L S C X : Nat} {mc : Int → Option Value} (h : DiskAt w F a d L S C X mc) (k : Int) (h1 : Touch (fun b => b = X) w w')
    (h2 : IntMap w' X (updI (fun k => (d.fails k).map (.int .i64)) k (.int .i64 ((d.fails k).getD 0 + 1)))) : DiskAt w' F a (d.failAt k) L S C X mc := by
  have hne : ∀ b ∈ [a, L, S, C], b ≠ X := fun b hb e => by
    subst e
    have := h.nodup
    simp only [List.nodup_cons, List.mem_cons, List.not_mem_nil, or_false, not_or] at this hb
    omega
  refine ⟨h1.heap h.cells (hne a (by simp)), h.nodup, h.foot, h.lasting.touch h1 (hne L (by simp)), h.seen.touch h1 (hne S (by simp)), ?_, h.since.touch h1 (hne C (by simp)), h.sinceAt.touch h1 (fun b _ hb e => hb (by simp [e]))⟩
  have e : (fun j => ((d.failAt k).fails j).map (Value.int .i64)) = updI (fun k => (d.fails k).map (.int .i64)) k (.int .i64 ((d.fails k).getD 0 + 1)) := by
    funext j
    show ((if j = k then some ((d.fails k).getD 0 + 1) else d.fails j).map (Value.int .i64)) = if j = k then _ else _
    split <;> rfl
  rw [e]; exact h2

set_option maxRecDepth 100000 in
set_option maxHeartbeats 1000000 in
theorem fail_any {w : World} {F : Nat → Prop} {a : Nat} {d : DM} {N : Nat} (hd : Disk w F a d) (p : Option Addr) (n c : Nat) (l : List Int) (hrd : RdI w (.slice p n c) l) (hoff : l ≠ [] → ∀ g, (Value.slice p n c).ownBlock = some g → ¬ F g) (hlen : l.length ≤ 1000000) (hB : FailB d N) (hN : N + l.length ≤ 1000000000) (hneg : anyNeg l = false) :
    Calls Try.prog 20 #[.pointer (some ⟨a, 0, none⟩), .slice p n c] w fun e w' => e = .returned (.int .i64 0) ∧ Disk w' F a (d.failL l) ∧ Touch F w w' := by
  have Hn := Lib.hid (none_disk hd)
  have hc0 := contains_neg 46 (.inr rfl) p n c l w hrd hlen
  rw [hneg] at hc0
  have Hc := Lib.hid hc0
  obtain ⟨ok, L, S, C, X, mc, hA⟩ := hd
  obtain ⟨_, _, heq, hnil, hcell⟩ := hrd
  cases heq
  have HX := Lib.hid (And.intro hnil (And.intro hcell (And.intro hoff (And.intro hB (And.intro ok hA)))))
  have hI0 : FlI w w F a L S C X mc (d.failL (l.take 0)) := ⟨hA, Touch.refl _ _⟩
  have HI0 := Lib.hid hI0
  have hlen2 : (l.length : Int) ≤ 1000000 := by omega
  clear hc0 hnil hcell hoff hB ok hA hI0 hneg
  go_enter Try.func20, Try.ntmps20
  go_wp2_with (first
    | (go_at_call 28; refine Hn.out.mono ?_; rintro e w' ⟨rfl, rfl⟩)
    | (go_at_call 29; refine Hc.out.mono ?_; rintro e w' ⟨rfl, rfl⟩))
  go_loopw [13] (fun i wr => ∃ k : Nat, k ≤ l.length ∧ i = .int .i64 (k : Int) ∧ FlI w wr F a L S C X mc (d.failL (l.take k))) (fun i _ => l.length - (intOf i).toNat)
  case atStart => exact ⟨0, Nat.zero_le _, rfl, HI0.out⟩
  case round =>
    obtain ⟨k, hk, rfl, hI⟩ := hrel
    by_cases hlt : k < l.length
    · have hlt2 : k + 1 ≤ l.length := hlt
      obtain ⟨ad, rfl⟩ : ∃ ad, p = some ad := by
        cases p with
        | none => have := HX.out.1 rfl; subst this; simp at hlt
        | some ad => exact ⟨ad, rfl⟩
      obtain ⟨hspot, hcs⟩ := HX.out.2.1 ad rfl
      obtain ⟨ab, ao, asp⟩ := ad
      have hspot := hspot (fun e => by rw [e] at hlt; simp at hlt)
      simp only at hspot
      subst hspot
      have hFX : F X := hI.at_.foot X (by simp)
      have hab : ab ≠ X := fun e => HX.out.2.2.1 (fun e => by rw [e] at hlt; simp at hlt) ab rfl (by rw [e]; exact hFX)
      have hc : wr.cell? ⟨ab, ao + k, none⟩ = some (.int .i64 l[k]) := hI.touch.cell (hcs k l[k] (by simp [hlt])) (by exact hab)
      have htk : l.take (k + 1) = l.take k ++ [l[k]] := List.take_succ_eq_append_getElem hlt
      have hBk : FailB (d.failL (l.take k)) (N + (l.take k).length) := HX.out.2.2.2.1.failL _
      have hl2 : (l.take k).length ≤ l.length := List.length_take_le' _ _
      generalize l[k] = x at *
      have hstep : d.failL (l.take (k + 1)) = (d.failL (l.take k)).failAt x := by rw [htk, failL_snoc]
      generalize d.failL (l.take k) = dk at *
      obtain ⟨hAk, hTk⟩ := hI
      have c4 : wr.cell? ⟨a, 4, none⟩ = some (.map (some X)) := cellOf hAk.cells rfl
      have hlk : (Instr.lookup 50 (.map (some X)) (.int .i64 x) false).run Try.prog wr = .ok (.int .i64 ((dk.fails x).getD 0)) wr := by
        have := run_lookup_int (P := Try.prog) hAk.fails Try.underlying50 Try.underlying3 Try.zeroValue3 x
        rw [this]
        cases dk.fails x <;> rfl
      obtain ⟨W2, hup, hT2, hM2, hsz2⟩ := run_mapUpdate_int (P := Try.prog) (T := 50) hAk.fails Try.underlying50 Try.underlying3 x (.int .i64 ((dk.fails x).getD 0 + 1))
      have hfin : FlI w W2 F a L S C X mc (d.failL (l.take (k + 1))) := by rw [hstep]; exact ⟨hAk.failAt x hT2 hM2, hTk.trans hT2⟩
      have hv : 0 ≤ (dk.fails x).getD 0 ∧ (dk.fails x).getD 0 ≤ 1000000000 := by
        cases hk : dk.fails x with
        | none => simp
        | some v => have := hBk x v hk; simp; omega
      obtain ⟨hv1, hv2⟩ := hv
      have Hf := Lib.hid hfin
      clear hfin hT2 hM2 hsz2 hAk hTk hstep htk hBk hcs hFX hab hl2
      generalize (dk.fails x).getD 0 = v at *
      go_wp2
      go_roundw
      case rel => exact ⟨k + 1, by omega, by go_num, Hf.out⟩
      case measure => simp [intOf]; omega
    · have hfin : Disk wr F a (d.failL l) ∧ Touch F w wr := by
        rw [List.take_of_length_le (by omega)] at hI
        exact ⟨⟨HX.out.2.2.2.2.1.failL l, L, S, C, X, mc, hI.at_⟩, hI.touch.mono fun b _ e => by rw [e]; exact hI.at_.foot X (by simp)⟩
      have Hf := Lib.hid hfin
      clear hfin hI
      go_wp2
      go_ret
      exact ⟨rfl, Hf.out⟩
end Go.Proofs.Ytmgajgeoibbmjaa
