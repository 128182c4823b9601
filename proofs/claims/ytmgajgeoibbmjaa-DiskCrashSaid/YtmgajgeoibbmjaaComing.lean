/- The steps to come that fail. -/
import Derived.Test.YtmgajgeoibbmjaaSame
import Derived.Test.YtmgajgeoibbmjaaSorted
namespace Go.Proofs.Ytmgajgeoibbmjaa
open Go.RowKit

/-- Few steps fail. -/
def FewF (d : DM) : Prop := ∃ l : List Int, l.length ≤ 999999 ∧ ∀ k, (d.fails k).isSome = true → k ∈ l

set_option maxRecDepth 100000 in
set_option maxHeartbeats 2000000 in
theorem coming_any {w : World} {F : Nat → Prop} {a : Nat} {d : DM} (h : Disk w F a d) (hfew : FewF d) :
    Calls Try.prog 37 #[.pointer (some ⟨a, 0, none⟩)] w fun e w' => ∃ p n c xs, e = .returned (.slice p n c) ∧ RdI w' (.slice p n c) xs ∧ xs.Pairwise (· < ·) ∧ (∀ k, k ∈ xs ↔ (d.fails k).isSome = true ∧ (d.steps : Int) ≤ k) ∧ Below w.heap.size w w' := by
  obtain ⟨ok, L, S, C, X, mc, hA⟩ := h
  obtain ⟨fl, hfl, hin⟩ := hfew
  have hba := hA.fails.lt
  have c4 : w.cell? ⟨a, 4, none⟩ = some (.map (some X)) := cellOf hA.cells rfl
  have c5 : w.cell? ⟨a, 5, none⟩ = some (.int .i64 (d.steps : Int)) := cellOf hA.cells rfl
  obtain ⟨w0, hrun, hR0, hB0, hsz0⟩ := rng_start (P := Try.prog) (T := 50) hA.fails Try.underlying50
  have HR0 := Lib.hid (And.intro hR0 (And.intro hB0 (And.intro hsz0 hba)))
  have Hfl := Lib.hid (And.intro hfl hin)
  have HC := Lib.hid c5
  clear hR0 hB0 hsz0 hba ok hA hfl hin
  go_enter Try.func37, Try.ntmps37
  go_wp2
  clear c4 c5
  go_loopw [3, 4] (fun v _ wr => ∃ ks xs p n c, v = .slice p n c ∧ Rng wr w.heap.size X (fun k => (d.fails k).map (.int .i64)) ks ∧ OwnI wr v xs ∧ xs.Nodup ∧ (∀ k, k ∈ xs ↔ k ∈ ks ∧ (d.steps : Int) ≤ k) ∧ Below w.heap.size w wr ∧ ∀ g, v.ownBlock = some g → w.heap.size + 1 ≤ g) (fun _ _ wr => rngLeft wr w.heap.size X)
  case atStart => exact ⟨[], [], _, _, _, rfl, HR0.out.1, OwnI.nil _, List.nodup_nil, by simp, HR0.out.2.1, fun g hg => absurd hg (by simp [Value.ownBlock])⟩
  case round =>
    obtain ⟨ks, xs, p, n, c, rfl, hR, hown, hnd, hmem, hB, hg⟩ := hrel
    have hsz : w.heap.size < wr.heap.size := hR.lt
    rcases rng_step (P := Try.prog) hR with ⟨hnx, hall⟩ | ⟨k, v, w1, hnx, hv, hk, hR1, hT1, hsz1, hlt, hen⟩
    · have hks : ∀ k ∈ ks, (d.fails k).isSome = true := fun k hk => by
        obtain ⟨_, _, _, _, _, _, _, _, h6, _⟩ := hR
        have := h6 k hk
        cases hf : d.fails k with
        | none => rw [hf] at this; cases this
        | some v => rfl
      have hlen : xs.length ≤ 999999 := Nat.le_trans (nodup_length_le xs fl hnd fun k hk => Hfl.out.2 k (hks k ((hmem k).1 hk).1)) Hfl.out.1
      have Hs := Lib.hid (sort_any hown (by omega))
      have Hfin : Hid ((srt xs).Pairwise (· < ·) ∧ (∀ k, k ∈ srt xs ↔ (d.fails k).isSome = true ∧ (d.steps : Int) ≤ k)) := by
        refine Lib.hid ⟨srt_strict hnd, fun k => mem_srt.trans ((hmem k).trans ⟨fun h => ⟨hks k h.1, h.2⟩, fun h => ⟨hall k (by cases hf : d.fails k with | none => rw [hf] at h; cases h.1 | some v => rfl), h.2⟩⟩)⟩
      have HB := Lib.hid (And.intro hB hg)
      clear hks hlen hR hown hnd hmem hB hg hall
      go_wp2_with (go_at_call 50; refine Hs.out.mono ?_; rintro e w2 ⟨rfl, h5, h6⟩; have H2 := Lib.hid (And.intro h5 h6); clear h5 h6)
      go_ret
      exact ⟨p, n, c, srt xs, rfl, H2.out.1, Hfin.out.1, Hfin.out.2, HB.out.1.trans (H2.out.2 _ (fun g hg => by have := HB.out.2 g hg; omega) HB.out.1.size)⟩
    · obtain ⟨u, hsu, rfl⟩ : ∃ u, d.fails k = some u ∧ Value.int .i64 u = v := by
        cases hs : d.fails k with
        | none => rw [hs] at hv; cases hv
        | some u => rw [hs] at hv; exact ⟨u, rfl, Option.some.inj hv⟩
      have hen1 := hen w1 hR1
      have hB1 : Below w.heap.size w w1 := hT1.below hB (fun b hb e => by omega) hB.size
      have c5 : w1.cell? ⟨a, 5, none⟩ = some (.int .i64 (d.steps : Int)) := belowCell hB1 (ltOf HC.out) HC.out
      have hown1 : OwnI w1 (.slice p n c) xs := hown.touch hT1 (fun b hb e => by have := hg b hb; omega)
      by_cases hge : k ≥ (d.steps : Int)
      · have hc1 : decide (k ≥ (d.steps : Int)) = true := by simpa using hge
        have hBb : Below w1.heap.size w1 (w1.alloc (.cells #[.int .i64 k] 3)) := (Below.refl _ _).alloc (Nat.le_refl _) _
        have hlen : xs.length ≤ 999999 := Nat.le_trans (nodup_length_le xs fl hnd fun j hj => Hfl.out.2 j (by
          obtain ⟨_, _, _, _, _, _, _, _, h6, _⟩ := hR
          have := h6 j ((hmem j).1 hj).1
          cases hf : d.fails j with
          | none => rw [hf] at this; cases this
          | some v => rfl)) Hfl.out.1
        obtain ⟨v', w2, happ, h1, h2, h3, h4⟩ := append_int (hown1.below hBb) w1.heap.size 1 k (cellOf (heap_alloc_new w1 (.cells #[.int .i64 k] 3)) rfl) (by omega) 31
        have hshape : ∃ p' n' c', v' = .slice p' n' c' := by rcases h1.shape with ⟨rfl, _⟩ | ⟨g, c, rfl, _⟩ <;> exact ⟨_, _, _, rfl⟩
        obtain ⟨p', n', c', rfl⟩ := hshape
        have hR2 : Rng w2 w.heap.size X (fun k => (d.fails k).map (.int .i64)) (ks ++ [k]) := (hR1.below hBb).touch h2 (fun e => by have := hg _ e; omega) (fun e => by have := hg _ e; have := HR0.out.2.2.2; omega)
        have hleft : rngLeft w2 w.heap.size X < rngLeft wr w.heap.size X := by
          rw [(hR1.below hBb).left_touch h2 (fun e => by have := hg _ e; omega) (fun e => by have := hg _ e; have := HR0.out.2.2.2; omega)]
          have : rngLeft (w1.alloc (.cells #[.int .i64 k] 3)) w.heap.size X = rngLeft w1 w.heap.size X := hR1.left_touch (Touch.of_below hBb (S := fun b => w1.heap.size ≤ b) (fun b hb hle => hle)) (by have := hR1.lt; omega) (by have := HR0.out.2.2.2; omega)
          rw [this]; exact hlt
        have hkx : k ∉ xs := fun h => hk ((hmem k).1 h).1
        have hfin : OwnI w2 (.slice p' n' c') (xs ++ [k]) ∧ (xs ++ [k]).Nodup ∧ (∀ j, j ∈ xs ++ [k] ↔ j ∈ ks ++ [k] ∧ (d.steps : Int) ≤ j) ∧ Below w.heap.size w w2 ∧ ∀ g, (Value.slice p' n' c').ownBlock = some g → w.heap.size + 1 ≤ g := by
          refine ⟨h1, List.nodup_append.2 ⟨hnd, by simp, by intro x hx y hy; simp at hy; subst hy; intro e; subst e; exact hkx hx⟩, fun j => ?_, ?_, fun g hg' => ?_⟩
          · rw [List.mem_append, List.mem_append, List.mem_singleton, hmem]
            constructor
            · rintro (h | rfl)
              · exact ⟨.inl h.1, h.2⟩
              · exact ⟨.inr rfl, by omega⟩
            · rintro ⟨h | rfl, h'⟩
              · exact .inl ⟨h, h'⟩
              · exact .inr rfl
          · have hBA := hB1.trans (hBb.mono hB1.size)
            exact h2.below hBA (fun b hb e => by have := hg _ e; omega) hBA.size
          · rcases h3 with e | e
            · exact hg g (by rw [← e]; exact hg')
            · rw [e] at hg'; simp at hg'; omega
        have Hf := Lib.hid (And.intro hR2 (And.intro hfin hleft))
        have Ha := Lib.hid happ
        clear hfin hleft hR2 happ h1 h2 h3 h4 hlen hBb hown1 hB1 hen hR1 hT1 hsz1 hlt hk hv hR hown hnd hmem hB hg hsu hkx
        go_wp2_with (refine wpList_append rfl rfl rfl rfl Ha.out ?_)
        go_roundw
        case rel => exact ⟨ks ++ [k], xs ++ [k], _, _, _, rfl, Hf.out.1, Hf.out.2.1⟩
        case measure => exact Hf.out.2.2
      · have hc1 : decide (k ≥ (d.steps : Int)) = false := by simpa using hge
        have hfin : (∀ j, j ∈ xs ↔ j ∈ ks ++ [k] ∧ (d.steps : Int) ≤ j) := fun j => by
          rw [hmem, List.mem_append, List.mem_singleton]
          constructor
          · rintro ⟨h1, h2⟩; exact ⟨.inl h1, h2⟩
          · rintro ⟨h1 | rfl, h2⟩
            · exact ⟨h1, h2⟩
            · exact absurd h2 hge
        have Hf := Lib.hid (And.intro hR1 (And.intro hown1 (And.intro hnd (And.intro hfin (And.intro hB1 (And.intro hg hlt))))))
        clear hfin hown1 hB1 hen hR1 hT1 hsz1 hlt hk hv hR hown hnd hmem hB hg hsu
        go_wp2
        go_roundw
        case rel => exact ⟨ks ++ [k], xs, _, _, _, rfl, Hf.out.1, Hf.out.2.1, Hf.out.2.2.1, Hf.out.2.2.2.1, Hf.out.2.2.2.2.1, Hf.out.2.2.2.2.2.1⟩
        case measure => exact Hf.out.2.2.2.2.2.2
end Go.Proofs.Ytmgajgeoibbmjaa
