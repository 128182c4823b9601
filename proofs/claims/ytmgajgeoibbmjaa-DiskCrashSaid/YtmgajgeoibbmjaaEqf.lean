/- maps.EqualFunc of what was written since. -/
import Derived.Test.YtmgajgeoibbmjaaEqs
namespace Go.Proofs.Ytmgajgeoibbmjaa
open Go.RowKit

theorem run_lookup_int2 {P : Program} {w : World} {b : Nat} {m : Int → Option Value} {T K E : TypeId} (h : IntMap w b m) (hT : P.underlying T = some (.map K E)) (hK : P.underlying K = some (.int .i64)) {z : Value} (hz : ∀ w, (zeroValue E).run P w = .ok z w) (k : Int) :
    (Instr.lookup T (.map (some b)) (.int .i64 k) true).run P w = .ok (.tuple #[(m k).getD z, .bool (m k).isSome]) w := by
  obtain ⟨es, clk, hb, hg, hm⟩ := h
  obtain ⟨r, h1, h2, _⟩ := run_findKey_int (P := P) hK hg.int k w
  rw [hm] at h2
  unfold Instr.lookup
  simp only [Sem.run_bind, run_underlying hT, Result.andThen_ok, getObj, Sem.run, hb, Sem.run_pure, run_checkKey_int hK, h1]
  cases r with
  | none => simp [← h2, hz]
  | some e => simp [← h2]
theorem same_members {l m : List Int} (hl : l.Nodup) (hm : m.Nodup) (h : ∀ k ∈ l, k ∈ m) (hn : l.length = m.length) : ∀ k ∈ m, k ∈ l := by
  intro k hk
  by_cases hc : k ∈ l
  · exact hc
  · have := nodup_length_le (k :: l) m (List.nodup_cons.2 ⟨hc, hl⟩) (fun j hj => by
      rcases List.mem_cons.1 hj with rfl | hj
      · exact hk
      · exact h j hj)
    simp only [List.length_cons] at this
    omega
/-- What was written since is the same. -/
noncomputable def sinB (x y : Int → Option (List (List UInt8))) : Bool := @decide (x = y) (Classical.propDecidable _)
theorem sinB_iff {x y : Int → Option (List (List UInt8))} : sinB x y = true ↔ x = y := by unfold sinB; exact @decide_eq_true_iff _ (Classical.propDecidable _)

/-- Of a disk: what was written since, as it lies. -/
theorem since_at {w : World} {F : Nat → Prop} {a : Nat} {d : DM} (h : Disk w F a d) : ∃ (C : Nat) (mc : Int → Option Value), w.cell? ⟨a, 3, none⟩ = some (.map (some C)) ∧ IntMap w C mc ∧
    (∀ k, (mc k = none ∧ d.since k = none) ∨ ∃ v l, mc k = some v ∧ d.since k = some l ∧ OwnK w v l) ∧ ∃ es clk, w.heap[C]? = some (.map es clk) ∧ es.size = (sinceKeys d).length := by
  obtain ⟨C, es, clk, c3, hb, hsz⟩ := since_size h
  obtain ⟨ok, L, S, C', X, mc, hA⟩ := h
  have c3' : w.cell? ⟨a, 3, none⟩ = some (.map (some C')) := cellOf hA.cells rfl
  rw [c3] at c3'
  cases c3'
  refine ⟨C, mc, c3, hA.since, fun k => ?_, es, clk, hb, hsz⟩
  rcases hA.sinceAt.one k with h1 | ⟨v, l, h1, h2, h3, _⟩
  · exact .inl h1
  · exact .inr ⟨v, l, h1, h2, h3⟩

theorem exec_lenmap2 {a : Act} {w : World} {o : Oper} {x : Operand} {b : Nat} {es : Array MapEntry} {clk : Nat} (ho : o.op = .call { callee := .builtin .len, args := #[x], argTypes := #[49] }) (hx : a.eval x = .map (some b)) (hb : w.heap[b]? = some (.map es clk)) : (execOp a.eval o).run Try.prog w = .ok (.value (.int .i64 (es.size : Int))) w := exec_lenmap ho hx hb

set_option maxRecDepth 100000 in
set_option maxHeartbeats 2000000 in
theorem equalFunc_any {w : World} {F1 F2 : Nat → Prop} {a b : Nat} {d d' : DM} (h1 : Disk w F1 a d) (h2 : Disk w F2 b d') (hs1 : d.steps ≤ 100000) (hs2 : d'.steps ≤ 100000) : ∃ C1 C2, w.cell? ⟨a, 3, none⟩ = some (.map (some C1)) ∧ w.cell? ⟨b, 3, none⟩ = some (.map (some C2)) ∧
    Calls Try.prog 38 #[.map (some C1), .map (some C2), .func (.func 39) #[] #[]] w fun e w' => e = .returned (.bool (sinB d.since d'.since)) ∧ Below w.heap.size w w' := by
  have ok1 := h1.1
  have ok2 := h2.1
  obtain ⟨C1, m1, c1, i1, o1, es1, k1, b1, z1⟩ := since_at h1
  obtain ⟨C2, m2, c2, i2, o2, es2, k2, b2, z2⟩ := since_at h2
  refine ⟨C1, C2, c1, c2, ?_⟩
  have hlt1 := i1.lt
  have hlt2 := i2.lt
  have mem1 : ∀ k, k ∈ sinceKeys d ↔ (d.since k).isSome = true := mem_sinceKeys ok1
  have mem2 : ∀ k, k ∈ sinceKeys d' ↔ (d'.since k).isSome = true := mem_sinceKeys ok2
  have nd1 : (sinceKeys d).Nodup := (sinceKeys_strict d).imp (fun h => by omega)
  have nd2 : (sinceKeys d').Nodup := (sinceKeys_strict d').imp (fun h => by omega)
  have Hb1 := Lib.hid b1
  have Hb2 := Lib.hid b2
  by_cases hn : (sinceKeys d).length = (sinceKeys d').length
  · obtain ⟨w0, hrun, hR0, hB0, hsz0⟩ := rng_start (P := Try.prog) (T := 49) i1 Try.underlying49
    have HR0 := Lib.hid (And.intro hR0 (And.intro hB0 (And.intro hsz0 (And.intro hlt1 hlt2))))
    have HO := Lib.hid (And.intro o1 (And.intro o2 (And.intro i2 (And.intro ok1 ok2))))
    have HM := Lib.hid (And.intro mem1 (And.intro mem2 (And.intro nd1 (And.intro nd2 hn))))
    have q1 : ((es1.size : Int) != (es2.size : Int)) = false := by rw [bne_eq_false_iff_eq]; omega
    have q2 : ((es1.size : Int) == (es2.size : Int)) = true := by rw [beq_iff_eq]; omega
    clear hR0 hB0 hsz0 hlt1 hlt2 o1 o2 i1 i2 ok1 ok2 mem1 mem2 nd1 nd2 hn h1 h2 b1 b2 z1 z2 c1 c2
    go_enter Try.func38, Try.ntmps38
    go_wp2_with (first
      | (refine wpList_run rfl (exec_lenmap2 rfl rfl Hb1.out) ?_; clear Hb1)
      | (refine wpList_run rfl (exec_lenmap2 rfl rfl Hb2.out) ?_; clear Hb2))
    go_loopw [7] (fun _ wr => ∃ ks, Rng wr w.heap.size C1 m1 ks ∧ (∀ k ∈ ks, d'.since k = d.since k) ∧ Below w.heap.size w wr) (fun _ wr => rngLeft wr w.heap.size C1)
    case atStart => exact ⟨[], HR0.out.1, by simp, HR0.out.2.1⟩
    case round =>
      obtain ⟨ks, hR, hok, hB⟩ := hrel
      have hsz : w.heap.size < wr.heap.size := hR.lt
      rcases rng_step (P := Try.prog) hR with ⟨hnx, hall⟩ | ⟨k, v, w1, hnx, hv, hk, hR1, hT1, hsz1, hlt, hen⟩
      · have Hfin : Hid (sinB d.since d'.since = true ∧ Below w.heap.size w wr) := by
          refine Lib.hid ⟨sinB_iff.2 (funext fun k => ?_), hB⟩
          obtain ⟨y1, y2, y3, y4, y5⟩ := HM.out
          have hsame : ∀ k, (d.since k).isSome = true → d'.since k = d.since k := fun k hk => by
            rcases HO.out.1 k with ⟨_, e⟩ | ⟨v, l, e, _, _⟩
            · rw [e] at hk; cases hk
            · exact hok k (hall k (by rw [e]; rfl))
          cases h : d.since k with
          | some l => rw [hsame k (by rw [h]; rfl), h]
          | none =>
            cases h' : d'.since k with
            | none => rfl
            | some l' =>
              have hin := same_members y3 y4 (fun j hj => (y2 j).2 (by rw [hsame j ((y1 j).1 hj)]; exact (y1 j).1 hj)) y5 k ((y2 k).2 (by rw [h']; rfl))
              have := (y1 k).1 hin
              rw [h] at this; cases this
        clear hR hok hB hall
        go_wp2
        go_ret
        exact ⟨ret_bool Hfin.out.1.symm, Hfin.out.2⟩
      · have hB1 : Below w.heap.size w w1 := hT1.below hB (fun b hb e => by omega) hB.size
        have hen1 := hen w1 hR1
        obtain ⟨l, hsl, hown⟩ : ∃ l, d.since k = some l ∧ OwnK w v l := by
          rcases HO.out.1 k with ⟨e, _⟩ | ⟨v', l, e, e2, e3⟩
          · rw [e] at hv; cases hv
          · rw [e] at hv; cases hv; exact ⟨l, e2, e3⟩
        have hown1 : OwnK w1 v l := ownsRow_heap hown fun b hb => hB1.block b (hown.lt b hb).2
        have hM : IntMap w1 C2 m2 := HO.out.2.2.1.of_heap (hB1.block _ HR0.out.2.2.2.2)
        have hlk := run_lookup_int2 (P := Try.prog) hM Try.underlying49 Try.underlying3 Try.zeroValue74 k
        rcases HO.out.2.1 k with ⟨e1, e2⟩ | ⟨v2, l2, e1, e2, e3⟩
        · rw [e1] at hlk
          have Hlk := Lib.hid hlk
          have Hfin : Hid (sinB d.since d'.since = false ∧ Below w.heap.size w w1) := Lib.hid ⟨Bool.eq_false_iff.2 fun h => (by
            have := sinB_iff.1 h; rw [this, e2] at hsl; cases hsl), hB1⟩
          clear hlk hM hown1 hown hB1 hen hR1 hT1 hsz1 hlt hk hv hR hok hB e1 e2
          go_wp2_with (refine wpList_run rfl (exec_lookup rfl rfl rfl Hlk.out) ?_; simp only [Act.put, List.setIfInBounds_toArray, List.set_cons_zero, List.set_cons_succ, Option.isSome_none])
          go_ret
          exact ⟨ret_bool Hfin.out.1.symm, Hfin.out.2⟩
        · rw [e1] at hlk
          have hown2 : OwnK w1 v2 l2 := ownsRow_heap e3 fun b hb => hB1.block b (e3.lt b hb).2
          have g1 := HO.out.2.2.2.1.since k l hsl
          have g2 := HO.out.2.2.2.2.since k l2 e2
          have heq := equal_blks v v2 l l2 hown1 hown2 g1.2.2.2.2 g2.2.2.2.2 (by omega) (by omega)
          have Hlk := Lib.hid hlk
          by_cases hc : l = l2
          · rw [decide_eq_true hc] at heq
            have Heq := Lib.hid heq
            have Hf := Lib.hid (And.intro hR1 (And.intro (fun j (hj : j ∈ ks ++ [k]) => (by
              rcases List.mem_append.1 hj with hj | hj
              · exact hok j hj
              · simp only [List.mem_singleton] at hj; subst hj; rw [e2, hsl, hc] : d'.since j = d.since j)) (And.intro hB1 hlt)))
            have Hlt := Lib.hid (And.intro hR1.lt HR0.out.2.2.2.1)
            clear hlk heq hown2 g1 g2 hM hown1 hown hB1 hen hR1 hT1 hsz1 hlt hk hv hR hok hB e1 e2 e3 hc hsl
            go_wp2_with (first
              | (refine wpList_run rfl (exec_lookup rfl rfl rfl Hlk.out) ?_; simp only [Act.put, List.setIfInBounds_toArray, List.set_cons_zero, List.set_cons_succ])
              | (go_at_call 39; refine Heq.out.mono ?_; rintro e w2 ⟨rfl, hb2⟩; have Hb := Lib.hid hb2; clear hb2))
            have hl2 : Touch (fun b => w1.heap.size ≤ b) w1 w2 := Touch.of_below Hb.out (fun b hb hle => hle)
            go_roundw
            case rel => exact ⟨_, Hf.out.1.below Hb.out, Hf.out.2.1, Hf.out.2.2.1.trans (Hb.out.mono Hf.out.2.2.1.size)⟩
            case measure =>
              rw [Hf.out.1.left_touch hl2 (by have := Hlt.out.1; omega) (by have := Hlt.out.2; have := Hf.out.2.2.1.size; omega)]
              exact Hf.out.2.2.2
          · rw [decide_eq_false hc] at heq
            have Heq := Lib.hid heq
            have Hfin : Hid (sinB d.since d'.since = false ∧ Below w.heap.size w w1) := Lib.hid ⟨Bool.eq_false_iff.2 fun h => by
              have := sinB_iff.1 h; rw [this, e2] at hsl; exact hc (Option.some.inj hsl).symm, hB1⟩
            clear hlk heq hown2 g1 g2 hM hown1 hown hB1 hen hR1 hT1 hsz1 hlt hk hv hR hok hB e1 e2 e3 hc hsl
            go_wp2_with (first
              | (refine wpList_run rfl (exec_lookup rfl rfl rfl Hlk.out) ?_; simp only [Act.put, List.setIfInBounds_toArray, List.set_cons_zero, List.set_cons_succ])
              | (go_at_call 39; refine Heq.out.mono ?_; rintro e w2 ⟨rfl, hb2⟩; have Hb := Lib.hid hb2; clear hb2))
            go_ret
            exact ⟨ret_bool Hfin.out.1.symm, Hfin.out.2.trans (Hb.out.mono Hfin.out.2.size)⟩
  · have q1 : ((es1.size : Int) != (es2.size : Int)) = true := by rw [bne_iff_ne]; omega
    have q2 : ((es1.size : Int) == (es2.size : Int)) = false := by rw [beq_eq_false_iff_ne]; omega
    have hne : sinB d.since d'.since = false := Bool.eq_false_iff.2 fun h => by
      have he := sinB_iff.1 h
      exact hn (nodup_same_length nd1 nd2 fun k => by rw [mem1, mem2, he])
    rw [hne]
    clear o1 o2 i1 i2 ok1 ok2 mem1 mem2 nd1 nd2 hn h1 h2 b1 b2 z1 z2 c1 c2 hne
    go_enter Try.func38, Try.ntmps38
    go_wp2_with (first
      | (refine wpList_run rfl (exec_lenmap2 rfl rfl Hb1.out) ?_; clear Hb1)
      | (refine wpList_run rfl (exec_lenmap2 rfl rfl Hb2.out) ?_; clear Hb2))
    go_ret
    exact ⟨rfl, Below.refl _ _⟩
end Go.Proofs.Ytmgajgeoibbmjaa
