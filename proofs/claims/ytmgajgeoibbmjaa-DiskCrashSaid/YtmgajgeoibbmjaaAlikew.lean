/- The law's alike. Printed by gen_alikew.py. -/
import Derived.Test.YtmgajgeoibbmjaaAlike
namespace Go.Proofs.Ytmgajgeoibbmjaa
open Go.RowKit

theorem hasF_iff {d : DM} {F : List Int} (h : ∀ k, (d.fails k).isSome = F.contains k) (k : Int) : hasF F k = true ↔ (d.fails k).isSome = true := by unfold hasF; rw [h]
/-- A step to come that fails on one alone tells two apart. -/
theorem apart_one {d d' : DM} {F F' : List Int} (h1 : ∀ k, (d.fails k).isSome = F.contains k) (h2 : ∀ k, (d'.fails k).isSome = F'.contains k) {u : Int} (hu : u ∈ F) (hge : (d.steps : Int) ≤ u) (hno : hasF F' u = false) : sameB d d' = false := by
  rw [Bool.eq_false_iff]
  intro h
  obtain ⟨_, _, _, hs, hf, _⟩ := sameB_iff.1 h
  have := (hf u).1 ⟨by rw [h1]; simpa using hu, hge⟩
  rw [← hasF_iff h2, hno] at this
  cases this.1
/-- What is known behind the first two loops. -/
theorem come_both {d d' : DM} {F F' : List Int} (h1 : ∀ k, (d.fails k).isSome = F.contains k) (h2 : ∀ k, (d'.fails k).isSome = F'.contains k) (hs : d.steps = d'.steps) (a1 : ∀ u ∈ F, (d.steps : Int) ≤ u → hasF F' u = true) (a2 : ∀ u ∈ F', (d'.steps : Int) ≤ u → hasF F u = true) :
    ∀ k, ((d.fails k).isSome = true ∧ (d.steps : Int) ≤ k) ↔ ((d'.fails k).isSome = true ∧ (d'.steps : Int) ≤ k) := by
  intro k
  constructor
  · rintro ⟨x, y⟩
    rw [h1] at x
    exact ⟨(hasF_iff h2 k).1 (a1 k (by simpa using x) y), by omega⟩
  · rintro ⟨x, y⟩
    rw [h2] at x
    exact ⟨(hasF_iff h1 k).1 (a2 k (by simpa using x) y), by omega⟩

/-- A document's disk that lies in a box, and behind what was made since. -/
theorem ownsX {w : World} {X : Value} {F : List Int} (h : w.ownsRow 0 3 1 X F.length (F.map (.int .i64))) : ∃ a cx, X = .slice a F.length cx ∧ ∀ (j : Nat) (u : Int), F[j]? = some u → ∃ g, a = some ⟨g, 0, none⟩ ∧ w.cell? ⟨g, j, none⟩ = some (.int .i64 u) := by
  have hx := h
  rcases h.2 with ⟨rfl, h0⟩ | ⟨g, cap, cur, rfl, _⟩
  · refine ⟨none, 0, by rw [h0], fun j u hu => ?_⟩
    rw [List.length_eq_zero_iff.1 h0] at hu; simp at hu
  · refine ⟨some ⟨g, 0, none⟩, cap, rfl, fun j u hu => ⟨g, rfl, ?_⟩⟩
    have := hx.cells (g := g) rfl j (.int .i64 u) (by simp [hu])
    rw [addr_add, Nat.zero_add] at this; exact this

theorem exec_lenstr {a : Act} {w : World} {o : Oper} {x : Operand} {p : Option Addr} {n c : Nat} (ho : o.op = .call { callee := .builtin .len, args := #[x], argTypes := #[29] }) (hx : a.eval x = .slice p n c) : (execOp a.eval o).run Try.prog w = .ok (.value (.int .i64 (n : Int))) w := by
  unfold execOp
  simp only [ho, resolve, invoke, builtin, Sem.run_bind, Sem.run_pure, Result.andThen_ok, List.map_toArray, List.map_cons, List.map_nil, hx]
  simp [go_sem]
theorem exec_unot {P : Program} {a : Act} {w : World} {o : Oper} {t : TypeId} {x : Operand} {b : Bool} (ho : o.op = .unOp .not t x) (hx : a.eval x = .bool b) : (execOp a.eval o).run P w = .ok (.value (.bool (!b))) w := by
  unfold execOp; rw [ho]; simp [hx, Op.unary]
/-- Two documents' disks lie in boxes behind w. -/
def TwoRef (w W : World) (c1 c2 : Array Value) : Prop := W.heap[w.heap.size]? = some (.cells c1 33 (0, 0)) ∧ W.heap[w.heap.size + 1]? = some (.cells c2 33 (0, 0)) ∧ Below w.heap.size w W
theorem TwoRef.below {w W W' : World} {c1 c2 : Array Value} (h : TwoRef w W c1 c2) (g : Below W.heap.size W W') : TwoRef w W' c1 c2 :=
  ⟨belowBlk g (Array.getElem?_eq_some_iff.1 h.1).1 h.1, belowBlk g (Array.getElem?_eq_some_iff.1 h.2.1).1 h.2.1, h.2.2.trans (g.mono h.2.2.size)⟩

set_option maxRecDepth 100000 in
set_option maxHeartbeats 8000000 in
theorem alike_any {w : World} {R R' : Nat → Prop} {r s : Nat} {d d' : DM} {F F' : List Int} {X X' : Value} {L cL S cS Q cQ L' cL' S' cS' Q' cQ' : Nat} {qs qs' : List Value} (h : RefAt w R r d F X L cL S cS Q cQ qs) (h' : RefAt w R' s d' F' X' L' cL' S' cS' Q' cQ' qs') (ok : d.Ok) (ok' : d'.Ok) (hn : d.size = d'.size) (hF : F.length ≤ 1000000) (hF' : F'.length ≤ 1000000) (hs : d.steps ≤ 100000) (hs' : d'.steps ≤ 100000) :
    Calls Try.prog 14 #[.agg #[.slice (some ⟨L, 0, none⟩) d.size cL, .slice (some ⟨S, 0, none⟩) d.size cS, .slice (some ⟨Q, 0, none⟩) d.size cQ, X, .int .i64 (d.steps : Int)], .agg #[.slice (some ⟨L', 0, none⟩) d'.size cL', .slice (some ⟨S', 0, none⟩) d'.size cS', .slice (some ⟨Q', 0, none⟩) d'.size cQ', X', .int .i64 (d'.steps : Int)]] w fun e w' => e = .returned (.bool (sameB d d')) ∧ Below w.heap.size w w' := by
  obtain ⟨x, cx, rfl, hX⟩ := ownsX h.fails
  obtain ⟨x', cx', rfl, hX'⟩ := ownsX h'.fails
  generalize hw1 : (w.alloc (.cells #[.slice (some ⟨L, 0, none⟩) d.size cL, .slice (some ⟨S, 0, none⟩) d.size cS, .slice (some ⟨Q, 0, none⟩) d.size cQ, .slice x F.length cx, .int .i64 (d.steps : Int)] 33)).alloc (.cells #[.slice (some ⟨L', 0, none⟩) d'.size cL', .slice (some ⟨S', 0, none⟩) d'.size cS', .slice (some ⟨Q', 0, none⟩) d'.size cQ', .slice x' F'.length cx', .int .i64 (d'.steps : Int)] 33) = w1
  have hb1 : Below w.heap.size w w1 := by rw [← hw1]; exact ((Below.refl _ _).alloc (Nat.le_refl _) _).alloc (by simp) _
  have hA : w1.heap[w.heap.size]? = some (.cells #[.slice (some ⟨L, 0, none⟩) d.size cL, .slice (some ⟨S, 0, none⟩) d.size cS, .slice (some ⟨Q, 0, none⟩) d.size cQ, .slice x F.length cx, .int .i64 (d.steps : Int)] 33 (0, 0)) := by
    rw [← hw1]; simp only [heap_get_alloc, World.size_alloc]; rw [if_neg (by omega), if_pos trivial]
  have hA' : w1.heap[w.heap.size + 1]? = some (.cells #[.slice (some ⟨L', 0, none⟩) d'.size cL', .slice (some ⟨S', 0, none⟩) d'.size cS', .slice (some ⟨Q', 0, none⟩) d'.size cQ', .slice x' F'.length cx', .int .i64 (d'.steps : Int)] 33 (0, 0)) := by
    rw [← hw1]; simp only [heap_get_alloc, World.size_alloc]; rw [if_pos trivial]
  have k4 := cellOf (o := 4) hA rfl
  have k4' := cellOf (o := 4) hA' rfl
  have hT1 : TwoRef w w1 #[.slice (some ⟨L, 0, none⟩) d.size cL, .slice (some ⟨S, 0, none⟩) d.size cS, .slice (some ⟨Q, 0, none⟩) d.size cQ, .slice x F.length cx, .int .i64 (d.steps : Int)] #[.slice (some ⟨L', 0, none⟩) d'.size cL', .slice (some ⟨S', 0, none⟩) d'.size cS', .slice (some ⟨Q', 0, none⟩) d'.size cQ', .slice x' F'.length cx', .int .i64 (d'.steps : Int)] := ⟨hA, hA', hb1⟩
  by_cases hst : d.steps = d'.steps
  · have c1 : ((d.steps : Int) != (d'.steps : Int)) = false := by rw [bne_eq_false_iff_eq]; omega
    have c2 : ((d.steps : Int) == (d'.steps : Int)) = true := by rw [beq_iff_eq]; omega
    have H := Lib.hid (And.intro h (And.intro h' (And.intro ok (And.intro ok' (And.intro hn (And.intro hst (And.intro hX hX')))))))
    have HT1 := Lib.hid hT1
    clear h h' ok ok' hb1 hA hA' hX hX' hT1 hn hst
    subst hw1
    go_enter Try.func14, Try.ntmps14
    go_wp2
    go_loopw [5] (fun i wr => ∃ k : Nat, k ≤ F.length ∧ i = .int .i64 (k : Int) ∧ (∀ u ∈ F.take k, (d.steps : Int) ≤ u → hasF F' u = true) ∧ TwoRef w wr #[.slice (some ⟨L, 0, none⟩) d.size cL, .slice (some ⟨S, 0, none⟩) d.size cS, .slice (some ⟨Q, 0, none⟩) d.size cQ, .slice x F.length cx, .int .i64 (d.steps : Int)] #[.slice (some ⟨L', 0, none⟩) d'.size cL', .slice (some ⟨S', 0, none⟩) d'.size cS', .slice (some ⟨Q', 0, none⟩) d'.size cQ', .slice x' F'.length cx', .int .i64 (d'.steps : Int)]) (fun i _ => F.length - (intOf i).toNat)
    case atStart => exact ⟨0, Nat.zero_le _, rfl, by simp, HT1.out⟩
    case round =>
      obtain ⟨k, hk, rfl, hok, hT⟩ := hrel
      have m3 := cellOf (o := 3) hT.1 rfl
      by_cases hlt : k < F.length
      · have hlt2 : k + 1 ≤ F.length := hlt
        obtain ⟨gx, rfl, hcell⟩ := H.out.2.2.2.2.2.2.1 k F[k] (by simp [hlt])
        have htk : F.take (k + 1) = F.take k ++ [F[k]] := List.take_succ_eq_append_getElem hlt
        have hin : F[k] ∈ F := List.getElem_mem hlt
        generalize F[k] = u at *
        have hix : ∀ W : World, (Instr.indexAt 31 (.slice (some ⟨gx, 0, none⟩) F.length cx) (.int .i64 (k : Int))).run Try.prog W = .ok (.pointer (some ⟨gx, k, none⟩)) W := fun W => by
          have h1 : 0 ≤ (k : Int) := by omega
          simp [go_sem, hlt, addr_add]
        have hf3 : ∀ (y : Nat) (W : World), (Instr.fieldAt 33 (.pointer (some ⟨y, 0, none⟩)) 3).run Try.prog W = .ok (.pointer (some ⟨y, 3, none⟩)) W := by intro y W; simp [go_sem]
        have hf4 : ∀ (y : Nat) (W : World), (Instr.fieldAt 33 (.pointer (some ⟨y, 0, none⟩)) 4).run Try.prog W = .ok (.pointer (some ⟨y, 4, none⟩)) W := by intro y W; simp [go_sem]
        obtain ⟨v1, e1⟩ : ∃ v, decide (u ≥ (d.steps : Int)) = v := ⟨_, rfl⟩
        obtain ⟨v2, e2⟩ : ∃ v, hasF F' u = v := ⟨_, rfl⟩
        have hge : ∀ W : World, (binOp .geq 3 (.int .i64 u) (.int .i64 (d.steps : Int))).run Try.prog W = .ok (.bool v1) W := by
          intro W; rw [← e1]; simp [go_sem]
        have hcom : ∀ W, TwoRef w W #[.slice (some ⟨L, 0, none⟩) d.size cL, .slice (some ⟨S, 0, none⟩) d.size cS, .slice (some ⟨Q, 0, none⟩) d.size cQ, .slice (some ⟨gx, 0, none⟩) F.length cx, .int .i64 (d.steps : Int)] #[.slice (some ⟨L', 0, none⟩) d'.size cL', .slice (some ⟨S', 0, none⟩) d'.size cS', .slice (some ⟨Q', 0, none⟩) d'.size cQ', .slice x' F'.length cx', .int .i64 (d'.steps : Int)] → Calls Try.prog 40 #[.agg #[.slice (some ⟨L', 0, none⟩) d'.size cL', .slice (some ⟨S', 0, none⟩) d'.size cS', .slice (some ⟨Q', 0, none⟩) d'.size cQ', .slice x' F'.length cx', .int .i64 (d'.steps : Int)], .int .i64 u] W fun e w' => e = .returned (.bool v2) ∧ Below W.heap.size W w' := fun W g => by
          rw [← e2]
          exact law_coming _ _ _ _ _ _ _ _ _ x' cx' _ u F' (ownsRow_heap H.out.2.1.fails fun b hb => g.2.2.block b (H.out.2.1.fails.lt b hb).2) hF'
        have hT0 := hT.below ((Below.refl _ _).drew)
        have HP := Lib.hid (And.intro hcell (And.intro htk (And.intro hin (And.intro hix (And.intro hf3 (And.intro hf4 (And.intro hge (And.intro hcom (And.intro hT0 (And.intro e1 (And.intro e2 hok)))))))))))
        clear hcell htk hin hix hf3 hf4 hge hcom hT0 hT e1 e2 hok
        go_wp2
        obtain ⟨hcell, htk, hin, hix, hf3, hf4, hge, hcom, hT0, e1, e2, hok⟩ := HP.out
        refine plain_region_draws (fun W => TwoRef w W #[.slice (some ⟨L, 0, none⟩) d.size cL, .slice (some ⟨S, 0, none⟩) d.size cS, .slice (some ⟨Q, 0, none⟩) d.size cQ, .slice (some ⟨gx, 0, none⟩) F.length cx, .int .i64 (d.steps : Int)] #[.slice (some ⟨L', 0, none⟩) d'.size cL', .slice (some ⟨S', 0, none⟩) d'.size cS', .slice (some ⟨Q', 0, none⟩) d'.size cQ', .slice x' F'.length cx', .int .i64 (d'.steps : Int)]) (by kernel_rfl) hT0 (fun hU0 => ?_)
        cases v1 with
        | false =>
          refine take 0 21 (v := .pointer (some ⟨w.heap.size, 3, none⟩)) rfl rfl (by kernel_rfl) (by kernel_rfl) (by kernel_rfl) rfl (fun W hW => exec_fieldAddr rfl rfl (hf3 _ W)) (by assumption) ?_
          simp only [Act.put, List.setIfInBounds_toArray, List.set_cons_zero, List.set_cons_succ]
          refine take 1 22 (v := .slice (some ⟨gx, 0, none⟩) F.length cx) rfl rfl (by kernel_rfl) (by kernel_rfl) (by kernel_rfl) rfl (fun W hW => exec_load rfl rfl (run_load1 (w := W) Try.underlying31 rfl (cellOf hW.1 rfl))) (by assumption) ?_
          simp only [Act.put, List.setIfInBounds_toArray, List.set_cons_zero, List.set_cons_succ]
          refine take 2 23 (v := .int .i64 (k : Int)) rfl rfl (by kernel_rfl) (by kernel_rfl) (by kernel_rfl) rfl (fun W hW => exec_move rfl rfl) (by assumption) ?_
          simp only [Act.put, List.setIfInBounds_toArray, List.set_cons_zero, List.set_cons_succ]
          refine take 3 24 (v := .pointer (some ⟨gx, k, none⟩)) rfl rfl (by kernel_rfl) (by kernel_rfl) (by kernel_rfl) rfl (fun W hW => exec_indexAddr rfl rfl rfl (hix W)) (by assumption) ?_
          simp only [Act.put, List.setIfInBounds_toArray, List.set_cons_zero, List.set_cons_succ]
          refine take 4 25 (v := .int .i64 u) rfl rfl (by kernel_rfl) (by kernel_rfl) (by kernel_rfl) rfl (fun W hW => exec_load rfl rfl (run_load1 (w := W) Try.underlying3 rfl (belowCell hW.2.2 (ltOf hcell) hcell))) (by assumption) ?_
          simp only [Act.put, List.setIfInBounds_toArray, List.set_cons_zero, List.set_cons_succ]
          refine take 5 26 (v := .pointer (some ⟨w.heap.size, 4, none⟩)) rfl rfl (by kernel_rfl) (by kernel_rfl) (by kernel_rfl) rfl (fun W hW => exec_fieldAddr rfl rfl (hf4 _ W)) (by assumption) ?_
          simp only [Act.put, List.setIfInBounds_toArray, List.set_cons_zero, List.set_cons_succ]
          refine take 6 27 (v := .int .i64 (d.steps : Int)) rfl rfl (by kernel_rfl) (by kernel_rfl) (by kernel_rfl) rfl (fun W hW => exec_load rfl rfl (run_load1 (w := W) Try.underlying3 rfl (cellOf hW.1 rfl))) (by assumption) ?_
          simp only [Act.put, List.setIfInBounds_toArray, List.set_cons_zero, List.set_cons_succ]
          refine take 7 28 (v := .bool false) rfl rfl (by kernel_rfl) (by kernel_rfl) (by kernel_rfl) rfl (fun W hW => exec_bini rfl rfl rfl (hge W)) (by assumption) ?_
          simp only [Act.put, List.setIfInBounds_toArray, List.set_cons_zero, List.set_cons_succ]
          refine take 8 29 (v := .bool false) rfl rfl (by kernel_rfl) (by kernel_rfl) (by kernel_rfl) rfl (fun W hW => exec_move rfl rfl) (by assumption) ?_
          simp only [Act.put, List.setIfInBounds_toArray, List.set_cons_zero, List.set_cons_succ]
          refine takeNot 9 30 rfl rfl (by kernel_rfl) (by kernel_rfl) (by kernel_rfl) rfl (by assumption) ?_
          simp only [Act.put, List.setIfInBounds_toArray, List.set_cons_zero, List.set_cons_succ]
          refine takeNot 10 31 rfl rfl (by kernel_rfl) (by kernel_rfl) (by kernel_rfl) rfl (by assumption) ?_
          simp only [Act.put, List.setIfInBounds_toArray, List.set_cons_zero, List.set_cons_succ]
          refine takeNot 11 32 rfl rfl (by kernel_rfl) (by kernel_rfl) (by kernel_rfl) rfl (by assumption) ?_
          simp only [Act.put, List.setIfInBounds_toArray, List.set_cons_zero, List.set_cons_succ]
          refine takeNot 12 33 rfl rfl (by kernel_rfl) (by kernel_rfl) (by kernel_rfl) rfl (by assumption) ?_
          simp only [Act.put, List.setIfInBounds_toArray, List.set_cons_zero, List.set_cons_succ]
          refine takeNot 13 34 rfl rfl (by kernel_rfl) (by kernel_rfl) (by kernel_rfl) rfl (by assumption) ?_
          simp only [Act.put, List.setIfInBounds_toArray, List.set_cons_zero, List.set_cons_succ]
          refine takeNot 14 35 rfl rfl (by kernel_rfl) (by kernel_rfl) (by kernel_rfl) rfl (by assumption) ?_
          simp only [Act.put, List.setIfInBounds_toArray, List.set_cons_zero, List.set_cons_succ]
          refine onlyNot 15 36 rfl rfl (by kernel_rfl) rfl ?_ (.inr (by assumption))
          simp only [Act.put, List.setIfInBounds_toArray, List.set_cons_zero, List.set_cons_succ]
          refine takeNot 16 37 rfl rfl (by kernel_rfl) (by kernel_rfl) (by kernel_rfl) rfl (by assumption) ?_
          simp only [Act.put, List.setIfInBounds_toArray, List.set_cons_zero, List.set_cons_succ]
          refine take 17 38 (v := .bool false) rfl rfl (by kernel_rfl) (by kernel_rfl) (by kernel_rfl) rfl (fun W hW => rfl) (by assumption) ?_
          simp only [Act.put, List.setIfInBounds_toArray, List.set_cons_zero, List.set_cons_succ]
          refine done (by kernel_rfl) ?_ _
          have hok' : ∀ y ∈ F.take (k + 1), (d.steps : Int) ≤ y → hasF F' y = true := by
            rw [htk]; intro y hy hle
            rcases List.mem_append.1 hy with hy | hy
            · exact hok y hy hle
            · simp only [List.mem_singleton] at hy; subst hy; have := of_decide_eq_false e1; omega
          have HN := Lib.hid (And.intro hok' hU0)
          clear hcell htk hin hix hf3 hf4 hge hcom hT0 e1 e2 hok HP hok' hU0
          go_wp2
          go_roundw
          case rel => exact ⟨k + 1, by omega, by go_num, HN.out.1, HN.out.2⟩
          case measure => simp [intOf]; omega
        | true =>
          cases v2 with
          | true =>
            refine take 0 21 (v := .pointer (some ⟨w.heap.size, 3, none⟩)) rfl rfl (by kernel_rfl) (by kernel_rfl) (by kernel_rfl) rfl (fun W hW => exec_fieldAddr rfl rfl (hf3 _ W)) (by assumption) ?_
            simp only [Act.put, List.setIfInBounds_toArray, List.set_cons_zero, List.set_cons_succ]
            refine take 1 22 (v := .slice (some ⟨gx, 0, none⟩) F.length cx) rfl rfl (by kernel_rfl) (by kernel_rfl) (by kernel_rfl) rfl (fun W hW => exec_load rfl rfl (run_load1 (w := W) Try.underlying31 rfl (cellOf hW.1 rfl))) (by assumption) ?_
            simp only [Act.put, List.setIfInBounds_toArray, List.set_cons_zero, List.set_cons_succ]
            refine take 2 23 (v := .int .i64 (k : Int)) rfl rfl (by kernel_rfl) (by kernel_rfl) (by kernel_rfl) rfl (fun W hW => exec_move rfl rfl) (by assumption) ?_
            simp only [Act.put, List.setIfInBounds_toArray, List.set_cons_zero, List.set_cons_succ]
            refine take 3 24 (v := .pointer (some ⟨gx, k, none⟩)) rfl rfl (by kernel_rfl) (by kernel_rfl) (by kernel_rfl) rfl (fun W hW => exec_indexAddr rfl rfl rfl (hix W)) (by assumption) ?_
            simp only [Act.put, List.setIfInBounds_toArray, List.set_cons_zero, List.set_cons_succ]
            refine take 4 25 (v := .int .i64 u) rfl rfl (by kernel_rfl) (by kernel_rfl) (by kernel_rfl) rfl (fun W hW => exec_load rfl rfl (run_load1 (w := W) Try.underlying3 rfl (belowCell hW.2.2 (ltOf hcell) hcell))) (by assumption) ?_
            simp only [Act.put, List.setIfInBounds_toArray, List.set_cons_zero, List.set_cons_succ]
            refine take 5 26 (v := .pointer (some ⟨w.heap.size, 4, none⟩)) rfl rfl (by kernel_rfl) (by kernel_rfl) (by kernel_rfl) rfl (fun W hW => exec_fieldAddr rfl rfl (hf4 _ W)) (by assumption) ?_
            simp only [Act.put, List.setIfInBounds_toArray, List.set_cons_zero, List.set_cons_succ]
            refine take 6 27 (v := .int .i64 (d.steps : Int)) rfl rfl (by kernel_rfl) (by kernel_rfl) (by kernel_rfl) rfl (fun W hW => exec_load rfl rfl (run_load1 (w := W) Try.underlying3 rfl (cellOf hW.1 rfl))) (by assumption) ?_
            simp only [Act.put, List.setIfInBounds_toArray, List.set_cons_zero, List.set_cons_succ]
            refine take 7 28 (v := .bool true) rfl rfl (by kernel_rfl) (by kernel_rfl) (by kernel_rfl) rfl (fun W hW => exec_bini rfl rfl rfl (hge W)) (by assumption) ?_
            simp only [Act.put, List.setIfInBounds_toArray, List.set_cons_zero, List.set_cons_succ]
            refine take 8 29 (v := .bool true) rfl rfl (by kernel_rfl) (by kernel_rfl) (by kernel_rfl) rfl (fun W hW => exec_move rfl rfl) (by assumption) ?_
            simp only [Act.put, List.setIfInBounds_toArray, List.set_cons_zero, List.set_cons_succ]
            refine take 9 30 (v := .agg #[.slice (some ⟨L', 0, none⟩) d'.size cL', .slice (some ⟨S', 0, none⟩) d'.size cS', .slice (some ⟨Q', 0, none⟩) d'.size cQ', .slice x' F'.length cx', .int .i64 (d'.steps : Int)]) rfl rfl (by kernel_rfl) (by kernel_rfl) (by kernel_rfl) rfl (fun W hW => exec_load rfl rfl (get_ref hW.2.1)) (by assumption) ?_
            simp only [Act.put, List.setIfInBounds_toArray, List.set_cons_zero, List.set_cons_succ]
            refine take 10 31 (v := .pointer (some ⟨w.heap.size, 3, none⟩)) rfl rfl (by kernel_rfl) (by kernel_rfl) (by kernel_rfl) rfl (fun W hW => exec_fieldAddr rfl rfl (hf3 _ W)) (by assumption) ?_
            simp only [Act.put, List.setIfInBounds_toArray, List.set_cons_zero, List.set_cons_succ]
            refine take 11 32 (v := .slice (some ⟨gx, 0, none⟩) F.length cx) rfl rfl (by kernel_rfl) (by kernel_rfl) (by kernel_rfl) rfl (fun W hW => exec_load rfl rfl (run_load1 (w := W) Try.underlying31 rfl (cellOf hW.1 rfl))) (by assumption) ?_
            simp only [Act.put, List.setIfInBounds_toArray, List.set_cons_zero, List.set_cons_succ]
            refine take 12 33 (v := .int .i64 (k : Int)) rfl rfl (by kernel_rfl) (by kernel_rfl) (by kernel_rfl) rfl (fun W hW => exec_move rfl rfl) (by assumption) ?_
            simp only [Act.put, List.setIfInBounds_toArray, List.set_cons_zero, List.set_cons_succ]
            refine take 13 34 (v := .pointer (some ⟨gx, k, none⟩)) rfl rfl (by kernel_rfl) (by kernel_rfl) (by kernel_rfl) rfl (fun W hW => exec_indexAddr rfl rfl rfl (hix W)) (by assumption) ?_
            simp only [Act.put, List.setIfInBounds_toArray, List.set_cons_zero, List.set_cons_succ]
            refine take 14 35 (v := .int .i64 u) rfl rfl (by kernel_rfl) (by kernel_rfl) (by kernel_rfl) rfl (fun W hW => exec_load rfl rfl (run_load1 (w := W) Try.underlying3 rfl (belowCell hW.2.2 (ltOf hcell) hcell))) (by assumption) ?_
            simp only [Act.put, List.setIfInBounds_toArray, List.set_cons_zero, List.set_cons_succ]
            refine onlyCall 15 36 rfl rfl (by kernel_rfl) rfl (exec_call [.agg #[.slice (some ⟨L', 0, none⟩) d'.size cL', .slice (some ⟨S', 0, none⟩) d'.size cS', .slice (some ⟨Q', 0, none⟩) d'.size cQ', .slice x' F'.length cx', .int .i64 (d'.steps : Int)], .int .i64 u] rfl rfl Try.func40 (by kernel_rfl) (by kernel_rfl)) ?_
            refine (hcom _ hU0).mono ?_
            rintro e w3 ⟨rfl, hb3⟩
            have hU1 := hU0.below hb3
            refine ⟨_, rfl, .inr hU1, ?_⟩
            simp only [Act.put, List.setIfInBounds_toArray, List.set_cons_zero, List.set_cons_succ]
            refine take 16 37 (v := .bool false) rfl rfl (by kernel_rfl) (by kernel_rfl) (by kernel_rfl) rfl (fun W hW => exec_unot (b := true) rfl rfl) (by assumption) ?_
            simp only [Act.put, List.setIfInBounds_toArray, List.set_cons_zero, List.set_cons_succ]
            refine take 17 38 (v := .bool false) rfl rfl (by kernel_rfl) (by kernel_rfl) (by kernel_rfl) rfl (fun W hW => rfl) (by assumption) ?_
            simp only [Act.put, List.setIfInBounds_toArray, List.set_cons_zero, List.set_cons_succ]
            refine done (by kernel_rfl) ?_ _
            have hok' : ∀ y ∈ F.take (k + 1), (d.steps : Int) ≤ y → hasF F' y = true := by
              rw [htk]; intro y hy hle
              rcases List.mem_append.1 hy with hy | hy
              · exact hok y hy hle
              · simp only [List.mem_singleton] at hy; subst hy; exact e2
            have HN := Lib.hid (And.intro hok' hU1)
            clear hcell htk hin hix hf3 hf4 hge hcom hT0 e1 e2 hok HP hok' hU0 hU1 hb3
            go_wp2
            go_roundw
            case rel => exact ⟨k + 1, by omega, by go_num, HN.out.1, HN.out.2⟩
            case measure => simp [intOf]; omega
          | false =>
            refine take 0 21 (v := .pointer (some ⟨w.heap.size, 3, none⟩)) rfl rfl (by kernel_rfl) (by kernel_rfl) (by kernel_rfl) rfl (fun W hW => exec_fieldAddr rfl rfl (hf3 _ W)) (by assumption) ?_
            simp only [Act.put, List.setIfInBounds_toArray, List.set_cons_zero, List.set_cons_succ]
            refine take 1 22 (v := .slice (some ⟨gx, 0, none⟩) F.length cx) rfl rfl (by kernel_rfl) (by kernel_rfl) (by kernel_rfl) rfl (fun W hW => exec_load rfl rfl (run_load1 (w := W) Try.underlying31 rfl (cellOf hW.1 rfl))) (by assumption) ?_
            simp only [Act.put, List.setIfInBounds_toArray, List.set_cons_zero, List.set_cons_succ]
            refine take 2 23 (v := .int .i64 (k : Int)) rfl rfl (by kernel_rfl) (by kernel_rfl) (by kernel_rfl) rfl (fun W hW => exec_move rfl rfl) (by assumption) ?_
            simp only [Act.put, List.setIfInBounds_toArray, List.set_cons_zero, List.set_cons_succ]
            refine take 3 24 (v := .pointer (some ⟨gx, k, none⟩)) rfl rfl (by kernel_rfl) (by kernel_rfl) (by kernel_rfl) rfl (fun W hW => exec_indexAddr rfl rfl rfl (hix W)) (by assumption) ?_
            simp only [Act.put, List.setIfInBounds_toArray, List.set_cons_zero, List.set_cons_succ]
            refine take 4 25 (v := .int .i64 u) rfl rfl (by kernel_rfl) (by kernel_rfl) (by kernel_rfl) rfl (fun W hW => exec_load rfl rfl (run_load1 (w := W) Try.underlying3 rfl (belowCell hW.2.2 (ltOf hcell) hcell))) (by assumption) ?_
            simp only [Act.put, List.setIfInBounds_toArray, List.set_cons_zero, List.set_cons_succ]
            refine take 5 26 (v := .pointer (some ⟨w.heap.size, 4, none⟩)) rfl rfl (by kernel_rfl) (by kernel_rfl) (by kernel_rfl) rfl (fun W hW => exec_fieldAddr rfl rfl (hf4 _ W)) (by assumption) ?_
            simp only [Act.put, List.setIfInBounds_toArray, List.set_cons_zero, List.set_cons_succ]
            refine take 6 27 (v := .int .i64 (d.steps : Int)) rfl rfl (by kernel_rfl) (by kernel_rfl) (by kernel_rfl) rfl (fun W hW => exec_load rfl rfl (run_load1 (w := W) Try.underlying3 rfl (cellOf hW.1 rfl))) (by assumption) ?_
            simp only [Act.put, List.setIfInBounds_toArray, List.set_cons_zero, List.set_cons_succ]
            refine take 7 28 (v := .bool true) rfl rfl (by kernel_rfl) (by kernel_rfl) (by kernel_rfl) rfl (fun W hW => exec_bini rfl rfl rfl (hge W)) (by assumption) ?_
            simp only [Act.put, List.setIfInBounds_toArray, List.set_cons_zero, List.set_cons_succ]
            refine take 8 29 (v := .bool true) rfl rfl (by kernel_rfl) (by kernel_rfl) (by kernel_rfl) rfl (fun W hW => exec_move rfl rfl) (by assumption) ?_
            simp only [Act.put, List.setIfInBounds_toArray, List.set_cons_zero, List.set_cons_succ]
            refine take 9 30 (v := .agg #[.slice (some ⟨L', 0, none⟩) d'.size cL', .slice (some ⟨S', 0, none⟩) d'.size cS', .slice (some ⟨Q', 0, none⟩) d'.size cQ', .slice x' F'.length cx', .int .i64 (d'.steps : Int)]) rfl rfl (by kernel_rfl) (by kernel_rfl) (by kernel_rfl) rfl (fun W hW => exec_load rfl rfl (get_ref hW.2.1)) (by assumption) ?_
            simp only [Act.put, List.setIfInBounds_toArray, List.set_cons_zero, List.set_cons_succ]
            refine take 10 31 (v := .pointer (some ⟨w.heap.size, 3, none⟩)) rfl rfl (by kernel_rfl) (by kernel_rfl) (by kernel_rfl) rfl (fun W hW => exec_fieldAddr rfl rfl (hf3 _ W)) (by assumption) ?_
            simp only [Act.put, List.setIfInBounds_toArray, List.set_cons_zero, List.set_cons_succ]
            refine take 11 32 (v := .slice (some ⟨gx, 0, none⟩) F.length cx) rfl rfl (by kernel_rfl) (by kernel_rfl) (by kernel_rfl) rfl (fun W hW => exec_load rfl rfl (run_load1 (w := W) Try.underlying31 rfl (cellOf hW.1 rfl))) (by assumption) ?_
            simp only [Act.put, List.setIfInBounds_toArray, List.set_cons_zero, List.set_cons_succ]
            refine take 12 33 (v := .int .i64 (k : Int)) rfl rfl (by kernel_rfl) (by kernel_rfl) (by kernel_rfl) rfl (fun W hW => exec_move rfl rfl) (by assumption) ?_
            simp only [Act.put, List.setIfInBounds_toArray, List.set_cons_zero, List.set_cons_succ]
            refine take 13 34 (v := .pointer (some ⟨gx, k, none⟩)) rfl rfl (by kernel_rfl) (by kernel_rfl) (by kernel_rfl) rfl (fun W hW => exec_indexAddr rfl rfl rfl (hix W)) (by assumption) ?_
            simp only [Act.put, List.setIfInBounds_toArray, List.set_cons_zero, List.set_cons_succ]
            refine take 14 35 (v := .int .i64 u) rfl rfl (by kernel_rfl) (by kernel_rfl) (by kernel_rfl) rfl (fun W hW => exec_load rfl rfl (run_load1 (w := W) Try.underlying3 rfl (belowCell hW.2.2 (ltOf hcell) hcell))) (by assumption) ?_
            simp only [Act.put, List.setIfInBounds_toArray, List.set_cons_zero, List.set_cons_succ]
            refine onlyCall 15 36 rfl rfl (by kernel_rfl) rfl (exec_call [.agg #[.slice (some ⟨L', 0, none⟩) d'.size cL', .slice (some ⟨S', 0, none⟩) d'.size cS', .slice (some ⟨Q', 0, none⟩) d'.size cQ', .slice x' F'.length cx', .int .i64 (d'.steps : Int)], .int .i64 u] rfl rfl Try.func40 (by kernel_rfl) (by kernel_rfl)) ?_
            refine (hcom _ hU0).mono ?_
            rintro e w3 ⟨rfl, hb3⟩
            have hU1 := hU0.below hb3
            refine ⟨_, rfl, .inr hU1, ?_⟩
            simp only [Act.put, List.setIfInBounds_toArray, List.set_cons_zero, List.set_cons_succ]
            refine take 16 37 (v := .bool true) rfl rfl (by kernel_rfl) (by kernel_rfl) (by kernel_rfl) rfl (fun W hW => exec_unot (b := false) rfl rfl) (by assumption) ?_
            simp only [Act.put, List.setIfInBounds_toArray, List.set_cons_zero, List.set_cons_succ]
            refine take 17 38 (v := .bool true) rfl rfl (by kernel_rfl) (by kernel_rfl) (by kernel_rfl) rfl (fun W hW => rfl) (by assumption) ?_
            simp only [Act.put, List.setIfInBounds_toArray, List.set_cons_zero, List.set_cons_succ]
            refine done (by kernel_rfl) ?_ _
            have hne : sameB d d' = false := apart_one H.out.1.agree H.out.2.1.agree hin (by have := of_decide_eq_true e1; omega) e2
            have HN := Lib.hid (And.intro hne hU1.2.2)
            clear hcell htk hin hix hf3 hf4 hge hcom hT0 e1 e2 hok HP hne hU0 hU1 hb3
            go_wp2
            go_ret
            exact ⟨ret_bool HN.out.1.symm, HN.out.2⟩
      · have hok' : ∀ u ∈ F, (d.steps : Int) ≤ u → hasF F' u = true := by rw [List.take_of_length_le (by omega)] at hok; exact hok
        have H1 := Lib.hid (And.intro hok' hT)
        clear hok hok' hT
        go_wp2
        go_loopw [6] (fun i wr => ∃ k : Nat, k ≤ F'.length ∧ i = .int .i64 (k : Int) ∧ (∀ u ∈ F'.take k, (d'.steps : Int) ≤ u → hasF F u = true) ∧ TwoRef w wr #[.slice (some ⟨L, 0, none⟩) d.size cL, .slice (some ⟨S, 0, none⟩) d.size cS, .slice (some ⟨Q, 0, none⟩) d.size cQ, .slice x F.length cx, .int .i64 (d.steps : Int)] #[.slice (some ⟨L', 0, none⟩) d'.size cL', .slice (some ⟨S', 0, none⟩) d'.size cS', .slice (some ⟨Q', 0, none⟩) d'.size cQ', .slice x' F'.length cx', .int .i64 (d'.steps : Int)]) (fun i _ => F'.length - (intOf i).toNat)
        case atStart => exact ⟨0, Nat.zero_le _, rfl, by simp, H1.out.2⟩
        case round =>
          clear hk
          obtain ⟨k, hk, rfl, hok, hT⟩ := hrel
          have m3 := cellOf (o := 3) hT.2.1 rfl
          by_cases hlt : k < F'.length
          · have hlt2 : k + 1 ≤ F'.length := hlt
            obtain ⟨gx, rfl, hcell⟩ := H.out.2.2.2.2.2.2.2 k F'[k] (by simp [hlt])
            have htk : F'.take (k + 1) = F'.take k ++ [F'[k]] := List.take_succ_eq_append_getElem hlt
            have hin : F'[k] ∈ F' := List.getElem_mem hlt
            generalize F'[k] = u at *
            have hix : ∀ W : World, (Instr.indexAt 31 (.slice (some ⟨gx, 0, none⟩) F'.length cx') (.int .i64 (k : Int))).run Try.prog W = .ok (.pointer (some ⟨gx, k, none⟩)) W := fun W => by
              have h1 : 0 ≤ (k : Int) := by omega
              simp [go_sem, hlt, addr_add]
            have hf3 : ∀ (y : Nat) (W : World), (Instr.fieldAt 33 (.pointer (some ⟨y, 0, none⟩)) 3).run Try.prog W = .ok (.pointer (some ⟨y, 3, none⟩)) W := by intro y W; simp [go_sem]
            have hf4 : ∀ (y : Nat) (W : World), (Instr.fieldAt 33 (.pointer (some ⟨y, 0, none⟩)) 4).run Try.prog W = .ok (.pointer (some ⟨y, 4, none⟩)) W := by intro y W; simp [go_sem]
            obtain ⟨v1, e1⟩ : ∃ v, decide (u ≥ (d'.steps : Int)) = v := ⟨_, rfl⟩
            obtain ⟨v2, e2⟩ : ∃ v, hasF F u = v := ⟨_, rfl⟩
            have hge : ∀ W : World, (binOp .geq 3 (.int .i64 u) (.int .i64 (d'.steps : Int))).run Try.prog W = .ok (.bool v1) W := by
              intro W; rw [← e1]; simp [go_sem]
            have hcom : ∀ W, TwoRef w W #[.slice (some ⟨L, 0, none⟩) d.size cL, .slice (some ⟨S, 0, none⟩) d.size cS, .slice (some ⟨Q, 0, none⟩) d.size cQ, .slice x F.length cx, .int .i64 (d.steps : Int)] #[.slice (some ⟨L', 0, none⟩) d'.size cL', .slice (some ⟨S', 0, none⟩) d'.size cS', .slice (some ⟨Q', 0, none⟩) d'.size cQ', .slice (some ⟨gx, 0, none⟩) F'.length cx', .int .i64 (d'.steps : Int)] → Calls Try.prog 40 #[.agg #[.slice (some ⟨L, 0, none⟩) d.size cL, .slice (some ⟨S, 0, none⟩) d.size cS, .slice (some ⟨Q, 0, none⟩) d.size cQ, .slice x F.length cx, .int .i64 (d.steps : Int)], .int .i64 u] W fun e w' => e = .returned (.bool v2) ∧ Below W.heap.size W w' := fun W g => by
              rw [← e2]
              exact law_coming _ _ _ _ _ _ _ _ _ x cx _ u F (ownsRow_heap H.out.1.fails fun b hb => g.2.2.block b (H.out.1.fails.lt b hb).2) hF
            have hT0 := hT.below ((Below.refl _ _).drew)
            have HP := Lib.hid (And.intro hcell (And.intro htk (And.intro hin (And.intro hix (And.intro hf3 (And.intro hf4 (And.intro hge (And.intro hcom (And.intro hT0 (And.intro e1 (And.intro e2 hok)))))))))))
            clear hcell htk hin hix hf3 hf4 hge hcom hT0 hT e1 e2 hok
            go_wp2
            obtain ⟨hcell, htk, hin, hix, hf3, hf4, hge, hcom, hT0, e1, e2, hok⟩ := HP.out
            refine plain_region_draws (fun W => TwoRef w W #[.slice (some ⟨L, 0, none⟩) d.size cL, .slice (some ⟨S, 0, none⟩) d.size cS, .slice (some ⟨Q, 0, none⟩) d.size cQ, .slice x F.length cx, .int .i64 (d.steps : Int)] #[.slice (some ⟨L', 0, none⟩) d'.size cL', .slice (some ⟨S', 0, none⟩) d'.size cS', .slice (some ⟨Q', 0, none⟩) d'.size cQ', .slice (some ⟨gx, 0, none⟩) F'.length cx', .int .i64 (d'.steps : Int)]) (by kernel_rfl) hT0 (fun hU0 => ?_)
            cases v1 with
            | false =>
              refine take 0 46 (v := .pointer (some ⟨w.heap.size + 1, 3, none⟩)) rfl rfl (by kernel_rfl) (by kernel_rfl) (by kernel_rfl) rfl (fun W hW => exec_fieldAddr rfl rfl (hf3 _ W)) (by assumption) ?_
              simp only [Act.put, List.setIfInBounds_toArray, List.set_cons_zero, List.set_cons_succ]
              refine take 1 47 (v := .slice (some ⟨gx, 0, none⟩) F'.length cx') rfl rfl (by kernel_rfl) (by kernel_rfl) (by kernel_rfl) rfl (fun W hW => exec_load rfl rfl (run_load1 (w := W) Try.underlying31 rfl (cellOf hW.2.1 rfl))) (by assumption) ?_
              simp only [Act.put, List.setIfInBounds_toArray, List.set_cons_zero, List.set_cons_succ]
              refine take 2 48 (v := .int .i64 (k : Int)) rfl rfl (by kernel_rfl) (by kernel_rfl) (by kernel_rfl) rfl (fun W hW => exec_move rfl rfl) (by assumption) ?_
              simp only [Act.put, List.setIfInBounds_toArray, List.set_cons_zero, List.set_cons_succ]
              refine take 3 49 (v := .pointer (some ⟨gx, k, none⟩)) rfl rfl (by kernel_rfl) (by kernel_rfl) (by kernel_rfl) rfl (fun W hW => exec_indexAddr rfl rfl rfl (hix W)) (by assumption) ?_
              simp only [Act.put, List.setIfInBounds_toArray, List.set_cons_zero, List.set_cons_succ]
              refine take 4 50 (v := .int .i64 u) rfl rfl (by kernel_rfl) (by kernel_rfl) (by kernel_rfl) rfl (fun W hW => exec_load rfl rfl (run_load1 (w := W) Try.underlying3 rfl (belowCell hW.2.2 (ltOf hcell) hcell))) (by assumption) ?_
              simp only [Act.put, List.setIfInBounds_toArray, List.set_cons_zero, List.set_cons_succ]
              refine take 5 51 (v := .pointer (some ⟨w.heap.size + 1, 4, none⟩)) rfl rfl (by kernel_rfl) (by kernel_rfl) (by kernel_rfl) rfl (fun W hW => exec_fieldAddr rfl rfl (hf4 _ W)) (by assumption) ?_
              simp only [Act.put, List.setIfInBounds_toArray, List.set_cons_zero, List.set_cons_succ]
              refine take 6 52 (v := .int .i64 (d'.steps : Int)) rfl rfl (by kernel_rfl) (by kernel_rfl) (by kernel_rfl) rfl (fun W hW => exec_load rfl rfl (run_load1 (w := W) Try.underlying3 rfl (cellOf hW.2.1 rfl))) (by assumption) ?_
              simp only [Act.put, List.setIfInBounds_toArray, List.set_cons_zero, List.set_cons_succ]
              refine take 7 53 (v := .bool false) rfl rfl (by kernel_rfl) (by kernel_rfl) (by kernel_rfl) rfl (fun W hW => exec_bini rfl rfl rfl (hge W)) (by assumption) ?_
              simp only [Act.put, List.setIfInBounds_toArray, List.set_cons_zero, List.set_cons_succ]
              refine take 8 54 (v := .bool false) rfl rfl (by kernel_rfl) (by kernel_rfl) (by kernel_rfl) rfl (fun W hW => exec_move rfl rfl) (by assumption) ?_
              simp only [Act.put, List.setIfInBounds_toArray, List.set_cons_zero, List.set_cons_succ]
              refine takeNot 9 55 rfl rfl (by kernel_rfl) (by kernel_rfl) (by kernel_rfl) rfl (by assumption) ?_
              simp only [Act.put, List.setIfInBounds_toArray, List.set_cons_zero, List.set_cons_succ]
              refine takeNot 10 56 rfl rfl (by kernel_rfl) (by kernel_rfl) (by kernel_rfl) rfl (by assumption) ?_
              simp only [Act.put, List.setIfInBounds_toArray, List.set_cons_zero, List.set_cons_succ]
              refine takeNot 11 57 rfl rfl (by kernel_rfl) (by kernel_rfl) (by kernel_rfl) rfl (by assumption) ?_
              simp only [Act.put, List.setIfInBounds_toArray, List.set_cons_zero, List.set_cons_succ]
              refine takeNot 12 58 rfl rfl (by kernel_rfl) (by kernel_rfl) (by kernel_rfl) rfl (by assumption) ?_
              simp only [Act.put, List.setIfInBounds_toArray, List.set_cons_zero, List.set_cons_succ]
              refine takeNot 13 59 rfl rfl (by kernel_rfl) (by kernel_rfl) (by kernel_rfl) rfl (by assumption) ?_
              simp only [Act.put, List.setIfInBounds_toArray, List.set_cons_zero, List.set_cons_succ]
              refine takeNot 14 60 rfl rfl (by kernel_rfl) (by kernel_rfl) (by kernel_rfl) rfl (by assumption) ?_
              simp only [Act.put, List.setIfInBounds_toArray, List.set_cons_zero, List.set_cons_succ]
              refine onlyNot 15 61 rfl rfl (by kernel_rfl) rfl ?_ (.inr (by assumption))
              simp only [Act.put, List.setIfInBounds_toArray, List.set_cons_zero, List.set_cons_succ]
              refine takeNot 16 62 rfl rfl (by kernel_rfl) (by kernel_rfl) (by kernel_rfl) rfl (by assumption) ?_
              simp only [Act.put, List.setIfInBounds_toArray, List.set_cons_zero, List.set_cons_succ]
              refine take 17 63 (v := .bool false) rfl rfl (by kernel_rfl) (by kernel_rfl) (by kernel_rfl) rfl (fun W hW => rfl) (by assumption) ?_
              simp only [Act.put, List.setIfInBounds_toArray, List.set_cons_zero, List.set_cons_succ]
              refine done (by kernel_rfl) ?_ _
              have hok' : ∀ y ∈ F'.take (k + 1), (d'.steps : Int) ≤ y → hasF F y = true := by
                rw [htk]; intro y hy hle
                rcases List.mem_append.1 hy with hy | hy
                · exact hok y hy hle
                · simp only [List.mem_singleton] at hy; subst hy; have := of_decide_eq_false e1; omega
              have HN := Lib.hid (And.intro hok' hU0)
              clear hcell htk hin hix hf3 hf4 hge hcom hT0 e1 e2 hok HP hok' hU0
              go_wp2
              go_roundw
              case rel => exact ⟨k + 1, by omega, by go_num, HN.out.1, HN.out.2⟩
              case measure => simp [intOf]; omega
            | true =>
              cases v2 with
              | true =>
                refine take 0 46 (v := .pointer (some ⟨w.heap.size + 1, 3, none⟩)) rfl rfl (by kernel_rfl) (by kernel_rfl) (by kernel_rfl) rfl (fun W hW => exec_fieldAddr rfl rfl (hf3 _ W)) (by assumption) ?_
                simp only [Act.put, List.setIfInBounds_toArray, List.set_cons_zero, List.set_cons_succ]
                refine take 1 47 (v := .slice (some ⟨gx, 0, none⟩) F'.length cx') rfl rfl (by kernel_rfl) (by kernel_rfl) (by kernel_rfl) rfl (fun W hW => exec_load rfl rfl (run_load1 (w := W) Try.underlying31 rfl (cellOf hW.2.1 rfl))) (by assumption) ?_
                simp only [Act.put, List.setIfInBounds_toArray, List.set_cons_zero, List.set_cons_succ]
                refine take 2 48 (v := .int .i64 (k : Int)) rfl rfl (by kernel_rfl) (by kernel_rfl) (by kernel_rfl) rfl (fun W hW => exec_move rfl rfl) (by assumption) ?_
                simp only [Act.put, List.setIfInBounds_toArray, List.set_cons_zero, List.set_cons_succ]
                refine take 3 49 (v := .pointer (some ⟨gx, k, none⟩)) rfl rfl (by kernel_rfl) (by kernel_rfl) (by kernel_rfl) rfl (fun W hW => exec_indexAddr rfl rfl rfl (hix W)) (by assumption) ?_
                simp only [Act.put, List.setIfInBounds_toArray, List.set_cons_zero, List.set_cons_succ]
                refine take 4 50 (v := .int .i64 u) rfl rfl (by kernel_rfl) (by kernel_rfl) (by kernel_rfl) rfl (fun W hW => exec_load rfl rfl (run_load1 (w := W) Try.underlying3 rfl (belowCell hW.2.2 (ltOf hcell) hcell))) (by assumption) ?_
                simp only [Act.put, List.setIfInBounds_toArray, List.set_cons_zero, List.set_cons_succ]
                refine take 5 51 (v := .pointer (some ⟨w.heap.size + 1, 4, none⟩)) rfl rfl (by kernel_rfl) (by kernel_rfl) (by kernel_rfl) rfl (fun W hW => exec_fieldAddr rfl rfl (hf4 _ W)) (by assumption) ?_
                simp only [Act.put, List.setIfInBounds_toArray, List.set_cons_zero, List.set_cons_succ]
                refine take 6 52 (v := .int .i64 (d'.steps : Int)) rfl rfl (by kernel_rfl) (by kernel_rfl) (by kernel_rfl) rfl (fun W hW => exec_load rfl rfl (run_load1 (w := W) Try.underlying3 rfl (cellOf hW.2.1 rfl))) (by assumption) ?_
                simp only [Act.put, List.setIfInBounds_toArray, List.set_cons_zero, List.set_cons_succ]
                refine take 7 53 (v := .bool true) rfl rfl (by kernel_rfl) (by kernel_rfl) (by kernel_rfl) rfl (fun W hW => exec_bini rfl rfl rfl (hge W)) (by assumption) ?_
                simp only [Act.put, List.setIfInBounds_toArray, List.set_cons_zero, List.set_cons_succ]
                refine take 8 54 (v := .bool true) rfl rfl (by kernel_rfl) (by kernel_rfl) (by kernel_rfl) rfl (fun W hW => exec_move rfl rfl) (by assumption) ?_
                simp only [Act.put, List.setIfInBounds_toArray, List.set_cons_zero, List.set_cons_succ]
                refine take 9 55 (v := .agg #[.slice (some ⟨L, 0, none⟩) d.size cL, .slice (some ⟨S, 0, none⟩) d.size cS, .slice (some ⟨Q, 0, none⟩) d.size cQ, .slice x F.length cx, .int .i64 (d.steps : Int)]) rfl rfl (by kernel_rfl) (by kernel_rfl) (by kernel_rfl) rfl (fun W hW => exec_load rfl rfl (get_ref hW.1)) (by assumption) ?_
                simp only [Act.put, List.setIfInBounds_toArray, List.set_cons_zero, List.set_cons_succ]
                refine take 10 56 (v := .pointer (some ⟨w.heap.size + 1, 3, none⟩)) rfl rfl (by kernel_rfl) (by kernel_rfl) (by kernel_rfl) rfl (fun W hW => exec_fieldAddr rfl rfl (hf3 _ W)) (by assumption) ?_
                simp only [Act.put, List.setIfInBounds_toArray, List.set_cons_zero, List.set_cons_succ]
                refine take 11 57 (v := .slice (some ⟨gx, 0, none⟩) F'.length cx') rfl rfl (by kernel_rfl) (by kernel_rfl) (by kernel_rfl) rfl (fun W hW => exec_load rfl rfl (run_load1 (w := W) Try.underlying31 rfl (cellOf hW.2.1 rfl))) (by assumption) ?_
                simp only [Act.put, List.setIfInBounds_toArray, List.set_cons_zero, List.set_cons_succ]
                refine take 12 58 (v := .int .i64 (k : Int)) rfl rfl (by kernel_rfl) (by kernel_rfl) (by kernel_rfl) rfl (fun W hW => exec_move rfl rfl) (by assumption) ?_
                simp only [Act.put, List.setIfInBounds_toArray, List.set_cons_zero, List.set_cons_succ]
                refine take 13 59 (v := .pointer (some ⟨gx, k, none⟩)) rfl rfl (by kernel_rfl) (by kernel_rfl) (by kernel_rfl) rfl (fun W hW => exec_indexAddr rfl rfl rfl (hix W)) (by assumption) ?_
                simp only [Act.put, List.setIfInBounds_toArray, List.set_cons_zero, List.set_cons_succ]
                refine take 14 60 (v := .int .i64 u) rfl rfl (by kernel_rfl) (by kernel_rfl) (by kernel_rfl) rfl (fun W hW => exec_load rfl rfl (run_load1 (w := W) Try.underlying3 rfl (belowCell hW.2.2 (ltOf hcell) hcell))) (by assumption) ?_
                simp only [Act.put, List.setIfInBounds_toArray, List.set_cons_zero, List.set_cons_succ]
                refine onlyCall 15 61 rfl rfl (by kernel_rfl) rfl (exec_call [.agg #[.slice (some ⟨L, 0, none⟩) d.size cL, .slice (some ⟨S, 0, none⟩) d.size cS, .slice (some ⟨Q, 0, none⟩) d.size cQ, .slice x F.length cx, .int .i64 (d.steps : Int)], .int .i64 u] rfl rfl Try.func40 (by kernel_rfl) (by kernel_rfl)) ?_
                refine (hcom _ hU0).mono ?_
                rintro e w3 ⟨rfl, hb3⟩
                have hU1 := hU0.below hb3
                refine ⟨_, rfl, .inr hU1, ?_⟩
                simp only [Act.put, List.setIfInBounds_toArray, List.set_cons_zero, List.set_cons_succ]
                refine take 16 62 (v := .bool false) rfl rfl (by kernel_rfl) (by kernel_rfl) (by kernel_rfl) rfl (fun W hW => exec_unot (b := true) rfl rfl) (by assumption) ?_
                simp only [Act.put, List.setIfInBounds_toArray, List.set_cons_zero, List.set_cons_succ]
                refine take 17 63 (v := .bool false) rfl rfl (by kernel_rfl) (by kernel_rfl) (by kernel_rfl) rfl (fun W hW => rfl) (by assumption) ?_
                simp only [Act.put, List.setIfInBounds_toArray, List.set_cons_zero, List.set_cons_succ]
                refine done (by kernel_rfl) ?_ _
                have hok' : ∀ y ∈ F'.take (k + 1), (d'.steps : Int) ≤ y → hasF F y = true := by
                  rw [htk]; intro y hy hle
                  rcases List.mem_append.1 hy with hy | hy
                  · exact hok y hy hle
                  · simp only [List.mem_singleton] at hy; subst hy; exact e2
                have HN := Lib.hid (And.intro hok' hU1)
                clear hcell htk hin hix hf3 hf4 hge hcom hT0 e1 e2 hok HP hok' hU0 hU1 hb3
                go_wp2
                go_roundw
                case rel => exact ⟨k + 1, by omega, by go_num, HN.out.1, HN.out.2⟩
                case measure => simp [intOf]; omega
              | false =>
                refine take 0 46 (v := .pointer (some ⟨w.heap.size + 1, 3, none⟩)) rfl rfl (by kernel_rfl) (by kernel_rfl) (by kernel_rfl) rfl (fun W hW => exec_fieldAddr rfl rfl (hf3 _ W)) (by assumption) ?_
                simp only [Act.put, List.setIfInBounds_toArray, List.set_cons_zero, List.set_cons_succ]
                refine take 1 47 (v := .slice (some ⟨gx, 0, none⟩) F'.length cx') rfl rfl (by kernel_rfl) (by kernel_rfl) (by kernel_rfl) rfl (fun W hW => exec_load rfl rfl (run_load1 (w := W) Try.underlying31 rfl (cellOf hW.2.1 rfl))) (by assumption) ?_
                simp only [Act.put, List.setIfInBounds_toArray, List.set_cons_zero, List.set_cons_succ]
                refine take 2 48 (v := .int .i64 (k : Int)) rfl rfl (by kernel_rfl) (by kernel_rfl) (by kernel_rfl) rfl (fun W hW => exec_move rfl rfl) (by assumption) ?_
                simp only [Act.put, List.setIfInBounds_toArray, List.set_cons_zero, List.set_cons_succ]
                refine take 3 49 (v := .pointer (some ⟨gx, k, none⟩)) rfl rfl (by kernel_rfl) (by kernel_rfl) (by kernel_rfl) rfl (fun W hW => exec_indexAddr rfl rfl rfl (hix W)) (by assumption) ?_
                simp only [Act.put, List.setIfInBounds_toArray, List.set_cons_zero, List.set_cons_succ]
                refine take 4 50 (v := .int .i64 u) rfl rfl (by kernel_rfl) (by kernel_rfl) (by kernel_rfl) rfl (fun W hW => exec_load rfl rfl (run_load1 (w := W) Try.underlying3 rfl (belowCell hW.2.2 (ltOf hcell) hcell))) (by assumption) ?_
                simp only [Act.put, List.setIfInBounds_toArray, List.set_cons_zero, List.set_cons_succ]
                refine take 5 51 (v := .pointer (some ⟨w.heap.size + 1, 4, none⟩)) rfl rfl (by kernel_rfl) (by kernel_rfl) (by kernel_rfl) rfl (fun W hW => exec_fieldAddr rfl rfl (hf4 _ W)) (by assumption) ?_
                simp only [Act.put, List.setIfInBounds_toArray, List.set_cons_zero, List.set_cons_succ]
                refine take 6 52 (v := .int .i64 (d'.steps : Int)) rfl rfl (by kernel_rfl) (by kernel_rfl) (by kernel_rfl) rfl (fun W hW => exec_load rfl rfl (run_load1 (w := W) Try.underlying3 rfl (cellOf hW.2.1 rfl))) (by assumption) ?_
                simp only [Act.put, List.setIfInBounds_toArray, List.set_cons_zero, List.set_cons_succ]
                refine take 7 53 (v := .bool true) rfl rfl (by kernel_rfl) (by kernel_rfl) (by kernel_rfl) rfl (fun W hW => exec_bini rfl rfl rfl (hge W)) (by assumption) ?_
                simp only [Act.put, List.setIfInBounds_toArray, List.set_cons_zero, List.set_cons_succ]
                refine take 8 54 (v := .bool true) rfl rfl (by kernel_rfl) (by kernel_rfl) (by kernel_rfl) rfl (fun W hW => exec_move rfl rfl) (by assumption) ?_
                simp only [Act.put, List.setIfInBounds_toArray, List.set_cons_zero, List.set_cons_succ]
                refine take 9 55 (v := .agg #[.slice (some ⟨L, 0, none⟩) d.size cL, .slice (some ⟨S, 0, none⟩) d.size cS, .slice (some ⟨Q, 0, none⟩) d.size cQ, .slice x F.length cx, .int .i64 (d.steps : Int)]) rfl rfl (by kernel_rfl) (by kernel_rfl) (by kernel_rfl) rfl (fun W hW => exec_load rfl rfl (get_ref hW.1)) (by assumption) ?_
                simp only [Act.put, List.setIfInBounds_toArray, List.set_cons_zero, List.set_cons_succ]
                refine take 10 56 (v := .pointer (some ⟨w.heap.size + 1, 3, none⟩)) rfl rfl (by kernel_rfl) (by kernel_rfl) (by kernel_rfl) rfl (fun W hW => exec_fieldAddr rfl rfl (hf3 _ W)) (by assumption) ?_
                simp only [Act.put, List.setIfInBounds_toArray, List.set_cons_zero, List.set_cons_succ]
                refine take 11 57 (v := .slice (some ⟨gx, 0, none⟩) F'.length cx') rfl rfl (by kernel_rfl) (by kernel_rfl) (by kernel_rfl) rfl (fun W hW => exec_load rfl rfl (run_load1 (w := W) Try.underlying31 rfl (cellOf hW.2.1 rfl))) (by assumption) ?_
                simp only [Act.put, List.setIfInBounds_toArray, List.set_cons_zero, List.set_cons_succ]
                refine take 12 58 (v := .int .i64 (k : Int)) rfl rfl (by kernel_rfl) (by kernel_rfl) (by kernel_rfl) rfl (fun W hW => exec_move rfl rfl) (by assumption) ?_
                simp only [Act.put, List.setIfInBounds_toArray, List.set_cons_zero, List.set_cons_succ]
                refine take 13 59 (v := .pointer (some ⟨gx, k, none⟩)) rfl rfl (by kernel_rfl) (by kernel_rfl) (by kernel_rfl) rfl (fun W hW => exec_indexAddr rfl rfl rfl (hix W)) (by assumption) ?_
                simp only [Act.put, List.setIfInBounds_toArray, List.set_cons_zero, List.set_cons_succ]
                refine take 14 60 (v := .int .i64 u) rfl rfl (by kernel_rfl) (by kernel_rfl) (by kernel_rfl) rfl (fun W hW => exec_load rfl rfl (run_load1 (w := W) Try.underlying3 rfl (belowCell hW.2.2 (ltOf hcell) hcell))) (by assumption) ?_
                simp only [Act.put, List.setIfInBounds_toArray, List.set_cons_zero, List.set_cons_succ]
                refine onlyCall 15 61 rfl rfl (by kernel_rfl) rfl (exec_call [.agg #[.slice (some ⟨L, 0, none⟩) d.size cL, .slice (some ⟨S, 0, none⟩) d.size cS, .slice (some ⟨Q, 0, none⟩) d.size cQ, .slice x F.length cx, .int .i64 (d.steps : Int)], .int .i64 u] rfl rfl Try.func40 (by kernel_rfl) (by kernel_rfl)) ?_
                refine (hcom _ hU0).mono ?_
                rintro e w3 ⟨rfl, hb3⟩
                have hU1 := hU0.below hb3
                refine ⟨_, rfl, .inr hU1, ?_⟩
                simp only [Act.put, List.setIfInBounds_toArray, List.set_cons_zero, List.set_cons_succ]
                refine take 16 62 (v := .bool true) rfl rfl (by kernel_rfl) (by kernel_rfl) (by kernel_rfl) rfl (fun W hW => exec_unot (b := false) rfl rfl) (by assumption) ?_
                simp only [Act.put, List.setIfInBounds_toArray, List.set_cons_zero, List.set_cons_succ]
                refine take 17 63 (v := .bool true) rfl rfl (by kernel_rfl) (by kernel_rfl) (by kernel_rfl) rfl (fun W hW => rfl) (by assumption) ?_
                simp only [Act.put, List.setIfInBounds_toArray, List.set_cons_zero, List.set_cons_succ]
                refine done (by kernel_rfl) ?_ _
                have hne : sameB d d' = false := (sameB_symm d d').trans (apart_one H.out.2.1.agree H.out.1.agree hin (by have := of_decide_eq_true e1; omega) e2)
                have HN := Lib.hid (And.intro hne hU1.2.2)
                clear hcell htk hin hix hf3 hf4 hge hcom hT0 e1 e2 hok HP hne hU0 hU1 hb3
                go_wp2
                go_ret
                exact ⟨ret_bool HN.out.1.symm, HN.out.2⟩
          · have hok' : ∀ u ∈ F', (d'.steps : Int) ≤ u → hasF F u = true := by rw [List.take_of_length_le (by omega)] at hok; exact hok
            have H2 := Lib.hid (And.intro (come_both H.out.1.agree H.out.2.1.agree H.out.2.2.2.2.2.1 H1.out.1 hok') hT)
            clear hok hok' hT
            go_wp2
            go_loopw [7] (fun i wr => ∃ k : Nat, k ≤ d.size ∧ i = .int .i64 (k : Int) ∧ (∀ j < k, (d.seen (j : Int)).getD zblk = (d'.seen (j : Int)).getD zblk ∧ (d.lasting (j : Int)).getD zblk = (d'.lasting (j : Int)).getD zblk ∧ (d.since (j : Int)).getD [] = (d'.since (j : Int)).getD []) ∧ TwoRef w wr #[.slice (some ⟨L, 0, none⟩) d.size cL, .slice (some ⟨S, 0, none⟩) d.size cS, .slice (some ⟨Q, 0, none⟩) d.size cQ, .slice x F.length cx, .int .i64 (d.steps : Int)] #[.slice (some ⟨L', 0, none⟩) d'.size cL', .slice (some ⟨S', 0, none⟩) d'.size cS', .slice (some ⟨Q', 0, none⟩) d'.size cQ', .slice x' F'.length cx', .int .i64 (d'.steps : Int)]) (fun i _ => d.size - (intOf i).toNat)
            case atStart => exact ⟨0, Nat.zero_le _, rfl, fun j hj => by omega, H2.out.2⟩
            case round =>
              clear hk m3
              obtain ⟨k, hk, rfl, hok, hT⟩ := hrel
              have m1 := cellOf (o := 1) hT.1 rfl
              by_cases hlt : k < d.size
              · have hlt2 : k + 1 ≤ d.size := hlt
                have hn := H.out.2.2.2.2.1
                obtain ⟨q, hq1, hq2⟩ := H.out.1.at k hlt
                obtain ⟨q', hq1', hq2'⟩ := H.out.2.1.at k (by omega)
                have r1 := (H.out.1.each k q hq1).1
                have r2 := (H.out.2.1.each k q' hq1').1
                have a1 := H.out.1.seenAt k hlt
                have a2 := H.out.1.lastAt k hlt
                have a1' := H.out.2.1.seenAt k (by omega)
                have a2' := H.out.2.1.lastAt k (by omega)
                have shape : ∀ {V : World} {v : Value} {l : List (List UInt8)}, V.ownsRow 0 9 1 v l.length (l.map strV) → ∃ p c, v = .slice p l.length c ∧ ∀ (j : Nat) (u : List UInt8), l[j]? = some u → ∃ g, p = some ⟨g, 0, none⟩ ∧ V.cell? ⟨g, j, none⟩ = some (.string (strB u)) := by
                  intro V v l hr
                  rcases hr.2 with ⟨rfl, h0⟩ | ⟨g, cap, cur, rfl, _⟩
                  · refine ⟨none, 0, by rw [h0], fun j u hu => ?_⟩
                    rw [List.length_eq_zero_iff.1 h0] at hu; simp at hu
                  · refine ⟨some ⟨g, 0, none⟩, cap, rfl, fun j u hu => ⟨g, rfl, ?_⟩⟩
                    have := hr.cells (g := g) rfl j (strV u) (by simp [hu])
                    rw [addr_add, Nat.zero_add] at this; exact this
                obtain ⟨p, c, rfl, hp⟩ := shape r1
                obtain ⟨p', c', rfl, hp'⟩ := shape r2
                have hlt' : k < d'.size := by omega
                have a1 : w.cell? ⟨S, k, none⟩ = some (.string (strB ((d.seen (k : Int)).getD zblk))) := a1
                have a2 : w.cell? ⟨L, k, none⟩ = some (.string (strB ((d.lasting (k : Int)).getD zblk))) := a2
                have a1' : w.cell? ⟨S', k, none⟩ = some (.string (strB ((d'.seen (k : Int)).getD zblk))) := a1'
                have a2' : w.cell? ⟨L', k, none⟩ = some (.string (strB ((d'.lasting (k : Int)).getD zblk))) := a2'
                have hix : ∀ (b c n : Nat), k < n → ∀ W : World, (Instr.indexAt 29 (.slice (some ⟨b, 0, none⟩) n c) (.int .i64 (k : Int))).run Try.prog W = .ok (.pointer (some ⟨b, k, none⟩)) W := fun b c n hn W => by
                  have h1 : 0 ≤ (k : Int) := by omega
                  simp [go_sem, hn, addr_add]
                have hiq : ∀ (b c n : Nat), k < n → ∀ W : World, (Instr.indexAt 30 (.slice (some ⟨b, 0, none⟩) n c) (.int .i64 (k : Int))).run Try.prog W = .ok (.pointer (some ⟨b, k, none⟩)) W := fun b c n hn W => by
                  have h1 : 0 ≤ (k : Int) := by omega
                  simp [go_sem, hn, addr_add]
                have hf0 : ∀ (y : Nat) (W : World), (Instr.fieldAt 33 (.pointer (some ⟨y, 0, none⟩)) 0).run Try.prog W = .ok (.pointer (some ⟨y, 0, none⟩)) W := by intro y W; simp [go_sem]
                have hf1 : ∀ (y : Nat) (W : World), (Instr.fieldAt 33 (.pointer (some ⟨y, 0, none⟩)) 1).run Try.prog W = .ok (.pointer (some ⟨y, 1, none⟩)) W := by intro y W; simp [go_sem]
                have hf2 : ∀ (y : Nat) (W : World), (Instr.fieldAt 33 (.pointer (some ⟨y, 0, none⟩)) 2).run Try.prog W = .ok (.pointer (some ⟨y, 2, none⟩)) W := by intro y W; simp [go_sem]
                obtain ⟨v1, e1⟩ : ∃ v, decide ((d.seen (k : Int)).getD zblk ≠ (d'.seen (k : Int)).getD zblk) = v := ⟨_, rfl⟩
                obtain ⟨v2, e2⟩ : ∃ v, decide ((d.lasting (k : Int)).getD zblk ≠ (d'.lasting (k : Int)).getD zblk) = v := ⟨_, rfl⟩
                obtain ⟨v3, e3⟩ : ∃ v, decide (((d.since (k : Int)).getD []).length ≠ ((d'.since (k : Int)).getD []).length) = v := ⟨_, rfl⟩
                have hn1 : ∀ W, (binOp .neq 9 (.string (strB ((d.seen (k : Int)).getD zblk))) (.string (strB ((d'.seen (k : Int)).getD zblk)))).run Try.prog W = .ok (.bool v1) W := fun W => e1 ▸ run_nes _ _ W
                have hn2 : ∀ W, (binOp .neq 9 (.string (strB ((d.lasting (k : Int)).getD zblk))) (.string (strB ((d'.lasting (k : Int)).getD zblk)))).run Try.prog W = .ok (.bool v2) W := fun W => e2 ▸ run_nes _ _ W
                have hn3 : ∀ W, (binOp .neq 3 (.int .i64 (((d.since (k : Int)).getD []).length : Int)) (.int .i64 (((d'.since (k : Int)).getD []).length : Int))).run Try.prog W = .ok (.bool v3) W := fun W => by
                  have e : ((((d.since (k : Int)).getD []).length : Int) != (((d'.since (k : Int)).getD []).length : Int)) = v3 := by rw [← e3, Bool.eq_iff_iff]; simp; omega
                  simp [go_sem, e]
                have hT0 := hT.below ((Below.refl _ _).drew)
                have HP := Lib.hid (And.intro a1 (And.intro a2 (And.intro a1' (And.intro a2' (And.intro hq2 (And.intro hq2' (And.intro hix (And.intro hiq (And.intro hf0 (And.intro hf1 (And.intro hf2 (And.intro hn1 (And.intro hn2 (And.intro hn3 (And.intro hT0 (And.intro e1 (And.intro e2 (And.intro e3 (And.intro hok (And.intro hp (And.intro hp' hlt')))))))))))))))))))))
                clear a1 a2 a1' a2' hq2 hq2' hq1 hq1' hix hiq hf0 hf1 hf2 hn1 hn2 hn3 hT0 hT e1 e2 e3 hok hp hp' r1 r2 hn hlt'
                clear shape
                go_wp2
                obtain ⟨a1, a2, a1', a2', hq2, hq2', hix, hiq, hf0, hf1, hf2, hn1, hn2, hn3, hT0, e1, e2, e3, hok, hp, hp', hlt'⟩ := HP.out
                refine plain_region_draws (fun W => TwoRef w W #[.slice (some ⟨L, 0, none⟩) d.size cL, .slice (some ⟨S, 0, none⟩) d.size cS, .slice (some ⟨Q, 0, none⟩) d.size cQ, .slice x F.length cx, .int .i64 (d.steps : Int)] #[.slice (some ⟨L', 0, none⟩) d'.size cL', .slice (some ⟨S', 0, none⟩) d'.size cS', .slice (some ⟨Q', 0, none⟩) d'.size cQ', .slice x' F'.length cx', .int .i64 (d'.steps : Int)]) (by kernel_rfl) hT0 (fun hU0 => ?_)
                cases v1 with
                | true =>
                  refine take 0 71 (v := .pointer (some ⟨w.heap.size, 1, none⟩)) rfl rfl (by kernel_rfl) (by kernel_rfl) (by kernel_rfl) rfl (fun W hW => exec_fieldAddr rfl rfl (hf1 _ W)) (by assumption) ?_
                  simp only [Act.put, List.setIfInBounds_toArray, List.set_cons_zero, List.set_cons_succ]
                  refine take 1 72 (v := .slice (some ⟨S, 0, none⟩) d.size cS) rfl rfl (by kernel_rfl) (by kernel_rfl) (by kernel_rfl) rfl (fun W hW => exec_load rfl rfl (run_load1 (w := W) Try.underlying29 rfl (cellOf hW.1 rfl))) (by assumption) ?_
                  simp only [Act.put, List.setIfInBounds_toArray, List.set_cons_zero, List.set_cons_succ]
                  refine take 2 73 (v := .int .i64 (k : Int)) rfl rfl (by kernel_rfl) (by kernel_rfl) (by kernel_rfl) rfl (fun W hW => exec_move rfl rfl) (by assumption) ?_
                  simp only [Act.put, List.setIfInBounds_toArray, List.set_cons_zero, List.set_cons_succ]
                  refine take 3 74 (v := .pointer (some ⟨S, k, none⟩)) rfl rfl (by kernel_rfl) (by kernel_rfl) (by kernel_rfl) rfl (fun W hW => exec_indexAddr rfl rfl rfl (hix _ _ _ hlt W)) (by assumption) ?_
                  simp only [Act.put, List.setIfInBounds_toArray, List.set_cons_zero, List.set_cons_succ]
                  refine take 4 75 (v := .string (strB ((d.seen (k : Int)).getD zblk))) rfl rfl (by kernel_rfl) (by kernel_rfl) (by kernel_rfl) rfl (fun W hW => exec_load rfl rfl (run_load1 (w := W) Try.underlying9 rfl (belowCell hW.2.2 (ltOf a1) a1))) (by assumption) ?_
                  simp only [Act.put, List.setIfInBounds_toArray, List.set_cons_zero, List.set_cons_succ]
                  refine take 5 76 (v := .pointer (some ⟨w.heap.size + 1, 1, none⟩)) rfl rfl (by kernel_rfl) (by kernel_rfl) (by kernel_rfl) rfl (fun W hW => exec_fieldAddr rfl rfl (hf1 _ W)) (by assumption) ?_
                  simp only [Act.put, List.setIfInBounds_toArray, List.set_cons_zero, List.set_cons_succ]
                  refine take 6 77 (v := .slice (some ⟨S', 0, none⟩) d'.size cS') rfl rfl (by kernel_rfl) (by kernel_rfl) (by kernel_rfl) rfl (fun W hW => exec_load rfl rfl (run_load1 (w := W) Try.underlying29 rfl (cellOf hW.2.1 rfl))) (by assumption) ?_
                  simp only [Act.put, List.setIfInBounds_toArray, List.set_cons_zero, List.set_cons_succ]
                  refine take 7 78 (v := .int .i64 (k : Int)) rfl rfl (by kernel_rfl) (by kernel_rfl) (by kernel_rfl) rfl (fun W hW => exec_move rfl rfl) (by assumption) ?_
                  simp only [Act.put, List.setIfInBounds_toArray, List.set_cons_zero, List.set_cons_succ]
                  refine take 8 79 (v := .pointer (some ⟨S', k, none⟩)) rfl rfl (by kernel_rfl) (by kernel_rfl) (by kernel_rfl) rfl (fun W hW => exec_indexAddr rfl rfl rfl (hix _ _ _ hlt' W)) (by assumption) ?_
                  simp only [Act.put, List.setIfInBounds_toArray, List.set_cons_zero, List.set_cons_succ]
                  refine take 9 80 (v := .string (strB ((d'.seen (k : Int)).getD zblk))) rfl rfl (by kernel_rfl) (by kernel_rfl) (by kernel_rfl) rfl (fun W hW => exec_load rfl rfl (run_load1 (w := W) Try.underlying9 rfl (belowCell hW.2.2 (ltOf a1') a1'))) (by assumption) ?_
                  simp only [Act.put, List.setIfInBounds_toArray, List.set_cons_zero, List.set_cons_succ]
                  refine take 10 81 (v := .bool true) rfl rfl (by kernel_rfl) (by kernel_rfl) (by kernel_rfl) rfl (fun W hW => exec_bins rfl rfl rfl (hn1 W)) (by assumption) ?_
                  simp only [Act.put, List.setIfInBounds_toArray, List.set_cons_zero, List.set_cons_succ]
                  refine take 11 82 (v := .bool true) rfl rfl (by kernel_rfl) (by kernel_rfl) (by kernel_rfl) rfl (fun W hW => exec_move rfl rfl) (by assumption) ?_
                  simp only [Act.put, List.setIfInBounds_toArray, List.set_cons_zero, List.set_cons_succ]
                  refine takeNot 12 83 rfl rfl (by kernel_rfl) (by kernel_rfl) (by kernel_rfl) rfl (by assumption) ?_
                  simp only [Act.put, List.setIfInBounds_toArray, List.set_cons_zero, List.set_cons_succ]
                  refine takeNot 13 84 rfl rfl (by kernel_rfl) (by kernel_rfl) (by kernel_rfl) rfl (by assumption) ?_
                  simp only [Act.put, List.setIfInBounds_toArray, List.set_cons_zero, List.set_cons_succ]
                  refine takeNot 14 85 rfl rfl (by kernel_rfl) (by kernel_rfl) (by kernel_rfl) rfl (by assumption) ?_
                  simp only [Act.put, List.setIfInBounds_toArray, List.set_cons_zero, List.set_cons_succ]
                  refine takeNot 15 86 rfl rfl (by kernel_rfl) (by kernel_rfl) (by kernel_rfl) rfl (by assumption) ?_
                  simp only [Act.put, List.setIfInBounds_toArray, List.set_cons_zero, List.set_cons_succ]
                  refine takeNot 16 87 rfl rfl (by kernel_rfl) (by kernel_rfl) (by kernel_rfl) rfl (by assumption) ?_
                  simp only [Act.put, List.setIfInBounds_toArray, List.set_cons_zero, List.set_cons_succ]
                  refine takeNot 17 88 rfl rfl (by kernel_rfl) (by kernel_rfl) (by kernel_rfl) rfl (by assumption) ?_
                  simp only [Act.put, List.setIfInBounds_toArray, List.set_cons_zero, List.set_cons_succ]
                  refine takeNot 18 89 rfl rfl (by kernel_rfl) (by kernel_rfl) (by kernel_rfl) rfl (by assumption) ?_
                  simp only [Act.put, List.setIfInBounds_toArray, List.set_cons_zero, List.set_cons_succ]
                  refine takeNot 19 90 rfl rfl (by kernel_rfl) (by kernel_rfl) (by kernel_rfl) rfl (by assumption) ?_
                  simp only [Act.put, List.setIfInBounds_toArray, List.set_cons_zero, List.set_cons_succ]
                  refine takeNot 20 91 rfl rfl (by kernel_rfl) (by kernel_rfl) (by kernel_rfl) rfl (by assumption) ?_
                  simp only [Act.put, List.setIfInBounds_toArray, List.set_cons_zero, List.set_cons_succ]
                  refine takeNot 21 92 rfl rfl (by kernel_rfl) (by kernel_rfl) (by kernel_rfl) rfl (by assumption) ?_
                  simp only [Act.put, List.setIfInBounds_toArray, List.set_cons_zero, List.set_cons_succ]
                  refine takeNot 22 93 rfl rfl (by kernel_rfl) (by kernel_rfl) (by kernel_rfl) rfl (by assumption) ?_
                  simp only [Act.put, List.setIfInBounds_toArray, List.set_cons_zero, List.set_cons_succ]
                  refine take 23 94 (v := .bool true) rfl rfl (by kernel_rfl) (by kernel_rfl) (by kernel_rfl) rfl (fun W hW => rfl) (by assumption) ?_
                  simp only [Act.put, List.setIfInBounds_toArray, List.set_cons_zero, List.set_cons_succ]
                  refine take 24 95 (v := .bool true) rfl rfl (by kernel_rfl) (by kernel_rfl) (by kernel_rfl) rfl (fun W hW => exec_move rfl rfl) (by assumption) ?_
                  simp only [Act.put, List.setIfInBounds_toArray, List.set_cons_zero, List.set_cons_succ]
                  refine takeNot 25 96 rfl rfl (by kernel_rfl) (by kernel_rfl) (by kernel_rfl) rfl (by assumption) ?_
                  simp only [Act.put, List.setIfInBounds_toArray, List.set_cons_zero, List.set_cons_succ]
                  refine takeNot 26 97 rfl rfl (by kernel_rfl) (by kernel_rfl) (by kernel_rfl) rfl (by assumption) ?_
                  simp only [Act.put, List.setIfInBounds_toArray, List.set_cons_zero, List.set_cons_succ]
                  refine takeNot 27 98 rfl rfl (by kernel_rfl) (by kernel_rfl) (by kernel_rfl) rfl (by assumption) ?_
                  simp only [Act.put, List.setIfInBounds_toArray, List.set_cons_zero, List.set_cons_succ]
                  refine takeNot 28 99 rfl rfl (by kernel_rfl) (by kernel_rfl) (by kernel_rfl) rfl (by assumption) ?_
                  simp only [Act.put, List.setIfInBounds_toArray, List.set_cons_zero, List.set_cons_succ]
                  refine takeNot 29 100 rfl rfl (by kernel_rfl) (by kernel_rfl) (by kernel_rfl) rfl (by assumption) ?_
                  simp only [Act.put, List.setIfInBounds_toArray, List.set_cons_zero, List.set_cons_succ]
                  refine takeNot 30 101 rfl rfl (by kernel_rfl) (by kernel_rfl) (by kernel_rfl) rfl (by assumption) ?_
                  simp only [Act.put, List.setIfInBounds_toArray, List.set_cons_zero, List.set_cons_succ]
                  refine takeNot 31 102 rfl rfl (by kernel_rfl) (by kernel_rfl) (by kernel_rfl) rfl (by assumption) ?_
                  simp only [Act.put, List.setIfInBounds_toArray, List.set_cons_zero, List.set_cons_succ]
                  refine takeNot 32 103 rfl rfl (by kernel_rfl) (by kernel_rfl) (by kernel_rfl) rfl (by assumption) ?_
                  simp only [Act.put, List.setIfInBounds_toArray, List.set_cons_zero, List.set_cons_succ]
                  refine takeNot 33 104 rfl rfl (by kernel_rfl) (by kernel_rfl) (by kernel_rfl) rfl (by assumption) ?_
                  simp only [Act.put, List.setIfInBounds_toArray, List.set_cons_zero, List.set_cons_succ]
                  refine takeNot 34 105 rfl rfl (by kernel_rfl) (by kernel_rfl) (by kernel_rfl) rfl (by assumption) ?_
                  simp only [Act.put, List.setIfInBounds_toArray, List.set_cons_zero, List.set_cons_succ]
                  refine takeNot 35 106 rfl rfl (by kernel_rfl) (by kernel_rfl) (by kernel_rfl) rfl (by assumption) ?_
                  simp only [Act.put, List.setIfInBounds_toArray, List.set_cons_zero, List.set_cons_succ]
                  refine takeNot 36 107 rfl rfl (by kernel_rfl) (by kernel_rfl) (by kernel_rfl) rfl (by assumption) ?_
                  simp only [Act.put, List.setIfInBounds_toArray, List.set_cons_zero, List.set_cons_succ]
                  refine takeNot 37 108 rfl rfl (by kernel_rfl) (by kernel_rfl) (by kernel_rfl) rfl (by assumption) ?_
                  simp only [Act.put, List.setIfInBounds_toArray, List.set_cons_zero, List.set_cons_succ]
                  refine take 38 109 (v := .bool true) rfl rfl (by kernel_rfl) (by kernel_rfl) (by kernel_rfl) rfl (fun W hW => rfl) (by assumption) ?_
                  simp only [Act.put, List.setIfInBounds_toArray, List.set_cons_zero, List.set_cons_succ]
                  refine done (by kernel_rfl) ?_ _
                  have hne : sameB d d' = false := Bool.eq_false_iff.2 fun hh => by
                    have h6 := sameB_iff.1 hh
                    exact of_decide_eq_true e1 (h6.2.1 k)
                  have HN := Lib.hid (And.intro hne hU0.2.2)
                  clear a1 a2 a1' a2' hq2 hq2' hix hiq hf0 hf1 hf2 hn1 hn2 hn3 hT0 e1 e2 e3 hok hp hp' hlt' HP hU0 hne
                  go_wp2
                  go_ret
                  exact ⟨ret_bool HN.out.1.symm, HN.out.2⟩
                | false =>
                  cases v2 with
                  | true =>
                    refine take 0 71 (v := .pointer (some ⟨w.heap.size, 1, none⟩)) rfl rfl (by kernel_rfl) (by kernel_rfl) (by kernel_rfl) rfl (fun W hW => exec_fieldAddr rfl rfl (hf1 _ W)) (by assumption) ?_
                    simp only [Act.put, List.setIfInBounds_toArray, List.set_cons_zero, List.set_cons_succ]
                    refine take 1 72 (v := .slice (some ⟨S, 0, none⟩) d.size cS) rfl rfl (by kernel_rfl) (by kernel_rfl) (by kernel_rfl) rfl (fun W hW => exec_load rfl rfl (run_load1 (w := W) Try.underlying29 rfl (cellOf hW.1 rfl))) (by assumption) ?_
                    simp only [Act.put, List.setIfInBounds_toArray, List.set_cons_zero, List.set_cons_succ]
                    refine take 2 73 (v := .int .i64 (k : Int)) rfl rfl (by kernel_rfl) (by kernel_rfl) (by kernel_rfl) rfl (fun W hW => exec_move rfl rfl) (by assumption) ?_
                    simp only [Act.put, List.setIfInBounds_toArray, List.set_cons_zero, List.set_cons_succ]
                    refine take 3 74 (v := .pointer (some ⟨S, k, none⟩)) rfl rfl (by kernel_rfl) (by kernel_rfl) (by kernel_rfl) rfl (fun W hW => exec_indexAddr rfl rfl rfl (hix _ _ _ hlt W)) (by assumption) ?_
                    simp only [Act.put, List.setIfInBounds_toArray, List.set_cons_zero, List.set_cons_succ]
                    refine take 4 75 (v := .string (strB ((d.seen (k : Int)).getD zblk))) rfl rfl (by kernel_rfl) (by kernel_rfl) (by kernel_rfl) rfl (fun W hW => exec_load rfl rfl (run_load1 (w := W) Try.underlying9 rfl (belowCell hW.2.2 (ltOf a1) a1))) (by assumption) ?_
                    simp only [Act.put, List.setIfInBounds_toArray, List.set_cons_zero, List.set_cons_succ]
                    refine take 5 76 (v := .pointer (some ⟨w.heap.size + 1, 1, none⟩)) rfl rfl (by kernel_rfl) (by kernel_rfl) (by kernel_rfl) rfl (fun W hW => exec_fieldAddr rfl rfl (hf1 _ W)) (by assumption) ?_
                    simp only [Act.put, List.setIfInBounds_toArray, List.set_cons_zero, List.set_cons_succ]
                    refine take 6 77 (v := .slice (some ⟨S', 0, none⟩) d'.size cS') rfl rfl (by kernel_rfl) (by kernel_rfl) (by kernel_rfl) rfl (fun W hW => exec_load rfl rfl (run_load1 (w := W) Try.underlying29 rfl (cellOf hW.2.1 rfl))) (by assumption) ?_
                    simp only [Act.put, List.setIfInBounds_toArray, List.set_cons_zero, List.set_cons_succ]
                    refine take 7 78 (v := .int .i64 (k : Int)) rfl rfl (by kernel_rfl) (by kernel_rfl) (by kernel_rfl) rfl (fun W hW => exec_move rfl rfl) (by assumption) ?_
                    simp only [Act.put, List.setIfInBounds_toArray, List.set_cons_zero, List.set_cons_succ]
                    refine take 8 79 (v := .pointer (some ⟨S', k, none⟩)) rfl rfl (by kernel_rfl) (by kernel_rfl) (by kernel_rfl) rfl (fun W hW => exec_indexAddr rfl rfl rfl (hix _ _ _ hlt' W)) (by assumption) ?_
                    simp only [Act.put, List.setIfInBounds_toArray, List.set_cons_zero, List.set_cons_succ]
                    refine take 9 80 (v := .string (strB ((d'.seen (k : Int)).getD zblk))) rfl rfl (by kernel_rfl) (by kernel_rfl) (by kernel_rfl) rfl (fun W hW => exec_load rfl rfl (run_load1 (w := W) Try.underlying9 rfl (belowCell hW.2.2 (ltOf a1') a1'))) (by assumption) ?_
                    simp only [Act.put, List.setIfInBounds_toArray, List.set_cons_zero, List.set_cons_succ]
                    refine take 10 81 (v := .bool false) rfl rfl (by kernel_rfl) (by kernel_rfl) (by kernel_rfl) rfl (fun W hW => exec_bins rfl rfl rfl (hn1 W)) (by assumption) ?_
                    simp only [Act.put, List.setIfInBounds_toArray, List.set_cons_zero, List.set_cons_succ]
                    refine take 11 82 (v := .bool false) rfl rfl (by kernel_rfl) (by kernel_rfl) (by kernel_rfl) rfl (fun W hW => exec_move rfl rfl) (by assumption) ?_
                    simp only [Act.put, List.setIfInBounds_toArray, List.set_cons_zero, List.set_cons_succ]
                    refine take 12 83 (v := .pointer (some ⟨w.heap.size, 0, none⟩)) rfl rfl (by kernel_rfl) (by kernel_rfl) (by kernel_rfl) rfl (fun W hW => exec_fieldAddr rfl rfl (hf0 _ W)) (by assumption) ?_
                    simp only [Act.put, List.setIfInBounds_toArray, List.set_cons_zero, List.set_cons_succ]
                    refine take 13 84 (v := .slice (some ⟨L, 0, none⟩) d.size cL) rfl rfl (by kernel_rfl) (by kernel_rfl) (by kernel_rfl) rfl (fun W hW => exec_load rfl rfl (run_load1 (w := W) Try.underlying29 rfl (cellOf hW.1 rfl))) (by assumption) ?_
                    simp only [Act.put, List.setIfInBounds_toArray, List.set_cons_zero, List.set_cons_succ]
                    refine take 14 85 (v := .int .i64 (k : Int)) rfl rfl (by kernel_rfl) (by kernel_rfl) (by kernel_rfl) rfl (fun W hW => exec_move rfl rfl) (by assumption) ?_
                    simp only [Act.put, List.setIfInBounds_toArray, List.set_cons_zero, List.set_cons_succ]
                    refine take 15 86 (v := .pointer (some ⟨L, k, none⟩)) rfl rfl (by kernel_rfl) (by kernel_rfl) (by kernel_rfl) rfl (fun W hW => exec_indexAddr rfl rfl rfl (hix _ _ _ hlt W)) (by assumption) ?_
                    simp only [Act.put, List.setIfInBounds_toArray, List.set_cons_zero, List.set_cons_succ]
                    refine take 16 87 (v := .string (strB ((d.lasting (k : Int)).getD zblk))) rfl rfl (by kernel_rfl) (by kernel_rfl) (by kernel_rfl) rfl (fun W hW => exec_load rfl rfl (run_load1 (w := W) Try.underlying9 rfl (belowCell hW.2.2 (ltOf a2) a2))) (by assumption) ?_
                    simp only [Act.put, List.setIfInBounds_toArray, List.set_cons_zero, List.set_cons_succ]
                    refine take 17 88 (v := .pointer (some ⟨w.heap.size + 1, 0, none⟩)) rfl rfl (by kernel_rfl) (by kernel_rfl) (by kernel_rfl) rfl (fun W hW => exec_fieldAddr rfl rfl (hf0 _ W)) (by assumption) ?_
                    simp only [Act.put, List.setIfInBounds_toArray, List.set_cons_zero, List.set_cons_succ]
                    refine take 18 89 (v := .slice (some ⟨L', 0, none⟩) d'.size cL') rfl rfl (by kernel_rfl) (by kernel_rfl) (by kernel_rfl) rfl (fun W hW => exec_load rfl rfl (run_load1 (w := W) Try.underlying29 rfl (cellOf hW.2.1 rfl))) (by assumption) ?_
                    simp only [Act.put, List.setIfInBounds_toArray, List.set_cons_zero, List.set_cons_succ]
                    refine take 19 90 (v := .int .i64 (k : Int)) rfl rfl (by kernel_rfl) (by kernel_rfl) (by kernel_rfl) rfl (fun W hW => exec_move rfl rfl) (by assumption) ?_
                    simp only [Act.put, List.setIfInBounds_toArray, List.set_cons_zero, List.set_cons_succ]
                    refine take 20 91 (v := .pointer (some ⟨L', k, none⟩)) rfl rfl (by kernel_rfl) (by kernel_rfl) (by kernel_rfl) rfl (fun W hW => exec_indexAddr rfl rfl rfl (hix _ _ _ hlt' W)) (by assumption) ?_
                    simp only [Act.put, List.setIfInBounds_toArray, List.set_cons_zero, List.set_cons_succ]
                    refine take 21 92 (v := .string (strB ((d'.lasting (k : Int)).getD zblk))) rfl rfl (by kernel_rfl) (by kernel_rfl) (by kernel_rfl) rfl (fun W hW => exec_load rfl rfl (run_load1 (w := W) Try.underlying9 rfl (belowCell hW.2.2 (ltOf a2') a2'))) (by assumption) ?_
                    simp only [Act.put, List.setIfInBounds_toArray, List.set_cons_zero, List.set_cons_succ]
                    refine take 22 93 (v := .bool true) rfl rfl (by kernel_rfl) (by kernel_rfl) (by kernel_rfl) rfl (fun W hW => exec_bins rfl rfl rfl (hn2 W)) (by assumption) ?_
                    simp only [Act.put, List.setIfInBounds_toArray, List.set_cons_zero, List.set_cons_succ]
                    refine take 23 94 (v := .bool true) rfl rfl (by kernel_rfl) (by kernel_rfl) (by kernel_rfl) rfl (fun W hW => rfl) (by assumption) ?_
                    simp only [Act.put, List.setIfInBounds_toArray, List.set_cons_zero, List.set_cons_succ]
                    refine take 24 95 (v := .bool true) rfl rfl (by kernel_rfl) (by kernel_rfl) (by kernel_rfl) rfl (fun W hW => exec_move rfl rfl) (by assumption) ?_
                    simp only [Act.put, List.setIfInBounds_toArray, List.set_cons_zero, List.set_cons_succ]
                    refine takeNot 25 96 rfl rfl (by kernel_rfl) (by kernel_rfl) (by kernel_rfl) rfl (by assumption) ?_
                    simp only [Act.put, List.setIfInBounds_toArray, List.set_cons_zero, List.set_cons_succ]
                    refine takeNot 26 97 rfl rfl (by kernel_rfl) (by kernel_rfl) (by kernel_rfl) rfl (by assumption) ?_
                    simp only [Act.put, List.setIfInBounds_toArray, List.set_cons_zero, List.set_cons_succ]
                    refine takeNot 27 98 rfl rfl (by kernel_rfl) (by kernel_rfl) (by kernel_rfl) rfl (by assumption) ?_
                    simp only [Act.put, List.setIfInBounds_toArray, List.set_cons_zero, List.set_cons_succ]
                    refine takeNot 28 99 rfl rfl (by kernel_rfl) (by kernel_rfl) (by kernel_rfl) rfl (by assumption) ?_
                    simp only [Act.put, List.setIfInBounds_toArray, List.set_cons_zero, List.set_cons_succ]
                    refine takeNot 29 100 rfl rfl (by kernel_rfl) (by kernel_rfl) (by kernel_rfl) rfl (by assumption) ?_
                    simp only [Act.put, List.setIfInBounds_toArray, List.set_cons_zero, List.set_cons_succ]
                    refine takeNot 30 101 rfl rfl (by kernel_rfl) (by kernel_rfl) (by kernel_rfl) rfl (by assumption) ?_
                    simp only [Act.put, List.setIfInBounds_toArray, List.set_cons_zero, List.set_cons_succ]
                    refine takeNot 31 102 rfl rfl (by kernel_rfl) (by kernel_rfl) (by kernel_rfl) rfl (by assumption) ?_
                    simp only [Act.put, List.setIfInBounds_toArray, List.set_cons_zero, List.set_cons_succ]
                    refine takeNot 32 103 rfl rfl (by kernel_rfl) (by kernel_rfl) (by kernel_rfl) rfl (by assumption) ?_
                    simp only [Act.put, List.setIfInBounds_toArray, List.set_cons_zero, List.set_cons_succ]
                    refine takeNot 33 104 rfl rfl (by kernel_rfl) (by kernel_rfl) (by kernel_rfl) rfl (by assumption) ?_
                    simp only [Act.put, List.setIfInBounds_toArray, List.set_cons_zero, List.set_cons_succ]
                    refine takeNot 34 105 rfl rfl (by kernel_rfl) (by kernel_rfl) (by kernel_rfl) rfl (by assumption) ?_
                    simp only [Act.put, List.setIfInBounds_toArray, List.set_cons_zero, List.set_cons_succ]
                    refine takeNot 35 106 rfl rfl (by kernel_rfl) (by kernel_rfl) (by kernel_rfl) rfl (by assumption) ?_
                    simp only [Act.put, List.setIfInBounds_toArray, List.set_cons_zero, List.set_cons_succ]
                    refine takeNot 36 107 rfl rfl (by kernel_rfl) (by kernel_rfl) (by kernel_rfl) rfl (by assumption) ?_
                    simp only [Act.put, List.setIfInBounds_toArray, List.set_cons_zero, List.set_cons_succ]
                    refine takeNot 37 108 rfl rfl (by kernel_rfl) (by kernel_rfl) (by kernel_rfl) rfl (by assumption) ?_
                    simp only [Act.put, List.setIfInBounds_toArray, List.set_cons_zero, List.set_cons_succ]
                    refine take 38 109 (v := .bool true) rfl rfl (by kernel_rfl) (by kernel_rfl) (by kernel_rfl) rfl (fun W hW => rfl) (by assumption) ?_
                    simp only [Act.put, List.setIfInBounds_toArray, List.set_cons_zero, List.set_cons_succ]
                    refine done (by kernel_rfl) ?_ _
                    have hne : sameB d d' = false := Bool.eq_false_iff.2 fun hh => by
                      have h6 := sameB_iff.1 hh
                      exact of_decide_eq_true e2 (h6.1 k)
                    have HN := Lib.hid (And.intro hne hU0.2.2)
                    clear a1 a2 a1' a2' hq2 hq2' hix hiq hf0 hf1 hf2 hn1 hn2 hn3 hT0 e1 e2 e3 hok hp hp' hlt' HP hU0 hne
                    go_wp2
                    go_ret
                    exact ⟨ret_bool HN.out.1.symm, HN.out.2⟩
                  | false =>
                    cases v3 with
                    | true =>
                      refine take 0 71 (v := .pointer (some ⟨w.heap.size, 1, none⟩)) rfl rfl (by kernel_rfl) (by kernel_rfl) (by kernel_rfl) rfl (fun W hW => exec_fieldAddr rfl rfl (hf1 _ W)) (by assumption) ?_
                      simp only [Act.put, List.setIfInBounds_toArray, List.set_cons_zero, List.set_cons_succ]
                      refine take 1 72 (v := .slice (some ⟨S, 0, none⟩) d.size cS) rfl rfl (by kernel_rfl) (by kernel_rfl) (by kernel_rfl) rfl (fun W hW => exec_load rfl rfl (run_load1 (w := W) Try.underlying29 rfl (cellOf hW.1 rfl))) (by assumption) ?_
                      simp only [Act.put, List.setIfInBounds_toArray, List.set_cons_zero, List.set_cons_succ]
                      refine take 2 73 (v := .int .i64 (k : Int)) rfl rfl (by kernel_rfl) (by kernel_rfl) (by kernel_rfl) rfl (fun W hW => exec_move rfl rfl) (by assumption) ?_
                      simp only [Act.put, List.setIfInBounds_toArray, List.set_cons_zero, List.set_cons_succ]
                      refine take 3 74 (v := .pointer (some ⟨S, k, none⟩)) rfl rfl (by kernel_rfl) (by kernel_rfl) (by kernel_rfl) rfl (fun W hW => exec_indexAddr rfl rfl rfl (hix _ _ _ hlt W)) (by assumption) ?_
                      simp only [Act.put, List.setIfInBounds_toArray, List.set_cons_zero, List.set_cons_succ]
                      refine take 4 75 (v := .string (strB ((d.seen (k : Int)).getD zblk))) rfl rfl (by kernel_rfl) (by kernel_rfl) (by kernel_rfl) rfl (fun W hW => exec_load rfl rfl (run_load1 (w := W) Try.underlying9 rfl (belowCell hW.2.2 (ltOf a1) a1))) (by assumption) ?_
                      simp only [Act.put, List.setIfInBounds_toArray, List.set_cons_zero, List.set_cons_succ]
                      refine take 5 76 (v := .pointer (some ⟨w.heap.size + 1, 1, none⟩)) rfl rfl (by kernel_rfl) (by kernel_rfl) (by kernel_rfl) rfl (fun W hW => exec_fieldAddr rfl rfl (hf1 _ W)) (by assumption) ?_
                      simp only [Act.put, List.setIfInBounds_toArray, List.set_cons_zero, List.set_cons_succ]
                      refine take 6 77 (v := .slice (some ⟨S', 0, none⟩) d'.size cS') rfl rfl (by kernel_rfl) (by kernel_rfl) (by kernel_rfl) rfl (fun W hW => exec_load rfl rfl (run_load1 (w := W) Try.underlying29 rfl (cellOf hW.2.1 rfl))) (by assumption) ?_
                      simp only [Act.put, List.setIfInBounds_toArray, List.set_cons_zero, List.set_cons_succ]
                      refine take 7 78 (v := .int .i64 (k : Int)) rfl rfl (by kernel_rfl) (by kernel_rfl) (by kernel_rfl) rfl (fun W hW => exec_move rfl rfl) (by assumption) ?_
                      simp only [Act.put, List.setIfInBounds_toArray, List.set_cons_zero, List.set_cons_succ]
                      refine take 8 79 (v := .pointer (some ⟨S', k, none⟩)) rfl rfl (by kernel_rfl) (by kernel_rfl) (by kernel_rfl) rfl (fun W hW => exec_indexAddr rfl rfl rfl (hix _ _ _ hlt' W)) (by assumption) ?_
                      simp only [Act.put, List.setIfInBounds_toArray, List.set_cons_zero, List.set_cons_succ]
                      refine take 9 80 (v := .string (strB ((d'.seen (k : Int)).getD zblk))) rfl rfl (by kernel_rfl) (by kernel_rfl) (by kernel_rfl) rfl (fun W hW => exec_load rfl rfl (run_load1 (w := W) Try.underlying9 rfl (belowCell hW.2.2 (ltOf a1') a1'))) (by assumption) ?_
                      simp only [Act.put, List.setIfInBounds_toArray, List.set_cons_zero, List.set_cons_succ]
                      refine take 10 81 (v := .bool false) rfl rfl (by kernel_rfl) (by kernel_rfl) (by kernel_rfl) rfl (fun W hW => exec_bins rfl rfl rfl (hn1 W)) (by assumption) ?_
                      simp only [Act.put, List.setIfInBounds_toArray, List.set_cons_zero, List.set_cons_succ]
                      refine take 11 82 (v := .bool false) rfl rfl (by kernel_rfl) (by kernel_rfl) (by kernel_rfl) rfl (fun W hW => exec_move rfl rfl) (by assumption) ?_
                      simp only [Act.put, List.setIfInBounds_toArray, List.set_cons_zero, List.set_cons_succ]
                      refine take 12 83 (v := .pointer (some ⟨w.heap.size, 0, none⟩)) rfl rfl (by kernel_rfl) (by kernel_rfl) (by kernel_rfl) rfl (fun W hW => exec_fieldAddr rfl rfl (hf0 _ W)) (by assumption) ?_
                      simp only [Act.put, List.setIfInBounds_toArray, List.set_cons_zero, List.set_cons_succ]
                      refine take 13 84 (v := .slice (some ⟨L, 0, none⟩) d.size cL) rfl rfl (by kernel_rfl) (by kernel_rfl) (by kernel_rfl) rfl (fun W hW => exec_load rfl rfl (run_load1 (w := W) Try.underlying29 rfl (cellOf hW.1 rfl))) (by assumption) ?_
                      simp only [Act.put, List.setIfInBounds_toArray, List.set_cons_zero, List.set_cons_succ]
                      refine take 14 85 (v := .int .i64 (k : Int)) rfl rfl (by kernel_rfl) (by kernel_rfl) (by kernel_rfl) rfl (fun W hW => exec_move rfl rfl) (by assumption) ?_
                      simp only [Act.put, List.setIfInBounds_toArray, List.set_cons_zero, List.set_cons_succ]
                      refine take 15 86 (v := .pointer (some ⟨L, k, none⟩)) rfl rfl (by kernel_rfl) (by kernel_rfl) (by kernel_rfl) rfl (fun W hW => exec_indexAddr rfl rfl rfl (hix _ _ _ hlt W)) (by assumption) ?_
                      simp only [Act.put, List.setIfInBounds_toArray, List.set_cons_zero, List.set_cons_succ]
                      refine take 16 87 (v := .string (strB ((d.lasting (k : Int)).getD zblk))) rfl rfl (by kernel_rfl) (by kernel_rfl) (by kernel_rfl) rfl (fun W hW => exec_load rfl rfl (run_load1 (w := W) Try.underlying9 rfl (belowCell hW.2.2 (ltOf a2) a2))) (by assumption) ?_
                      simp only [Act.put, List.setIfInBounds_toArray, List.set_cons_zero, List.set_cons_succ]
                      refine take 17 88 (v := .pointer (some ⟨w.heap.size + 1, 0, none⟩)) rfl rfl (by kernel_rfl) (by kernel_rfl) (by kernel_rfl) rfl (fun W hW => exec_fieldAddr rfl rfl (hf0 _ W)) (by assumption) ?_
                      simp only [Act.put, List.setIfInBounds_toArray, List.set_cons_zero, List.set_cons_succ]
                      refine take 18 89 (v := .slice (some ⟨L', 0, none⟩) d'.size cL') rfl rfl (by kernel_rfl) (by kernel_rfl) (by kernel_rfl) rfl (fun W hW => exec_load rfl rfl (run_load1 (w := W) Try.underlying29 rfl (cellOf hW.2.1 rfl))) (by assumption) ?_
                      simp only [Act.put, List.setIfInBounds_toArray, List.set_cons_zero, List.set_cons_succ]
                      refine take 19 90 (v := .int .i64 (k : Int)) rfl rfl (by kernel_rfl) (by kernel_rfl) (by kernel_rfl) rfl (fun W hW => exec_move rfl rfl) (by assumption) ?_
                      simp only [Act.put, List.setIfInBounds_toArray, List.set_cons_zero, List.set_cons_succ]
                      refine take 20 91 (v := .pointer (some ⟨L', k, none⟩)) rfl rfl (by kernel_rfl) (by kernel_rfl) (by kernel_rfl) rfl (fun W hW => exec_indexAddr rfl rfl rfl (hix _ _ _ hlt' W)) (by assumption) ?_
                      simp only [Act.put, List.setIfInBounds_toArray, List.set_cons_zero, List.set_cons_succ]
                      refine take 21 92 (v := .string (strB ((d'.lasting (k : Int)).getD zblk))) rfl rfl (by kernel_rfl) (by kernel_rfl) (by kernel_rfl) rfl (fun W hW => exec_load rfl rfl (run_load1 (w := W) Try.underlying9 rfl (belowCell hW.2.2 (ltOf a2') a2'))) (by assumption) ?_
                      simp only [Act.put, List.setIfInBounds_toArray, List.set_cons_zero, List.set_cons_succ]
                      refine take 22 93 (v := .bool false) rfl rfl (by kernel_rfl) (by kernel_rfl) (by kernel_rfl) rfl (fun W hW => exec_bins rfl rfl rfl (hn2 W)) (by assumption) ?_
                      simp only [Act.put, List.setIfInBounds_toArray, List.set_cons_zero, List.set_cons_succ]
                      refine take 23 94 (v := .bool false) rfl rfl (by kernel_rfl) (by kernel_rfl) (by kernel_rfl) rfl (fun W hW => rfl) (by assumption) ?_
                      simp only [Act.put, List.setIfInBounds_toArray, List.set_cons_zero, List.set_cons_succ]
                      refine take 24 95 (v := .bool false) rfl rfl (by kernel_rfl) (by kernel_rfl) (by kernel_rfl) rfl (fun W hW => exec_move rfl rfl) (by assumption) ?_
                      simp only [Act.put, List.setIfInBounds_toArray, List.set_cons_zero, List.set_cons_succ]
                      refine take 25 96 (v := .pointer (some ⟨w.heap.size, 2, none⟩)) rfl rfl (by kernel_rfl) (by kernel_rfl) (by kernel_rfl) rfl (fun W hW => exec_fieldAddr rfl rfl (hf2 _ W)) (by assumption) ?_
                      simp only [Act.put, List.setIfInBounds_toArray, List.set_cons_zero, List.set_cons_succ]
                      refine take 26 97 (v := .slice (some ⟨Q, 0, none⟩) d.size cQ) rfl rfl (by kernel_rfl) (by kernel_rfl) (by kernel_rfl) rfl (fun W hW => exec_load rfl rfl (run_load1 (w := W) Try.underlying30 rfl (cellOf hW.1 rfl))) (by assumption) ?_
                      simp only [Act.put, List.setIfInBounds_toArray, List.set_cons_zero, List.set_cons_succ]
                      refine take 27 98 (v := .int .i64 (k : Int)) rfl rfl (by kernel_rfl) (by kernel_rfl) (by kernel_rfl) rfl (fun W hW => exec_move rfl rfl) (by assumption) ?_
                      simp only [Act.put, List.setIfInBounds_toArray, List.set_cons_zero, List.set_cons_succ]
                      refine take 28 99 (v := .pointer (some ⟨Q, k, none⟩)) rfl rfl (by kernel_rfl) (by kernel_rfl) (by kernel_rfl) rfl (fun W hW => exec_indexAddr rfl rfl rfl (hiq _ _ _ hlt W)) (by assumption) ?_
                      simp only [Act.put, List.setIfInBounds_toArray, List.set_cons_zero, List.set_cons_succ]
                      refine take 29 100 (v := .slice p ((d.since (k : Int)).getD []).length c) rfl rfl (by kernel_rfl) (by kernel_rfl) (by kernel_rfl) rfl (fun W hW => exec_load rfl rfl (run_load1 (w := W) Try.underlying29 rfl (belowCell hW.2.2 (ltOf hq2) hq2))) (by assumption) ?_
                      simp only [Act.put, List.setIfInBounds_toArray, List.set_cons_zero, List.set_cons_succ]
                      refine take 30 101 (v := .int .i64 (((d.since (k : Int)).getD []).length : Int)) rfl rfl (by kernel_rfl) (by kernel_rfl) (by kernel_rfl) rfl (fun W hW => exec_lenstr rfl rfl) (by assumption) ?_
                      simp only [Act.put, List.setIfInBounds_toArray, List.set_cons_zero, List.set_cons_succ]
                      refine take 31 102 (v := .pointer (some ⟨w.heap.size + 1, 2, none⟩)) rfl rfl (by kernel_rfl) (by kernel_rfl) (by kernel_rfl) rfl (fun W hW => exec_fieldAddr rfl rfl (hf2 _ W)) (by assumption) ?_
                      simp only [Act.put, List.setIfInBounds_toArray, List.set_cons_zero, List.set_cons_succ]
                      refine take 32 103 (v := .slice (some ⟨Q', 0, none⟩) d'.size cQ') rfl rfl (by kernel_rfl) (by kernel_rfl) (by kernel_rfl) rfl (fun W hW => exec_load rfl rfl (run_load1 (w := W) Try.underlying30 rfl (cellOf hW.2.1 rfl))) (by assumption) ?_
                      simp only [Act.put, List.setIfInBounds_toArray, List.set_cons_zero, List.set_cons_succ]
                      refine take 33 104 (v := .int .i64 (k : Int)) rfl rfl (by kernel_rfl) (by kernel_rfl) (by kernel_rfl) rfl (fun W hW => exec_move rfl rfl) (by assumption) ?_
                      simp only [Act.put, List.setIfInBounds_toArray, List.set_cons_zero, List.set_cons_succ]
                      refine take 34 105 (v := .pointer (some ⟨Q', k, none⟩)) rfl rfl (by kernel_rfl) (by kernel_rfl) (by kernel_rfl) rfl (fun W hW => exec_indexAddr rfl rfl rfl (hiq _ _ _ hlt' W)) (by assumption) ?_
                      simp only [Act.put, List.setIfInBounds_toArray, List.set_cons_zero, List.set_cons_succ]
                      refine take 35 106 (v := .slice p' ((d'.since (k : Int)).getD []).length c') rfl rfl (by kernel_rfl) (by kernel_rfl) (by kernel_rfl) rfl (fun W hW => exec_load rfl rfl (run_load1 (w := W) Try.underlying29 rfl (belowCell hW.2.2 (ltOf hq2') hq2'))) (by assumption) ?_
                      simp only [Act.put, List.setIfInBounds_toArray, List.set_cons_zero, List.set_cons_succ]
                      refine take 36 107 (v := .int .i64 (((d'.since (k : Int)).getD []).length : Int)) rfl rfl (by kernel_rfl) (by kernel_rfl) (by kernel_rfl) rfl (fun W hW => exec_lenstr rfl rfl) (by assumption) ?_
                      simp only [Act.put, List.setIfInBounds_toArray, List.set_cons_zero, List.set_cons_succ]
                      refine take 37 108 (v := .bool true) rfl rfl (by kernel_rfl) (by kernel_rfl) (by kernel_rfl) rfl (fun W hW => exec_bini rfl rfl rfl (hn3 W)) (by assumption) ?_
                      simp only [Act.put, List.setIfInBounds_toArray, List.set_cons_zero, List.set_cons_succ]
                      refine take 38 109 (v := .bool true) rfl rfl (by kernel_rfl) (by kernel_rfl) (by kernel_rfl) rfl (fun W hW => rfl) (by assumption) ?_
                      simp only [Act.put, List.setIfInBounds_toArray, List.set_cons_zero, List.set_cons_succ]
                      refine done (by kernel_rfl) ?_ _
                      have hne : sameB d d' = false := Bool.eq_false_iff.2 fun hh => by
                        have h6 := sameB_iff.1 hh
                        exact of_decide_eq_true e3 (by rw [h6.2.2.2.2.2])
                      have HN := Lib.hid (And.intro hne hU0.2.2)
                      clear a1 a2 a1' a2' hq2 hq2' hix hiq hf0 hf1 hf2 hn1 hn2 hn3 hT0 e1 e2 e3 hok hp hp' hlt' HP hU0 hne
                      go_wp2
                      go_ret
                      exact ⟨ret_bool HN.out.1.symm, HN.out.2⟩
                    | false =>
                      refine take 0 71 (v := .pointer (some ⟨w.heap.size, 1, none⟩)) rfl rfl (by kernel_rfl) (by kernel_rfl) (by kernel_rfl) rfl (fun W hW => exec_fieldAddr rfl rfl (hf1 _ W)) (by assumption) ?_
                      simp only [Act.put, List.setIfInBounds_toArray, List.set_cons_zero, List.set_cons_succ]
                      refine take 1 72 (v := .slice (some ⟨S, 0, none⟩) d.size cS) rfl rfl (by kernel_rfl) (by kernel_rfl) (by kernel_rfl) rfl (fun W hW => exec_load rfl rfl (run_load1 (w := W) Try.underlying29 rfl (cellOf hW.1 rfl))) (by assumption) ?_
                      simp only [Act.put, List.setIfInBounds_toArray, List.set_cons_zero, List.set_cons_succ]
                      refine take 2 73 (v := .int .i64 (k : Int)) rfl rfl (by kernel_rfl) (by kernel_rfl) (by kernel_rfl) rfl (fun W hW => exec_move rfl rfl) (by assumption) ?_
                      simp only [Act.put, List.setIfInBounds_toArray, List.set_cons_zero, List.set_cons_succ]
                      refine take 3 74 (v := .pointer (some ⟨S, k, none⟩)) rfl rfl (by kernel_rfl) (by kernel_rfl) (by kernel_rfl) rfl (fun W hW => exec_indexAddr rfl rfl rfl (hix _ _ _ hlt W)) (by assumption) ?_
                      simp only [Act.put, List.setIfInBounds_toArray, List.set_cons_zero, List.set_cons_succ]
                      refine take 4 75 (v := .string (strB ((d.seen (k : Int)).getD zblk))) rfl rfl (by kernel_rfl) (by kernel_rfl) (by kernel_rfl) rfl (fun W hW => exec_load rfl rfl (run_load1 (w := W) Try.underlying9 rfl (belowCell hW.2.2 (ltOf a1) a1))) (by assumption) ?_
                      simp only [Act.put, List.setIfInBounds_toArray, List.set_cons_zero, List.set_cons_succ]
                      refine take 5 76 (v := .pointer (some ⟨w.heap.size + 1, 1, none⟩)) rfl rfl (by kernel_rfl) (by kernel_rfl) (by kernel_rfl) rfl (fun W hW => exec_fieldAddr rfl rfl (hf1 _ W)) (by assumption) ?_
                      simp only [Act.put, List.setIfInBounds_toArray, List.set_cons_zero, List.set_cons_succ]
                      refine take 6 77 (v := .slice (some ⟨S', 0, none⟩) d'.size cS') rfl rfl (by kernel_rfl) (by kernel_rfl) (by kernel_rfl) rfl (fun W hW => exec_load rfl rfl (run_load1 (w := W) Try.underlying29 rfl (cellOf hW.2.1 rfl))) (by assumption) ?_
                      simp only [Act.put, List.setIfInBounds_toArray, List.set_cons_zero, List.set_cons_succ]
                      refine take 7 78 (v := .int .i64 (k : Int)) rfl rfl (by kernel_rfl) (by kernel_rfl) (by kernel_rfl) rfl (fun W hW => exec_move rfl rfl) (by assumption) ?_
                      simp only [Act.put, List.setIfInBounds_toArray, List.set_cons_zero, List.set_cons_succ]
                      refine take 8 79 (v := .pointer (some ⟨S', k, none⟩)) rfl rfl (by kernel_rfl) (by kernel_rfl) (by kernel_rfl) rfl (fun W hW => exec_indexAddr rfl rfl rfl (hix _ _ _ hlt' W)) (by assumption) ?_
                      simp only [Act.put, List.setIfInBounds_toArray, List.set_cons_zero, List.set_cons_succ]
                      refine take 9 80 (v := .string (strB ((d'.seen (k : Int)).getD zblk))) rfl rfl (by kernel_rfl) (by kernel_rfl) (by kernel_rfl) rfl (fun W hW => exec_load rfl rfl (run_load1 (w := W) Try.underlying9 rfl (belowCell hW.2.2 (ltOf a1') a1'))) (by assumption) ?_
                      simp only [Act.put, List.setIfInBounds_toArray, List.set_cons_zero, List.set_cons_succ]
                      refine take 10 81 (v := .bool false) rfl rfl (by kernel_rfl) (by kernel_rfl) (by kernel_rfl) rfl (fun W hW => exec_bins rfl rfl rfl (hn1 W)) (by assumption) ?_
                      simp only [Act.put, List.setIfInBounds_toArray, List.set_cons_zero, List.set_cons_succ]
                      refine take 11 82 (v := .bool false) rfl rfl (by kernel_rfl) (by kernel_rfl) (by kernel_rfl) rfl (fun W hW => exec_move rfl rfl) (by assumption) ?_
                      simp only [Act.put, List.setIfInBounds_toArray, List.set_cons_zero, List.set_cons_succ]
                      refine take 12 83 (v := .pointer (some ⟨w.heap.size, 0, none⟩)) rfl rfl (by kernel_rfl) (by kernel_rfl) (by kernel_rfl) rfl (fun W hW => exec_fieldAddr rfl rfl (hf0 _ W)) (by assumption) ?_
                      simp only [Act.put, List.setIfInBounds_toArray, List.set_cons_zero, List.set_cons_succ]
                      refine take 13 84 (v := .slice (some ⟨L, 0, none⟩) d.size cL) rfl rfl (by kernel_rfl) (by kernel_rfl) (by kernel_rfl) rfl (fun W hW => exec_load rfl rfl (run_load1 (w := W) Try.underlying29 rfl (cellOf hW.1 rfl))) (by assumption) ?_
                      simp only [Act.put, List.setIfInBounds_toArray, List.set_cons_zero, List.set_cons_succ]
                      refine take 14 85 (v := .int .i64 (k : Int)) rfl rfl (by kernel_rfl) (by kernel_rfl) (by kernel_rfl) rfl (fun W hW => exec_move rfl rfl) (by assumption) ?_
                      simp only [Act.put, List.setIfInBounds_toArray, List.set_cons_zero, List.set_cons_succ]
                      refine take 15 86 (v := .pointer (some ⟨L, k, none⟩)) rfl rfl (by kernel_rfl) (by kernel_rfl) (by kernel_rfl) rfl (fun W hW => exec_indexAddr rfl rfl rfl (hix _ _ _ hlt W)) (by assumption) ?_
                      simp only [Act.put, List.setIfInBounds_toArray, List.set_cons_zero, List.set_cons_succ]
                      refine take 16 87 (v := .string (strB ((d.lasting (k : Int)).getD zblk))) rfl rfl (by kernel_rfl) (by kernel_rfl) (by kernel_rfl) rfl (fun W hW => exec_load rfl rfl (run_load1 (w := W) Try.underlying9 rfl (belowCell hW.2.2 (ltOf a2) a2))) (by assumption) ?_
                      simp only [Act.put, List.setIfInBounds_toArray, List.set_cons_zero, List.set_cons_succ]
                      refine take 17 88 (v := .pointer (some ⟨w.heap.size + 1, 0, none⟩)) rfl rfl (by kernel_rfl) (by kernel_rfl) (by kernel_rfl) rfl (fun W hW => exec_fieldAddr rfl rfl (hf0 _ W)) (by assumption) ?_
                      simp only [Act.put, List.setIfInBounds_toArray, List.set_cons_zero, List.set_cons_succ]
                      refine take 18 89 (v := .slice (some ⟨L', 0, none⟩) d'.size cL') rfl rfl (by kernel_rfl) (by kernel_rfl) (by kernel_rfl) rfl (fun W hW => exec_load rfl rfl (run_load1 (w := W) Try.underlying29 rfl (cellOf hW.2.1 rfl))) (by assumption) ?_
                      simp only [Act.put, List.setIfInBounds_toArray, List.set_cons_zero, List.set_cons_succ]
                      refine take 19 90 (v := .int .i64 (k : Int)) rfl rfl (by kernel_rfl) (by kernel_rfl) (by kernel_rfl) rfl (fun W hW => exec_move rfl rfl) (by assumption) ?_
                      simp only [Act.put, List.setIfInBounds_toArray, List.set_cons_zero, List.set_cons_succ]
                      refine take 20 91 (v := .pointer (some ⟨L', k, none⟩)) rfl rfl (by kernel_rfl) (by kernel_rfl) (by kernel_rfl) rfl (fun W hW => exec_indexAddr rfl rfl rfl (hix _ _ _ hlt' W)) (by assumption) ?_
                      simp only [Act.put, List.setIfInBounds_toArray, List.set_cons_zero, List.set_cons_succ]
                      refine take 21 92 (v := .string (strB ((d'.lasting (k : Int)).getD zblk))) rfl rfl (by kernel_rfl) (by kernel_rfl) (by kernel_rfl) rfl (fun W hW => exec_load rfl rfl (run_load1 (w := W) Try.underlying9 rfl (belowCell hW.2.2 (ltOf a2') a2'))) (by assumption) ?_
                      simp only [Act.put, List.setIfInBounds_toArray, List.set_cons_zero, List.set_cons_succ]
                      refine take 22 93 (v := .bool false) rfl rfl (by kernel_rfl) (by kernel_rfl) (by kernel_rfl) rfl (fun W hW => exec_bins rfl rfl rfl (hn2 W)) (by assumption) ?_
                      simp only [Act.put, List.setIfInBounds_toArray, List.set_cons_zero, List.set_cons_succ]
                      refine take 23 94 (v := .bool false) rfl rfl (by kernel_rfl) (by kernel_rfl) (by kernel_rfl) rfl (fun W hW => rfl) (by assumption) ?_
                      simp only [Act.put, List.setIfInBounds_toArray, List.set_cons_zero, List.set_cons_succ]
                      refine take 24 95 (v := .bool false) rfl rfl (by kernel_rfl) (by kernel_rfl) (by kernel_rfl) rfl (fun W hW => exec_move rfl rfl) (by assumption) ?_
                      simp only [Act.put, List.setIfInBounds_toArray, List.set_cons_zero, List.set_cons_succ]
                      refine take 25 96 (v := .pointer (some ⟨w.heap.size, 2, none⟩)) rfl rfl (by kernel_rfl) (by kernel_rfl) (by kernel_rfl) rfl (fun W hW => exec_fieldAddr rfl rfl (hf2 _ W)) (by assumption) ?_
                      simp only [Act.put, List.setIfInBounds_toArray, List.set_cons_zero, List.set_cons_succ]
                      refine take 26 97 (v := .slice (some ⟨Q, 0, none⟩) d.size cQ) rfl rfl (by kernel_rfl) (by kernel_rfl) (by kernel_rfl) rfl (fun W hW => exec_load rfl rfl (run_load1 (w := W) Try.underlying30 rfl (cellOf hW.1 rfl))) (by assumption) ?_
                      simp only [Act.put, List.setIfInBounds_toArray, List.set_cons_zero, List.set_cons_succ]
                      refine take 27 98 (v := .int .i64 (k : Int)) rfl rfl (by kernel_rfl) (by kernel_rfl) (by kernel_rfl) rfl (fun W hW => exec_move rfl rfl) (by assumption) ?_
                      simp only [Act.put, List.setIfInBounds_toArray, List.set_cons_zero, List.set_cons_succ]
                      refine take 28 99 (v := .pointer (some ⟨Q, k, none⟩)) rfl rfl (by kernel_rfl) (by kernel_rfl) (by kernel_rfl) rfl (fun W hW => exec_indexAddr rfl rfl rfl (hiq _ _ _ hlt W)) (by assumption) ?_
                      simp only [Act.put, List.setIfInBounds_toArray, List.set_cons_zero, List.set_cons_succ]
                      refine take 29 100 (v := .slice p ((d.since (k : Int)).getD []).length c) rfl rfl (by kernel_rfl) (by kernel_rfl) (by kernel_rfl) rfl (fun W hW => exec_load rfl rfl (run_load1 (w := W) Try.underlying29 rfl (belowCell hW.2.2 (ltOf hq2) hq2))) (by assumption) ?_
                      simp only [Act.put, List.setIfInBounds_toArray, List.set_cons_zero, List.set_cons_succ]
                      refine take 30 101 (v := .int .i64 (((d.since (k : Int)).getD []).length : Int)) rfl rfl (by kernel_rfl) (by kernel_rfl) (by kernel_rfl) rfl (fun W hW => exec_lenstr rfl rfl) (by assumption) ?_
                      simp only [Act.put, List.setIfInBounds_toArray, List.set_cons_zero, List.set_cons_succ]
                      refine take 31 102 (v := .pointer (some ⟨w.heap.size + 1, 2, none⟩)) rfl rfl (by kernel_rfl) (by kernel_rfl) (by kernel_rfl) rfl (fun W hW => exec_fieldAddr rfl rfl (hf2 _ W)) (by assumption) ?_
                      simp only [Act.put, List.setIfInBounds_toArray, List.set_cons_zero, List.set_cons_succ]
                      refine take 32 103 (v := .slice (some ⟨Q', 0, none⟩) d'.size cQ') rfl rfl (by kernel_rfl) (by kernel_rfl) (by kernel_rfl) rfl (fun W hW => exec_load rfl rfl (run_load1 (w := W) Try.underlying30 rfl (cellOf hW.2.1 rfl))) (by assumption) ?_
                      simp only [Act.put, List.setIfInBounds_toArray, List.set_cons_zero, List.set_cons_succ]
                      refine take 33 104 (v := .int .i64 (k : Int)) rfl rfl (by kernel_rfl) (by kernel_rfl) (by kernel_rfl) rfl (fun W hW => exec_move rfl rfl) (by assumption) ?_
                      simp only [Act.put, List.setIfInBounds_toArray, List.set_cons_zero, List.set_cons_succ]
                      refine take 34 105 (v := .pointer (some ⟨Q', k, none⟩)) rfl rfl (by kernel_rfl) (by kernel_rfl) (by kernel_rfl) rfl (fun W hW => exec_indexAddr rfl rfl rfl (hiq _ _ _ hlt' W)) (by assumption) ?_
                      simp only [Act.put, List.setIfInBounds_toArray, List.set_cons_zero, List.set_cons_succ]
                      refine take 35 106 (v := .slice p' ((d'.since (k : Int)).getD []).length c') rfl rfl (by kernel_rfl) (by kernel_rfl) (by kernel_rfl) rfl (fun W hW => exec_load rfl rfl (run_load1 (w := W) Try.underlying29 rfl (belowCell hW.2.2 (ltOf hq2') hq2'))) (by assumption) ?_
                      simp only [Act.put, List.setIfInBounds_toArray, List.set_cons_zero, List.set_cons_succ]
                      refine take 36 107 (v := .int .i64 (((d'.since (k : Int)).getD []).length : Int)) rfl rfl (by kernel_rfl) (by kernel_rfl) (by kernel_rfl) rfl (fun W hW => exec_lenstr rfl rfl) (by assumption) ?_
                      simp only [Act.put, List.setIfInBounds_toArray, List.set_cons_zero, List.set_cons_succ]
                      refine take 37 108 (v := .bool false) rfl rfl (by kernel_rfl) (by kernel_rfl) (by kernel_rfl) rfl (fun W hW => exec_bini rfl rfl rfl (hn3 W)) (by assumption) ?_
                      simp only [Act.put, List.setIfInBounds_toArray, List.set_cons_zero, List.set_cons_succ]
                      refine take 38 109 (v := .bool false) rfl rfl (by kernel_rfl) (by kernel_rfl) (by kernel_rfl) rfl (fun W hW => rfl) (by assumption) ?_
                      simp only [Act.put, List.setIfInBounds_toArray, List.set_cons_zero, List.set_cons_succ]
                      refine done (by kernel_rfl) ?_ _
                      have hlen : ((d.since (k : Int)).getD []).length = ((d'.since (k : Int)).getD []).length := by have := of_decide_eq_false e3; omega
                      have hsl : ((d.since (k : Int)).getD []).length ≤ 100000 := by
                        cases e : d.since (k : Int) with
                        | none => simp
                        | some l =>
                          have := (H.out.2.2.1.since _ l e).2.2.2.1
                          simp only [Option.getD_some]
                          omega
                      have b1 := of_decide_eq_false e1
                      have b2 := of_decide_eq_false e2
                      have HI := Lib.hid (And.intro hq2 (And.intro hq2' (And.intro hiq (And.intro hf2 (And.intro hp (And.intro hp' (And.intro hlt' (And.intro hlen (And.intro b1 (And.intro b2 hok))))))))))
                      have HU := Lib.hid hU0
                      clear a1 a2 a1' a2' hq2 hq2' hix hiq hf0 hf1 hf2 hn1 hn2 hn3 hT0 e1 e2 e3 hok hp hp' hlt' HP hU0 hlen b1 b2
                      go_wp2
                      go_loopw [8] (fun i wr => ∃ m : Nat, m ≤ ((d.since (k : Int)).getD []).length ∧ i = .int .i64 (m : Int) ∧ ((d.since (k : Int)).getD []).take m = ((d'.since (k : Int)).getD []).take m ∧ TwoRef w wr #[.slice (some ⟨L, 0, none⟩) d.size cL, .slice (some ⟨S, 0, none⟩) d.size cS, .slice (some ⟨Q, 0, none⟩) d.size cQ, .slice x F.length cx, .int .i64 (d.steps : Int)] #[.slice (some ⟨L', 0, none⟩) d'.size cL', .slice (some ⟨S', 0, none⟩) d'.size cS', .slice (some ⟨Q', 0, none⟩) d'.size cQ', .slice x' F'.length cx', .int .i64 (d'.steps : Int)]) (fun i _ => ((d.since (k : Int)).getD []).length - (intOf i).toNat)
                      case atStart => exact ⟨0, Nat.zero_le _, rfl, rfl, HU.out⟩
                      case round =>
                        clear hk
                        obtain ⟨m, hm, rfl, hpre, hT⟩ := hrel
                        have m2 := cellOf (o := 2) hT.1 rfl
                        obtain ⟨hq2, hq2', hiq, hf2, hp, hp', hlt', hlen, b1, b2, hok⟩ := HI.out
                        have mq := belowCell hT.2.2 (ltOf hq2) hq2
                        by_cases hm1 : m < ((d.since (k : Int)).getD []).length
                        · have hm1' : m < ((d'.since (k : Int)).getD []).length := by omega
                          obtain ⟨g, rfl, hgc⟩ := hp m _ (List.getElem?_eq_getElem hm1)
                          obtain ⟨g', rfl, hgc'⟩ := hp' m _ (List.getElem?_eq_getElem hm1')
                          have htk : ((d.since (k : Int)).getD []).take (m + 1) = ((d.since (k : Int)).getD []).take m ++ [((d.since (k : Int)).getD [])[m]] := List.take_succ_eq_append_getElem hm1
                          have htk' : ((d'.since (k : Int)).getD []).take (m + 1) = ((d'.since (k : Int)).getD []).take m ++ [((d'.since (k : Int)).getD [])[m]] := List.take_succ_eq_append_getElem hm1'
                          have hat : ((d.since (k : Int)).getD [])[m]? = some ((d.since (k : Int)).getD [])[m] := List.getElem?_eq_getElem hm1
                          have hat' : ((d'.since (k : Int)).getD [])[m]? = some ((d'.since (k : Int)).getD [])[m] := List.getElem?_eq_getElem hm1'
                          generalize ((d.since (k : Int)).getD [])[m] = u at *
                          generalize ((d'.since (k : Int)).getD [])[m] = u' at *
                          have hm2 : m + 1 ≤ ((d.since (k : Int)).getD []).length := hm1
                          have him : ∀ (b c n : Nat), m < n → ∀ W : World, (Instr.indexAt 29 (.slice (some ⟨b, 0, none⟩) n c) (.int .i64 (m : Int))).run Try.prog W = .ok (.pointer (some ⟨b, m, none⟩)) W := fun b c n hn W => by
                            have h1 : 0 ≤ (m : Int) := by omega
                            simp [go_sem, hn, addr_add]
                          obtain ⟨v5, e5⟩ : ∃ v, decide (u ≠ u') = v := ⟨_, rfl⟩
                          have hn5 : ∀ W, (binOp .neq 9 (.string (strB u)) (.string (strB u'))).run Try.prog W = .ok (.bool v5) W := fun W => e5 ▸ run_nes _ _ W
                          have hT0 := hT.below ((Below.refl _ _).drew)
                          have HP2 := Lib.hid (And.intro hq2 (And.intro hq2' (And.intro hiq (And.intro hf2 (And.intro hgc (And.intro hgc' (And.intro hlt' (And.intro hm1 (And.intro hm1' (And.intro him (And.intro hn5 (And.intro hT0 (And.intro e5 (And.intro hpre (And.intro htk (And.intro htk' (And.intro hat hat')))))))))))))))))
                          clear hq2' hiq hf2 hp hp' hgc hgc' hlt' hlen b1 b2 hok hm1' him hn5 hT0 hT e5 hpre htk htk' hat hat' hq2
                          go_wp2
                          obtain ⟨hq2, hq2', hiq, hf2, hgc, hgc', hlt', hm1, hm1', him, hn5, hT0, e5, hpre, htk, htk', hat, hat'⟩ := HP2.out
                          refine plain_region_draws (fun W => TwoRef w W #[.slice (some ⟨L, 0, none⟩) d.size cL, .slice (some ⟨S, 0, none⟩) d.size cS, .slice (some ⟨Q, 0, none⟩) d.size cQ, .slice x F.length cx, .int .i64 (d.steps : Int)] #[.slice (some ⟨L', 0, none⟩) d'.size cL', .slice (some ⟨S', 0, none⟩) d'.size cS', .slice (some ⟨Q', 0, none⟩) d'.size cQ', .slice x' F'.length cx', .int .i64 (d'.steps : Int)]) (by kernel_rfl) hT0 (fun hU0 => ?_)
                          cases v5 with
                          | true =>
                            refine take 0 120 (v := .pointer (some ⟨w.heap.size, 2, none⟩)) rfl rfl (by kernel_rfl) (by kernel_rfl) (by kernel_rfl) rfl (fun W hW => exec_fieldAddr rfl rfl (hf2 _ W)) (by assumption) ?_
                            simp only [Act.put, List.setIfInBounds_toArray, List.set_cons_zero, List.set_cons_succ]
                            refine take 1 121 (v := .slice (some ⟨Q, 0, none⟩) d.size cQ) rfl rfl (by kernel_rfl) (by kernel_rfl) (by kernel_rfl) rfl (fun W hW => exec_load rfl rfl (run_load1 (w := W) Try.underlying30 rfl (cellOf hW.1 rfl))) (by assumption) ?_
                            simp only [Act.put, List.setIfInBounds_toArray, List.set_cons_zero, List.set_cons_succ]
                            refine take 2 122 (v := .int .i64 (k : Int)) rfl rfl (by kernel_rfl) (by kernel_rfl) (by kernel_rfl) rfl (fun W hW => exec_move rfl rfl) (by assumption) ?_
                            simp only [Act.put, List.setIfInBounds_toArray, List.set_cons_zero, List.set_cons_succ]
                            refine take 3 123 (v := .pointer (some ⟨Q, k, none⟩)) rfl rfl (by kernel_rfl) (by kernel_rfl) (by kernel_rfl) rfl (fun W hW => exec_indexAddr rfl rfl rfl (hiq _ _ _ hlt W)) (by assumption) ?_
                            simp only [Act.put, List.setIfInBounds_toArray, List.set_cons_zero, List.set_cons_succ]
                            refine take 4 124 (v := .slice (some ⟨g, 0, none⟩) ((d.since (k : Int)).getD []).length c) rfl rfl (by kernel_rfl) (by kernel_rfl) (by kernel_rfl) rfl (fun W hW => exec_load rfl rfl (run_load1 (w := W) Try.underlying29 rfl (belowCell hW.2.2 (ltOf hq2) hq2))) (by assumption) ?_
                            simp only [Act.put, List.setIfInBounds_toArray, List.set_cons_zero, List.set_cons_succ]
                            refine take 5 125 (v := .int .i64 (m : Int)) rfl rfl (by kernel_rfl) (by kernel_rfl) (by kernel_rfl) rfl (fun W hW => exec_move rfl rfl) (by assumption) ?_
                            simp only [Act.put, List.setIfInBounds_toArray, List.set_cons_zero, List.set_cons_succ]
                            refine take 6 126 (v := .pointer (some ⟨g, m, none⟩)) rfl rfl (by kernel_rfl) (by kernel_rfl) (by kernel_rfl) rfl (fun W hW => exec_indexAddr rfl rfl rfl (him _ _ _ hm1 W)) (by assumption) ?_
                            simp only [Act.put, List.setIfInBounds_toArray, List.set_cons_zero, List.set_cons_succ]
                            refine take 7 127 (v := .string (strB u)) rfl rfl (by kernel_rfl) (by kernel_rfl) (by kernel_rfl) rfl (fun W hW => exec_load rfl rfl (run_load1 (w := W) Try.underlying9 rfl (belowCell hW.2.2 (ltOf hgc) hgc))) (by assumption) ?_
                            simp only [Act.put, List.setIfInBounds_toArray, List.set_cons_zero, List.set_cons_succ]
                            refine take 8 128 (v := .pointer (some ⟨w.heap.size + 1, 2, none⟩)) rfl rfl (by kernel_rfl) (by kernel_rfl) (by kernel_rfl) rfl (fun W hW => exec_fieldAddr rfl rfl (hf2 _ W)) (by assumption) ?_
                            simp only [Act.put, List.setIfInBounds_toArray, List.set_cons_zero, List.set_cons_succ]
                            refine take 9 129 (v := .slice (some ⟨Q', 0, none⟩) d'.size cQ') rfl rfl (by kernel_rfl) (by kernel_rfl) (by kernel_rfl) rfl (fun W hW => exec_load rfl rfl (run_load1 (w := W) Try.underlying30 rfl (cellOf hW.2.1 rfl))) (by assumption) ?_
                            simp only [Act.put, List.setIfInBounds_toArray, List.set_cons_zero, List.set_cons_succ]
                            refine take 10 130 (v := .int .i64 (k : Int)) rfl rfl (by kernel_rfl) (by kernel_rfl) (by kernel_rfl) rfl (fun W hW => exec_move rfl rfl) (by assumption) ?_
                            simp only [Act.put, List.setIfInBounds_toArray, List.set_cons_zero, List.set_cons_succ]
                            refine take 11 131 (v := .pointer (some ⟨Q', k, none⟩)) rfl rfl (by kernel_rfl) (by kernel_rfl) (by kernel_rfl) rfl (fun W hW => exec_indexAddr rfl rfl rfl (hiq _ _ _ hlt' W)) (by assumption) ?_
                            simp only [Act.put, List.setIfInBounds_toArray, List.set_cons_zero, List.set_cons_succ]
                            refine take 12 132 (v := .slice (some ⟨g', 0, none⟩) ((d'.since (k : Int)).getD []).length c') rfl rfl (by kernel_rfl) (by kernel_rfl) (by kernel_rfl) rfl (fun W hW => exec_load rfl rfl (run_load1 (w := W) Try.underlying29 rfl (belowCell hW.2.2 (ltOf hq2') hq2'))) (by assumption) ?_
                            simp only [Act.put, List.setIfInBounds_toArray, List.set_cons_zero, List.set_cons_succ]
                            refine take 13 133 (v := .int .i64 (m : Int)) rfl rfl (by kernel_rfl) (by kernel_rfl) (by kernel_rfl) rfl (fun W hW => exec_move rfl rfl) (by assumption) ?_
                            simp only [Act.put, List.setIfInBounds_toArray, List.set_cons_zero, List.set_cons_succ]
                            refine take 14 134 (v := .pointer (some ⟨g', m, none⟩)) rfl rfl (by kernel_rfl) (by kernel_rfl) (by kernel_rfl) rfl (fun W hW => exec_indexAddr rfl rfl rfl (him _ _ _ hm1' W)) (by assumption) ?_
                            simp only [Act.put, List.setIfInBounds_toArray, List.set_cons_zero, List.set_cons_succ]
                            refine take 15 135 (v := .string (strB u')) rfl rfl (by kernel_rfl) (by kernel_rfl) (by kernel_rfl) rfl (fun W hW => exec_load rfl rfl (run_load1 (w := W) Try.underlying9 rfl (belowCell hW.2.2 (ltOf hgc') hgc'))) (by assumption) ?_
                            simp only [Act.put, List.setIfInBounds_toArray, List.set_cons_zero, List.set_cons_succ]
                            refine take 16 136 (v := .bool true) rfl rfl (by kernel_rfl) (by kernel_rfl) (by kernel_rfl) rfl (fun W hW => exec_bins rfl rfl rfl (hn5 W)) (by assumption) ?_
                            simp only [Act.put, List.setIfInBounds_toArray, List.set_cons_zero, List.set_cons_succ]
                            refine done (by kernel_rfl) ?_ _
                            have hne : sameB d d' = false := Bool.eq_false_iff.2 fun hh => by
                              have h6 := (sameB_iff.1 hh).2.2.2.2.2
                              rw [h6, hat'] at hat
                              exact of_decide_eq_true e5 (Option.some.inj hat).symm
                            have HN := Lib.hid (And.intro hne hU0.2.2)
                            clear hq2 hq2' hiq hf2 hgc hgc' him hn5 hT0 e5 hpre htk htk' hat hat' hne hU0
                            go_wp2
                            go_ret
                            exact ⟨ret_bool HN.out.1.symm, HN.out.2⟩
                          | false =>
                            refine take 0 120 (v := .pointer (some ⟨w.heap.size, 2, none⟩)) rfl rfl (by kernel_rfl) (by kernel_rfl) (by kernel_rfl) rfl (fun W hW => exec_fieldAddr rfl rfl (hf2 _ W)) (by assumption) ?_
                            simp only [Act.put, List.setIfInBounds_toArray, List.set_cons_zero, List.set_cons_succ]
                            refine take 1 121 (v := .slice (some ⟨Q, 0, none⟩) d.size cQ) rfl rfl (by kernel_rfl) (by kernel_rfl) (by kernel_rfl) rfl (fun W hW => exec_load rfl rfl (run_load1 (w := W) Try.underlying30 rfl (cellOf hW.1 rfl))) (by assumption) ?_
                            simp only [Act.put, List.setIfInBounds_toArray, List.set_cons_zero, List.set_cons_succ]
                            refine take 2 122 (v := .int .i64 (k : Int)) rfl rfl (by kernel_rfl) (by kernel_rfl) (by kernel_rfl) rfl (fun W hW => exec_move rfl rfl) (by assumption) ?_
                            simp only [Act.put, List.setIfInBounds_toArray, List.set_cons_zero, List.set_cons_succ]
                            refine take 3 123 (v := .pointer (some ⟨Q, k, none⟩)) rfl rfl (by kernel_rfl) (by kernel_rfl) (by kernel_rfl) rfl (fun W hW => exec_indexAddr rfl rfl rfl (hiq _ _ _ hlt W)) (by assumption) ?_
                            simp only [Act.put, List.setIfInBounds_toArray, List.set_cons_zero, List.set_cons_succ]
                            refine take 4 124 (v := .slice (some ⟨g, 0, none⟩) ((d.since (k : Int)).getD []).length c) rfl rfl (by kernel_rfl) (by kernel_rfl) (by kernel_rfl) rfl (fun W hW => exec_load rfl rfl (run_load1 (w := W) Try.underlying29 rfl (belowCell hW.2.2 (ltOf hq2) hq2))) (by assumption) ?_
                            simp only [Act.put, List.setIfInBounds_toArray, List.set_cons_zero, List.set_cons_succ]
                            refine take 5 125 (v := .int .i64 (m : Int)) rfl rfl (by kernel_rfl) (by kernel_rfl) (by kernel_rfl) rfl (fun W hW => exec_move rfl rfl) (by assumption) ?_
                            simp only [Act.put, List.setIfInBounds_toArray, List.set_cons_zero, List.set_cons_succ]
                            refine take 6 126 (v := .pointer (some ⟨g, m, none⟩)) rfl rfl (by kernel_rfl) (by kernel_rfl) (by kernel_rfl) rfl (fun W hW => exec_indexAddr rfl rfl rfl (him _ _ _ hm1 W)) (by assumption) ?_
                            simp only [Act.put, List.setIfInBounds_toArray, List.set_cons_zero, List.set_cons_succ]
                            refine take 7 127 (v := .string (strB u)) rfl rfl (by kernel_rfl) (by kernel_rfl) (by kernel_rfl) rfl (fun W hW => exec_load rfl rfl (run_load1 (w := W) Try.underlying9 rfl (belowCell hW.2.2 (ltOf hgc) hgc))) (by assumption) ?_
                            simp only [Act.put, List.setIfInBounds_toArray, List.set_cons_zero, List.set_cons_succ]
                            refine take 8 128 (v := .pointer (some ⟨w.heap.size + 1, 2, none⟩)) rfl rfl (by kernel_rfl) (by kernel_rfl) (by kernel_rfl) rfl (fun W hW => exec_fieldAddr rfl rfl (hf2 _ W)) (by assumption) ?_
                            simp only [Act.put, List.setIfInBounds_toArray, List.set_cons_zero, List.set_cons_succ]
                            refine take 9 129 (v := .slice (some ⟨Q', 0, none⟩) d'.size cQ') rfl rfl (by kernel_rfl) (by kernel_rfl) (by kernel_rfl) rfl (fun W hW => exec_load rfl rfl (run_load1 (w := W) Try.underlying30 rfl (cellOf hW.2.1 rfl))) (by assumption) ?_
                            simp only [Act.put, List.setIfInBounds_toArray, List.set_cons_zero, List.set_cons_succ]
                            refine take 10 130 (v := .int .i64 (k : Int)) rfl rfl (by kernel_rfl) (by kernel_rfl) (by kernel_rfl) rfl (fun W hW => exec_move rfl rfl) (by assumption) ?_
                            simp only [Act.put, List.setIfInBounds_toArray, List.set_cons_zero, List.set_cons_succ]
                            refine take 11 131 (v := .pointer (some ⟨Q', k, none⟩)) rfl rfl (by kernel_rfl) (by kernel_rfl) (by kernel_rfl) rfl (fun W hW => exec_indexAddr rfl rfl rfl (hiq _ _ _ hlt' W)) (by assumption) ?_
                            simp only [Act.put, List.setIfInBounds_toArray, List.set_cons_zero, List.set_cons_succ]
                            refine take 12 132 (v := .slice (some ⟨g', 0, none⟩) ((d'.since (k : Int)).getD []).length c') rfl rfl (by kernel_rfl) (by kernel_rfl) (by kernel_rfl) rfl (fun W hW => exec_load rfl rfl (run_load1 (w := W) Try.underlying29 rfl (belowCell hW.2.2 (ltOf hq2') hq2'))) (by assumption) ?_
                            simp only [Act.put, List.setIfInBounds_toArray, List.set_cons_zero, List.set_cons_succ]
                            refine take 13 133 (v := .int .i64 (m : Int)) rfl rfl (by kernel_rfl) (by kernel_rfl) (by kernel_rfl) rfl (fun W hW => exec_move rfl rfl) (by assumption) ?_
                            simp only [Act.put, List.setIfInBounds_toArray, List.set_cons_zero, List.set_cons_succ]
                            refine take 14 134 (v := .pointer (some ⟨g', m, none⟩)) rfl rfl (by kernel_rfl) (by kernel_rfl) (by kernel_rfl) rfl (fun W hW => exec_indexAddr rfl rfl rfl (him _ _ _ hm1' W)) (by assumption) ?_
                            simp only [Act.put, List.setIfInBounds_toArray, List.set_cons_zero, List.set_cons_succ]
                            refine take 15 135 (v := .string (strB u')) rfl rfl (by kernel_rfl) (by kernel_rfl) (by kernel_rfl) rfl (fun W hW => exec_load rfl rfl (run_load1 (w := W) Try.underlying9 rfl (belowCell hW.2.2 (ltOf hgc') hgc'))) (by assumption) ?_
                            simp only [Act.put, List.setIfInBounds_toArray, List.set_cons_zero, List.set_cons_succ]
                            refine take 16 136 (v := .bool false) rfl rfl (by kernel_rfl) (by kernel_rfl) (by kernel_rfl) rfl (fun W hW => exec_bins rfl rfl rfl (hn5 W)) (by assumption) ?_
                            simp only [Act.put, List.setIfInBounds_toArray, List.set_cons_zero, List.set_cons_succ]
                            refine done (by kernel_rfl) ?_ _
                            have hnext : ((d.since (k : Int)).getD []).take (m + 1) = ((d'.since (k : Int)).getD []).take (m + 1) := by
                              have := of_decide_eq_false e5
                              rw [htk, htk', hpre, Decidable.not_not.1 this]
                            have HN := Lib.hid (And.intro hnext hU0)
                            clear hq2 hq2' hiq hf2 hgc hgc' him hn5 hT0 e5 hpre htk htk' hat hat' hnext hU0
                            go_wp2
                            go_roundw
                            case rel => exact ⟨m + 1, by omega, by go_num, HN.out⟩
                            case measure => simp [intOf]; omega
                        · have hsin : ((d.since (k : Int)).getD []) = ((d'.since (k : Int)).getD []) := by
                            have h1 : m = ((d.since (k : Int)).getD []).length := by omega
                            rw [List.take_of_length_le (by omega), List.take_of_length_le (by omega)] at hpre
                            exact hpre
                          have hok' : ∀ j < k + 1, (d.seen (j : Int)).getD zblk = (d'.seen (j : Int)).getD zblk ∧ (d.lasting (j : Int)).getD zblk = (d'.lasting (j : Int)).getD zblk ∧ (d.since (j : Int)).getD [] = (d'.since (j : Int)).getD [] := by
                            intro j hj
                            by_cases hjk : j < k
                            · exact hok j hjk
                            · obtain rfl : j = k := by omega
                              exact ⟨Decidable.not_not.1 b1, Decidable.not_not.1 b2, hsin⟩
                          have hmost := H.out.2.2.1.most
                          have HN := Lib.hid (And.intro hok' hT)
                          clear hq2' hiq hf2 hp hp' hlt' hlen b1 b2 hok hsin hok' hT hpre hq2
                          go_wp2
                          go_roundw
                          case rel => exact ⟨k + 1, by omega, by go_num, HN.out⟩
                          case measure => simp [intOf]; omega
              · have hsame : sameB d d' = true := by
                  obtain rfl : k = d.size := by omega
                  obtain ⟨_, _, ok, ok', hn, hst, _⟩ := H.out
                  exact sameB_iff.2 ⟨(on_disk_l ok ok' hn).2 fun j hj => (hok j hj).2.1, (on_disk ok ok' hn).2 fun j hj => (hok j hj).1, hn, hst, H2.out.1, (on_disk_s ok ok' hn).2 fun j hj => (hok j hj).2.2⟩
                have HN := Lib.hid (And.intro hsame hT.2.2)
                clear hok hT hsame
                go_wp2
                go_ret
                exact ⟨ret_bool HN.out.1.symm, HN.out.2⟩
  · have hne : sameB d d' = false := Bool.eq_false_iff.2 fun h => hst (sameB_iff.1 h).2.2.2.1
    have c1 : ((d.steps : Int) != (d'.steps : Int)) = true := by rw [bne_iff_ne]; omega
    have c2 : ((d.steps : Int) == (d'.steps : Int)) = false := by rw [beq_eq_false_iff_ne]; omega
    have Hb := Lib.hid hb1
    rw [hne]
    clear h h' ok ok' hb1 hA hA' hX hX' hne hT1 hn hst
    subst hw1
    go_enter Try.func14, Try.ntmps14
    go_wp2
    go_ret
    exact ⟨rfl, Hb.out⟩
end Go.Proofs.Ytmgajgeoibbmjaa
