/- Crash. Printed by gen_crash.py. -/
import Derived.Test.YtmgajgeoibbmjaaNext
import Derived.Test.YtmgajgeoibbmjaaRefb
namespace Go.Proofs.Ytmgajgeoibbmjaa
open Go.RowKit

theorem exec_indexAddr {P : Program} {a : Act} {w w' : World} {o : Oper} {t : TypeId} {x y : Operand} {vx vy v : Value} (ho : o.op = .indexAddr t x y) (hx : a.eval x = vx) (hy : a.eval y = vy) (hr : (Instr.indexAt t vx vy).run P w = .ok v w') :
    (execOp a.eval o).run P w = .ok (.value v) w' := by
  unfold execOp; rw [ho]; simp only [hx, hy, Sem.run_bind, hr, Result.andThen_ok, Sem.run_pure]
theorem exec_lenany {a : Act} {w : World} {o : Oper} {x : Operand} {p : Option Addr} {n c : Nat} (ho : o.op = .call { callee := .builtin .len, args := #[x], argTypes := #[74] }) (hx : a.eval x = .slice p n c) : (execOp a.eval o).run Try.prog w = .ok (.value (.int .i64 (n : Int))) w := by
  unfold execOp
  simp only [ho, resolve, invoke, builtin, Sem.run_bind, Sem.run_pure, Result.andThen_ok, List.map_toArray, List.map_cons, List.map_nil, hx]
  simp [go_sem]

theorem goodE_size {es : Array MapEntry} {clk N : Nat} (h : GoodE es.toList clk) (hk : ∀ k, isKey es k → 0 ≤ k ∧ k < N) : es.size ≤ N := by
  have h1 : (keysOf es.toList).length = es.toList.length := by
    have hi := h.int
    generalize es.toList = l at hi
    induction l with
    | nil => rfl
    | cons e r ih =>
      obtain ⟨k, hk⟩ := hi e (by simp)
      unfold keysOf at ih ⊢
      rw [List.filterMap_cons, keyI_of hk]
      simp only [List.length_cons]
      rw [ih (fun e he => hi e (by simp [he]))]
  have h2 := nodup_length_le (keysOf es.toList) ((List.range N).map fun i : Nat => (i : Int)) h.keys (fun k hk' => by
    obtain ⟨e, he, hke⟩ := List.mem_filterMap.1 hk'
    have := hk k (by unfold isKey; rw [getE_mem h.keys he hke]; rfl)
    exact List.mem_map.2 ⟨k.toNat, List.mem_range.2 (by omega), by omega⟩)
  rw [h1, List.length_map, List.length_range] at h2
  have h3 : es.toList.length = es.size := Array.length_toList
  omega
theorem crashL_snd (d : DM) (l ks : List Int) : (crashL d l ks).2 = l.drop ks.length := by
  have key : ∀ (ks : List Int) (s : (Int → Option (List UInt8)) × List Int), (ks.foldl (crashStep d) s).2 = s.2.drop ks.length := by
    intro ks
    induction ks with
    | nil => intro s; simp
    | cons k r ih => intro s; rw [List.foldl_cons, ih]; simp [crashStep]
  exact key ks _
theorem crashL_ok {d : DM} (h : d.Ok) (l ks : List Int) : ∀ k x, (crashL d l ks).1 k = some x → x.length = 512 ∧ 0 ≤ k ∧ k < d.size := by
  have key : ∀ (ks : List Int) (s : (Int → Option (List UInt8)) × List Int), (∀ k x, s.1 k = some x → x.length = 512 ∧ 0 ≤ k ∧ k < d.size) → ∀ k x, (ks.foldl (crashStep d) s).1 k = some x → x.length = 512 ∧ 0 ≤ k ∧ k < d.size := by
    intro ks
    induction ks with
    | nil => exact fun s hs => hs
    | cons j r ih =>
      intro s hs
      rw [List.foldl_cons]
      refine ih _ fun k x hx => ?_
      simp only [crashStep] at hx
      by_cases hk : k = j
      · subst hk
        rw [if_pos rfl] at hx
        cases hp : crashPick ((d.since k).getD []) (s.2.headD 0) with
        | none => rw [hp] at hx; exact hs k x hx
        | some y =>
          rw [hp] at hx
          cases hx
          unfold crashPick at hp
          split at hp
          · cases hp
          · cases hs' : d.since k with
            | none => rw [hs'] at hp; simp at hp
            | some ls =>
              rw [hs'] at hp
              obtain ⟨h1, h2, _, _, h5⟩ := h.since k ls hs'
              exact ⟨h5 _ (List.mem_of_getElem? hp), h1, h2⟩
      · rw [if_neg hk] at hx; exact hs k x hx
  exact key ks _ (fun k x hx => h.lasting k x hx)
theorem DM.Ok.crash {d : DM} (h : d.Ok) (l : List Int) : (d.crash l).Ok :=
  ⟨h.pos, h.most, crashL_ok h l _, crashL_ok h l _, fun k l hl => by cases hl⟩

/-- What holds between two rounds. -/
structure CrI (w4 W : World) (P L' : Nat) (d : DM) (l : List Int) (ks : List Int) : Prop where
  pick : PickAt W P (crashL d l ks).2
  map : IntMap W L' (fun j => ((crashL d l ks).1 j).map blkV)
  touch : Touch (fun b => b = P ∨ b = L') w4 W
set_option maxRecDepth 100000 in
set_option maxHeartbeats 4000000 in
theorem crash_ok {w : World} {F : Nat → Prop} {a : Nat} {d : DM} (hd : Disk w F a d) (hF : ∀ b, F b → b < w.heap.size) (p : Option Addr) (n c : Nat) (l : List Int) (hrd : RdI w (.slice p n c) l) (hnc : n ≤ c) (hlen : l.length ≤ 1000000) (hneg : anyNeg l = false) (hst : d.steps < 1073741824) :
    Calls Try.prog 11 #[.pointer (some ⟨a, 0, none⟩), .slice p n c] w fun e w' => ∃ a', e = .returned (.tuple #[.pointer (some ⟨a', 0, none⟩), .int .i64 0]) ∧ Disk w' (fun b => w.heap.size ≤ b) a' (d.crash l) ∧ Below w.heap.size w w' := by
  have hb0 : Below w.heap.size w (w.alloc (.cells #[.slice p n c] 31)) := (Below.refl _ _).alloc (Nat.le_refl _) _
  have Hn := Lib.hid (none_disk (hd.below hb0))
  have hc0 := contains_neg 30 (.inl rfl) p n c l (w.alloc (.cells #[.slice p n c] 31)) (hrd.below hb0) hlen
  rw [hneg] at hc0
  have Hc := Lib.hid hc0
  have Hnew := Lib.hid (new_ok d.size hd.1.pos hd.1.most (w.alloc (.cells #[.slice p n c] 31)))
  have k0 := (hd.below hb0).c0
  have Hd := Lib.hid (And.intro hd (And.intro hF (And.intro hrd (And.intro hnc (And.intro hneg (And.intro hst hlen))))))
  have hmf : ∀ (fn : Fn) (first cap : Array Value) (w : World), (Instr.makeFunc fn first cap).run Try.prog w = .ok (.func fn first cap) w := fun _ _ _ _ => rfl
  clear hd hF hrd hnc hneg hst hlen hc0
  go_enter Try.func11, Try.ntmps11
  go_wp2_with (first
    | (go_at_call 28; refine Hn.out.mono ?_; rintro e w' ⟨rfl, rfl⟩)
    | (go_at_call 29; refine Hc.out.mono ?_; rintro e w' ⟨rfl, rfl⟩)
    | (go_at_call 8; refine Hnew.out.mono ?_; rintro e w1 ⟨rfl, hd1, hb1, _⟩; have H1 := Lib.hid (And.intro hd1 hb1); clear hd1 hb1))
  obtain ⟨hd, hF, hrd, hnc, hneg, hst, hlen⟩ := Hd.out
  obtain ⟨hdn, hb1⟩ := H1.out
  have hs0 : (w.alloc (.cells #[.slice p n c] 31)).heap.size = w.heap.size + 1 := by simp
  have hP0 : PickAt (w.alloc (.cells #[.slice p n c] 31)) w.heap.size l := ⟨p, n, c, by simp [go_sem], by simp [go_sem], hrd.below ((Below.refl _ _).alloc (Nat.le_refl _) _), hnc, fun ad had hl => hrd.lt hl ad had⟩
  have hb01 : Below w.heap.size w w1 := ((Below.refl _ _).alloc (Nat.le_refl _) _).trans (hb1.mono (by omega))
  have hPk : PickAt w1 w.heap.size l := by
    obtain ⟨p', n', c', q1, q2, q3, q4, q5⟩ := hP0
    exact ⟨p', n', c', belowCell hb1 (by omega) q1, belowFrozen hb1 (by omega) q2, q3.below hb1, q4, q5⟩
  rw [hs0] at hdn hb1
  generalize ha' : w.heap.size + 1 + 4 = a' at *
  obtain ⟨hokn, L', S', C', X', mcn, hDn⟩ := hdn
  have hd1 := hd.below hb01
  obtain ⟨hok, L, Sn, C, X, mc, hD⟩ := hd1
  generalize hPw : w.heap.size = P at *
  have hszw1 : P + 1 ≤ w1.heap.size := by have := hb1.size; omega
  -- where things lie
  have hnod := hDn.nodup
  simp only [List.nodup_cons, List.mem_cons, List.not_mem_nil, or_false, not_or, List.nodup_nil, and_true, not_false_eq_true] at hnod
  obtain ⟨⟨n1, n2, n3, n4⟩, ⟨n5, n6, n7⟩, ⟨n8, n9⟩, n10⟩ := hnod
  have fa := hDn.foot a' (by simp)
  have fL := hDn.foot L' (by simp)
  have fS := hDn.foot S' (by simp)
  have fC := hDn.foot C' (by simp)
  have fX := hDn.foot X' (by simp)
  have ga := hF a (hD.foot a (by simp))
  have gL := hF L (hD.foot L (by simp))
  have gC := hF C (hD.foot C (by simp))
  have hm1 : IntMap w1.drew L' (fun k => ((fun _ => none : Int → Option (List UInt8)) k).map blkV) := hDn.lasting
  have hm2 : IntMap w1.drew L (fun k => (d.lasting k).map blkV) := hD.lasting
  have hne1 : L' ≠ L := by omega
  have hl1 : ∀ k x, d.lasting k = some x → x.length = 512 := fun k x h => (hok.lasting k x h).1
  have hf1 : ∀ W' : World, (Instr.fieldAt 52 (.pointer (some ⟨a, 0, none⟩)) 1).run Try.prog W' = .ok (.pointer (some ⟨a, 1, none⟩)) W' := by intro W'; simp [go_sem]
  have hf1' : ∀ W' : World, (Instr.fieldAt 52 (.pointer (some ⟨a', 0, none⟩)) 1).run Try.prog W' = .ok (.pointer (some ⟨a', 1, none⟩)) W' := by intro W'; simp [go_sem]
  have hf2' : ∀ W' : World, (Instr.fieldAt 52 (.pointer (some ⟨a', 0, none⟩)) 2).run Try.prog W' = .ok (.pointer (some ⟨a', 2, none⟩)) W' := by intro W'; simp [go_sem]
  have hf3 : ∀ W' : World, (Instr.fieldAt 52 (.pointer (some ⟨a, 0, none⟩)) 3).run Try.prog W' = .ok (.pointer (some ⟨a, 3, none⟩)) W' := by intro W'; simp [go_sem]
  have hS0 : w1.drew.cell? ⟨a', 1, none⟩ = some (.map (some L')) ∧ w1.drew.cell? ⟨a, 1, none⟩ = some (.map (some L)) := ⟨cellOf hDn.cells rfl, cellOf hD.cells rfl⟩
  refine plain_region_draws (fun W => W.cell? ⟨a', 1, none⟩ = some (.map (some L')) ∧ W.cell? ⟨a, 1, none⟩ = some (.map (some L))) (by kernel_rfl) hS0 (fun hS => ?_)
  refine take 0 25 (v := .pointer (some ⟨a', 0, none⟩)) rfl rfl (by kernel_rfl) (by kernel_rfl) (by kernel_rfl) rfl (fun W hW => exec_move rfl rfl) (by assumption) ?_
  simp only [Act.put, List.setIfInBounds_toArray, List.set_cons_zero, List.set_cons_succ]
  refine take 1 26 (v := .pointer (some ⟨a', 0, none⟩)) rfl rfl (by kernel_rfl) (by kernel_rfl) (by kernel_rfl) rfl (fun W hW => rfl) (by assumption) ?_
  simp only [Act.put, List.setIfInBounds_toArray, List.set_cons_zero, List.set_cons_succ]
  refine take 2 27 (v := .pointer (some ⟨a', 1, none⟩)) rfl rfl (by kernel_rfl) (by kernel_rfl) (by kernel_rfl) rfl (fun W hW => exec_fieldAddr rfl rfl (hf1' W)) (by assumption) ?_
  simp only [Act.put, List.setIfInBounds_toArray, List.set_cons_zero, List.set_cons_succ]
  refine take 3 28 (v := .map (some L')) rfl rfl (by kernel_rfl) (by kernel_rfl) (by kernel_rfl) rfl (fun W hW => exec_load rfl rfl (run_load1 (w := W) Try.underlying48 rfl hW.1)) (by assumption) ?_
  simp only [Act.put, List.setIfInBounds_toArray, List.set_cons_zero, List.set_cons_succ]
  refine take 4 29 (v := .pointer (some ⟨a, 0, none⟩)) rfl rfl (by kernel_rfl) (by kernel_rfl) (by kernel_rfl) rfl (fun W hW => exec_move rfl rfl) (by assumption) ?_
  simp only [Act.put, List.setIfInBounds_toArray, List.set_cons_zero, List.set_cons_succ]
  refine take 5 30 (v := .pointer (some ⟨a, 0, none⟩)) rfl rfl (by kernel_rfl) (by kernel_rfl) (by kernel_rfl) rfl (fun W hW => rfl) (by assumption) ?_
  simp only [Act.put, List.setIfInBounds_toArray, List.set_cons_zero, List.set_cons_succ]
  refine take 6 31 (v := .pointer (some ⟨a, 1, none⟩)) rfl rfl (by kernel_rfl) (by kernel_rfl) (by kernel_rfl) rfl (fun W hW => exec_fieldAddr rfl rfl (hf1 W)) (by assumption) ?_
  simp only [Act.put, List.setIfInBounds_toArray, List.set_cons_zero, List.set_cons_succ]
  refine take 7 32 (v := .map (some L)) rfl rfl (by kernel_rfl) (by kernel_rfl) (by kernel_rfl) rfl (fun W hW => exec_load rfl rfl (run_load1 (w := W) Try.underlying48 rfl hW.2)) (by assumption) ?_
  simp only [Act.put, List.setIfInBounds_toArray, List.set_cons_zero, List.set_cons_succ]
  refine onlyCall 8 33 rfl rfl (by kernel_rfl) rfl (exec_call [.map (some L'), .map (some L)] rfl rfl Try.func32 (by kernel_rfl) (by kernel_rfl)) ?_
  refine (copy_any hm1 hm2 hne1 hl1).mono ?_
  rintro e w2 ⟨rfl, hm3, hT2⟩
  refine ⟨_, rfl, .inr ⟨hT2.cell hS.1 (by omega), hT2.cell hS.2 (by omega)⟩, ?_⟩
  simp only [Act.put, List.setIfInBounds_toArray, List.set_cons_zero, List.set_cons_succ]
  refine done (by kernel_rfl) ?_ _
  have hL2 : IntMap w2 L' (fun j => (d.lasting j).map blkV) := by
    have e : (fun k => ((d.lasting k).or ((fun _ => none : Int → Option (List UInt8)) k)).map blkV) = (fun j => (d.lasting j).map blkV) := by funext k; cases d.lasting k <;> rfl
    rw [e] at hm3; exact hm3
  have hT2' : Touch (fun b => b = L') w1 w2 := (Touch.refl _ _).drew.step hT2 (fun b _ h => h)
  have hC2 : IntMap w2 C mc := hD.since.touch hT2' (by intro h; omega)
  obtain ⟨es, clk, hbC, hgC, hmC⟩ := hC2
  have hkey : ∀ k, isKey es k ↔ (d.since k).isSome = true := fun k => by
    unfold isKey
    rw [hmC]
    rcases hD.sinceAt.one k with ⟨q1, q2⟩ | ⟨v, ls, q1, q2, _⟩
    · rw [q1, q2]; exact ⟨(fun h => by cases h), (fun h => by cases h)⟩
    · rw [q1, q2]; exact ⟨fun _ => rfl, fun _ => rfl⟩
  have hes : es.size ≤ d.size := goodE_size hgC (fun k hk => by
    obtain ⟨ls, hls⟩ := Option.isSome_iff_exists.1 ((hkey k).1 hk)
    obtain ⟨h1, h2, _⟩ := hok.since k ls hls
    exact ⟨h1, h2⟩)
  have hb23 : Below w2.heap.size w2 (w2.alloc (.cells #[.map (some C)] 49)) := (Below.refl _ _).alloc (Nat.le_refl _) _
  have hC2lt : C < w2.heap.size := (Array.getElem?_eq_some_iff.1 hbC).1
  have Hso := Lib.hid (sorted_keys w2.heap.size C es clk hgC (by have := hok.most; omega) (w2.alloc (.cells #[.map (some C)] 49)) (by simp [go_sem]) (belowBlk hb23 hC2lt hbC))
  have qa3 : w2.cell? ⟨a, 3, none⟩ = some (.map (some C)) := hT2'.cell (cellOf hD.cells rfl) (by intro h; omega)
  have hs2 := hT2'.size
  have Hk := Lib.hid hkey
  have Hw := Lib.hid (And.intro hd (And.intro hF (And.intro hPk (And.intro hneg (And.intro hst (And.intro hok (And.intro hD (And.intro hDn (And.intro hb01 (And.intro hL2 hT2'))))))))))
  have Hf := Lib.hid (And.intro hf1 (And.intro hf1' (And.intro hf2' hf3)))
  have Hn1 := Lib.hid (And.intro hlen hszw1)
  clear hd hF hPk hneg hst hok hD hDn hb01 hL2 hT2' hf1 hf1' hf2' hf3 hkey hes hb23 hC2lt hbC hgC hmC hlen hS hS0 hm1 hm2 hm3 hT2 hne1 hl1 hrd hnc hs0 hP0 hokn hb1 k0
  go_wp2_with (first
    | (go_at_call 34; refine (keys_any (some C) _).mono ?_; rintro e w3 ⟨rfl, rfl⟩)
    | (go_at_call 33; refine Hso.out.mono ?_; rintro e w4 ⟨p2, n2, c2, xs, rfl, hxs, hstr, hmem, hb4, hfr⟩; have H4 := Lib.hid (And.intro hxs (And.intro hstr (And.intro hmem (And.intro hb4 hfr)))); clear hxs hstr hmem hb4 hfr Hso))
  obtain ⟨hd, hF, hPk, hneg, hst, hok, hD, hDn, hb01, hL2, hT2⟩ := Hw.out
  obtain ⟨hxs, hstr, hmem, hb4, hfr⟩ := H4.out
  obtain ⟨hlen, hszw1⟩ := Hn1.out
  have hx0 : xs = sinceKeys d := strict_unique _ _ hstr (sinceKeys_strict d) (fun k => (hmem k).trans ((Hk.out k).trans (mem_sinceKeys hok k).symm))
  have hL'lt : L' < w1.heap.size := hDn.lasting.lt
  have hTW4 : Touch (fun b => b = L') w1 w4 := (hT2.alloc _).grow hb4
  have hL4 : IntMap w4 L' (fun j => (d.lasting j).map blkV) := (hL2.grow ((Below.refl _ _).alloc (Nat.le_refl _) _)).grow hb4
  have hI0 : CrI w4 w4 P L' d l [] := ⟨hPk.touch hTW4 (by intro h; omega) (fun b hb h => by omega), hL4, Touch.refl _ _⟩
  have hfr2 : ∀ g, (Value.slice p2 n2 c2).ownBlock = some g → w1.heap.size ≤ g := fun g hg => by have := hfr g hg; simp at this; omega
  obtain ⟨_, _, heq, hnil, hcell⟩ := hxs
  cases heq
  have hxl : xs.length ≤ 65536 := by
    rw [hx0]
    have h1 : (sinceKeys d).length ≤ d.size := by
      unfold sinceKeys
      have h := List.length_filter_le (fun k => (d.since k).isSome) ((List.range d.size).map fun i : Nat => (i : Int))
      rw [List.length_map, List.length_range] at h
      exact h
    have := hok.most
    omega
  have HX := Lib.hid (And.intro hx0 (And.intro hnil (And.intro hcell (And.intro hfr2 (And.intro hmem (And.intro hL'lt (And.intro hTW4 hI0)))))))
  clear hd hF hPk hneg hst hok hD hDn hb01 hL2 hT2 hstr hmem hb4 hfr hlen hszw1 hx0 hL'lt hTW4 hL4 hI0 hfr2 hnil hcell qa3
  go_loopw [41] (fun i wr => ∃ k : Nat, k ≤ xs.length ∧ i = .int .i64 (k : Int) ∧ CrI w4 wr P L' d l (xs.take k)) (fun i _ => xs.length - (intOf i).toNat)
  case atStart => exact ⟨0, Nat.zero_le _, rfl, by rw [List.take_zero]; exact HX.out.2.2.2.2.2.2.2⟩
  case round =>
    obtain ⟨k, hk, rfl, hI⟩ := hrel
    have HI := Lib.hid hI
    clear hI
    by_cases hlt : k < xs.length
    · obtain ⟨ad, rfl⟩ : ∃ ad, p2 = some ad := by
        cases p2 with
        | none => have := HX.out.2.1 rfl; subst this; simp at hlt
        | some ad => exact ⟨ad, rfl⟩
      obtain ⟨hspot, hcs⟩ := HX.out.2.2.1 ad rfl
      obtain ⟨ab, ao, asp⟩ := ad
      have hspot := hspot (fun e => by rw [e] at hlt; simp at hlt)
      simp only at hspot
      subst hspot
      have hbab : w1.heap.size ≤ ab := HX.out.2.2.2.1 ab rfl
      have hc : wr.cell? ⟨ab, ao + k, none⟩ = some (.int .i64 xs[k]) := HI.out.touch.cell (hcs k xs[k] (by simp [hlt])) (by have := HX.out.2.2.2.2.2.1; have := Hn1.out.2; show ¬(ab = P ∨ ab = L'); omega)
      have hlt2 : k + 1 ≤ xs.length := hlt
      have hxm : xs[k] ∈ xs := List.getElem_mem hlt
      have htk : xs.take (k + 1) = xs.take k ++ [xs[k]] := List.take_succ_eq_append_getElem hlt
      generalize xs[k] = x at *
      have hsx : (d.since x).isSome = true := (Hk.out x).1 ((HX.out.2.2.2.2.1 x).1 hxm)
      obtain ⟨ls, hls⟩ := Option.isSome_iff_exists.1 hsx
      obtain ⟨hd, hF, hPk, hneg, hst, hok, hD, hDn, hb01, hL2, hT2⟩ := Hw.out
      obtain ⟨hx1, hx2, hls1, hls2, hls5⟩ := hok.since x ls hls
      have hL'lt := HX.out.2.2.2.2.2.1
      have hszw1 := Hn1.out.2
      have hTr : Touch (fun b => b = P ∨ b = L') w1 wr := (HX.out.2.2.2.2.2.2.1.mono (fun b _ h => .inr h)).trans HI.out.touch
      have hFn : ∀ b, F b → ¬ (b = P ∨ b = L') := fun b hb h => by have := hF b hb; omega
      have hSA := hD.sinceAt.touch hTr (fun b hb _ => hFn b hb)
      obtain ⟨v, hmx, hrow⟩ : ∃ v, mc x = some v ∧ wr.ownsRow 0 69 512 v ls.length (ls.flatMap bcells) ∧ (∀ g, v.ownBlock = some g → F g) := by
        rcases hSA.one x with ⟨_, q2⟩ | ⟨v, ls', q1, q2, q3, q4⟩
        · rw [hls] at q2; cases q2
        · rw [hls] at q2; cases q2; exact ⟨v, q1, q3, fun g hg => (q4 g hg).1⟩
      obtain ⟨hrow, hvF⟩ := hrow
      obtain ⟨gs, cs, hv, hld0⟩ := load_since hrow hls5 0 ls[0] (by simp)
      clear hld0
      subst hv
      have hgF : F gs := hvF gs rfl
      have haP : a ≠ P := by omega
      have hCP : C ≠ P := by omega
      have hps : (crashL d l (xs.take k)).2 = l.drop k := by rw [crashL_snd, List.length_take]; congr 1; omega
      have hp0 : 0 ≤ (crashL d l (xs.take k)).2.headD 0 := by
        rw [hps]
        cases hdr : l.drop k with
        | nil => exact Int.le_refl _
        | cons y r =>
          have hym : y ∈ l := List.mem_of_mem_drop (by rw [hdr]; simp : y ∈ l.drop k)
          have : ¬ y < 0 := fun h => by
            have : anyNeg l = true := List.any_eq_true.2 ⟨y, hym, by simpa using h⟩
            rw [hneg] at this; cases this
          show 0 ≤ y; omega
      have hstep : crashL d l (xs.take (k + 1)) = crashStep d (crashL d l (xs.take k)) x := by rw [htk, crashL_snoc]
      have hcr : crashL d l (xs.take (k + 1)) = (fun j => if j = x then (crashPick ls ((crashL d l (xs.take k)).2.headD 0)).or ((crashL d l (xs.take k)).1 x) else (crashL d l (xs.take k)).1 j, (crashL d l (xs.take k)).2.tail) := by
        rw [hstep]; unfold crashStep; rw [hls]; rfl
      obtain ⟨hIp, hIm, hIt⟩ := HI.out
      generalize (crashL d l (xs.take k)).2 = ps at *
      generalize (crashL d l (xs.take k)).1 = mk at *
      have hll : (ls.length : Int) < 1073741824 := by omega
      have hlk : ∀ W, (W.cell? ⟨a, 3, none⟩ = some (.map (some C)) ∧ IntMap W C mc) → (Instr.lookup 49 (.map (some C)) (.int .i64 x) false).run Try.prog W = .ok (.slice (some ⟨gs, 0, none⟩) ls.length cs) W := fun W hW => by
        have := run_lookup_int (P := Try.prog) hW.2 Try.underlying49 Try.underlying3 Try.zeroValue74 x
        rw [this, hmx]; rfl
      have hadd : ∀ W, (binOp .add 3 (.int .i64 (ls.length : Int)) (.int .i64 1)).run Try.prog W = .ok (.int .i64 ((ls.length : Int) + 1)) W := fun W => by
        have hw : IntKind.i64.wrap ((ls.length : Int) + 1) = (ls.length : Int) + 1 := by simp [IntKind.wrap, IntKind.signed, IntKind.bits]; omega
        simp [go_sem, hw]
      have hrem : ∀ W, (binOp .rem 3 (.int .i64 (ps.headD 0)) (.int .i64 ((ls.length : Int) + 1))).run Try.prog W = .ok (.int .i64 (ps.headD 0 % ((ls.length : Int) + 1))) W := fun W => by
        have e : (ps.headD 0).tmod ((ls.length : Int) + 1) = ps.headD 0 % ((ls.length : Int) + 1) := Int.tmod_eq_emod_of_nonneg hp0
        have h0 : ¬ ((ls.length : Int) + 1 = 0) := by omega
        rw [← e]
        generalize ps.headD 0 = z
        simp [go_sem, h0]
      have HR := Lib.hid (And.intro hIp (And.intro hIm (And.intro hIt (And.intro hTr (And.intro hFn (And.intro hrow (And.intro hgF (And.intro hls5 (And.intro hcr (And.intro hls1 hp0))))))))))
      have HRl := Lib.hid (And.intro hlk (And.intro hadd (And.intro hrem (And.intro haP (And.intro hCP (And.intro hL'lt hszw1))))))
      clear hIp hIm hIt hTr hFn hrow hgF hls5 hcr hls1 hp0 hlk hadd hrem haP hCP hd hF hPk hneg hst hok hD hDn hb01 hL2 hT2 hx1 hx2 hls2 hL'lt hszw1 hSA hmx hvF hps hstep hbab hcs hxm htk hsx hls
      go_wp2
      obtain ⟨hlk, hadd, hrem, haP, hCP, hL'lt, hszw1⟩ := HRl.out
      obtain ⟨hIp, hIm, hIt, hTr, hFn, hrow, hgF, hls5, hcr, hls1, hp0⟩ := HR.out
      obtain ⟨hf1, hf1', hf2', hf3⟩ := Hf.out
      have hpk : PickAt wr.drew P ps := hIp.touch (S := fun _ => False) (Touch.refl _ _).drew (fun h => h) (fun b _ h => h)
      have hD := Hw.out.2.2.2.2.2.2.1
      have hF := Hw.out.2.1
      have ga := hF a (hD.foot a (by simp))
      have gC := hF C (hD.foot C (by simp))
      have hS : wr.drew.cell? ⟨a, 3, none⟩ = some (.map (some C)) ∧ IntMap wr.drew C mc := ⟨hTr.drew.cell (cellOf hD.cells rfl) (by intro h; omega), hD.since.touch hTr.drew (by intro h; omega)⟩
      refine plain_region_draws (fun W => W.cell? ⟨a, 3, none⟩ = some (.map (some C)) ∧ IntMap W C mc) (by kernel_rfl) hS (fun hS => ?_)
      refine take 0 45 (v := .func (.func 31) #[] #[.pointer (some ⟨P, 0, none⟩)]) rfl rfl (by kernel_rfl) (by kernel_rfl) (by kernel_rfl) rfl (fun W hW => exec_move rfl rfl) (by assumption) ?_
      simp only [Act.put, List.setIfInBounds_toArray, List.set_cons_zero, List.set_cons_succ]
      refine take 2 47 (v := .pointer (some ⟨a, 0, none⟩)) rfl rfl (by kernel_rfl) (by kernel_rfl) (by kernel_rfl) rfl (fun W hW => exec_move rfl rfl) (by assumption) ?_
      simp only [Act.put, List.setIfInBounds_toArray, List.set_cons_zero, List.set_cons_succ]
      refine take 3 48 (v := .pointer (some ⟨a, 0, none⟩)) rfl rfl (by kernel_rfl) (by kernel_rfl) (by kernel_rfl) rfl (fun W hW => rfl) (by assumption) ?_
      simp only [Act.put, List.setIfInBounds_toArray, List.set_cons_zero, List.set_cons_succ]
      refine take 4 49 (v := .pointer (some ⟨a, 3, none⟩)) rfl rfl (by kernel_rfl) (by kernel_rfl) (by kernel_rfl) rfl (fun W hW => exec_fieldAddr rfl rfl (hf3 W)) (by assumption) ?_
      simp only [Act.put, List.setIfInBounds_toArray, List.set_cons_zero, List.set_cons_succ]
      refine take 5 50 (v := .map (some C)) rfl rfl (by kernel_rfl) (by kernel_rfl) (by kernel_rfl) rfl (fun W hW => exec_load rfl rfl (run_load1 (w := W) Try.underlying49 rfl hW.1)) (by assumption) ?_
      simp only [Act.put, List.setIfInBounds_toArray, List.set_cons_zero, List.set_cons_succ]
      refine take 6 51 (v := .int .i64 x) rfl rfl (by kernel_rfl) (by kernel_rfl) (by kernel_rfl) rfl (fun W hW => exec_move rfl rfl) (by assumption) ?_
      simp only [Act.put, List.setIfInBounds_toArray, List.set_cons_zero, List.set_cons_succ]
      refine take 7 52 (v := .slice (some ⟨gs, 0, none⟩) ls.length cs) rfl rfl (by kernel_rfl) (by kernel_rfl) (by kernel_rfl) rfl (fun W hW => exec_lookup rfl rfl rfl (hlk W hW)) (by assumption) ?_
      simp only [Act.put, List.setIfInBounds_toArray, List.set_cons_zero, List.set_cons_succ]
      refine take 8 53 (v := .int .i64 (ls.length : Int)) rfl rfl (by kernel_rfl) (by kernel_rfl) (by kernel_rfl) rfl (fun W hW => exec_lenany rfl rfl) (by assumption) ?_
      simp only [Act.put, List.setIfInBounds_toArray, List.set_cons_zero, List.set_cons_succ]
      refine take 9 54 (v := .int .i64 ((ls.length : Int) + 1)) rfl rfl (by kernel_rfl) (by kernel_rfl) (by kernel_rfl) rfl (fun W hW => exec_bini rfl rfl rfl (hadd W)) (by assumption) ?_
      simp only [Act.put, List.setIfInBounds_toArray, List.set_cons_zero, List.set_cons_succ]
      refine onlyCall 1 46 rfl rfl (by kernel_rfl) rfl (exec_callv rfl rfl Try.func31 (by kernel_rfl) (by kernel_rfl)) ?_
      refine (next_pick hpk).mono ?_
      rintro e w5 ⟨rfl, hpk5, hT5, hsz5⟩
      have hS5 : w5.cell? ⟨a, 3, none⟩ = some (.map (some C)) ∧ IntMap w5 C mc := ⟨hT5.cell hS.1 (by exact haP), hS.2.touch hT5 (by exact hCP)⟩
      refine ⟨_, rfl, .inr hS5, ?_⟩
      simp only [Act.put, List.setIfInBounds_toArray, List.set_cons_zero, List.set_cons_succ]
      refine take 10 55 (v := .int .i64 (ps.headD 0 % ((ls.length : Int) + 1))) rfl rfl (by kernel_rfl) (by kernel_rfl) (by kernel_rfl) rfl (fun W hW => exec_bini rfl rfl rfl (hrem W)) (by assumption) ?_
      simp only [Act.put, List.setIfInBounds_toArray, List.set_cons_zero, List.set_cons_succ]
      refine take 11 11 (v := .int .i64 (ps.headD 0 % ((ls.length : Int) + 1))) rfl rfl (by kernel_rfl) (by kernel_rfl) (by kernel_rfl) rfl (fun W hW => exec_assign rfl rfl) (by assumption) ?_
      simp only [Act.put, List.setIfInBounds_toArray, List.set_cons_zero, List.set_cons_succ]
      refine done (by kernel_rfl) ?_ _
      have hq0 : 0 ≤ ps.headD 0 % ((ls.length : Int) + 1) := Int.emod_nonneg _ (by omega)
      have hq1 : ps.headD 0 % ((ls.length : Int) + 1) < (ls.length : Int) + 1 := Int.emod_lt_of_pos _ (by omega)
      unfold crashPick at hcr
      generalize hqe : ps.headD 0 % ((ls.length : Int) + 1) = q at hcr hq0 hq1 ⊢
      clear hqe
      have hT6 : Touch (fun b => b = P) wr w5 := (Touch.refl _ _).drew.step hT5 (fun b _ h => h)
      have hDtr : Touch (fun b => b = P ∨ b = L') w4 w5 := hIt.step hT6 (fun b _ h => .inl h)
      have hneL : L' ≠ P := by omega
      have hIm5 : IntMap w5 L' (fun j => (mk j).map blkV) := hIm.touch hT6 (by exact hneL)
      have hrow5 : w5.ownsRow 0 69 512 (.slice (some ⟨gs, 0, none⟩) ls.length cs) ls.length (ls.flatMap bcells) := by
        have hgP := hF gs hgF
        exact ownsRow_heap hrow fun g hg => hT6.block g ((by have := hrow.lt g hg; exact this.2) : g < wr.heap.size) (by cases hg; intro h; have h' : gs = P := h; omega)
      by_cases hq : q = 0
      · subst hq
        have hfin : CrI w4 w5 P L' d l (xs.take (k + 1)) := by
          rw [if_pos (by rfl)] at hcr
          refine ⟨by rw [hcr]; exact hpk5, ?_, hDtr⟩
          rw [hcr]
          have e : (fun j => (if j = x then (none : Option (List UInt8)).or (mk x) else mk j : Option (List UInt8)).map blkV) = fun j => (mk j).map blkV := by
            funext j
            by_cases h : j = x
            · rw [if_pos h, h]; rfl
            · rw [if_neg h]
          have h := hIm5
          rw [← e] at h; exact h
        have Hfin := Lib.hid hfin
        clear hfin hcr hpk5 hIm5 hrow5 hDtr hT6 hT5 hS5 hIp hIm hIt hTr hFn hrow hpk hS hlk hadd hrem
        go_wp2
        go_roundw
        case rel => exact ⟨k + 1, by omega, by go_num, Hfin.out⟩
        case measure => simp [intOf]; omega
      · obtain ⟨m, rfl⟩ : ∃ m : Nat, q = (m : Int) + 1 := ⟨(q - 1).toNat, by omega⟩
        have hmlt : m < ls.length := by omega
        obtain ⟨y, hy⟩ : ∃ y, ls[m]? = some y := ⟨ls[m], List.getElem?_eq_getElem hmlt⟩
        have hylen : y.length = 512 := hls5 y (List.mem_of_getElem? hy)
        have hq2 : decide ((m : Int) + 1 > 0) = true := decide_eq_true (by omega)
        rw [if_neg (by omega), show ((m : Int) + 1).toNat - 1 = m from rfl, hy] at hcr
        have hsub : ∀ W, (binOp .sub 3 (.int .i64 ((m : Int) + 1)) (.int .i64 1)).run Try.prog W = .ok (.int .i64 (m : Int)) W := fun W => by
          have hw : IntKind.i64.wrap (m : Int) = (m : Int) := by simp [IntKind.wrap, IntKind.signed, IntKind.bits]; omega
          simp [go_sem, hw]
        have hix : ∀ W, (Instr.indexAt 74 (.slice (some ⟨gs, 0, none⟩) ls.length cs) (.int .i64 (m : Int))).run Try.prog W = .ok (.pointer (some ⟨gs, m * 512, none⟩)) W := fun W => by
          have h1 : 0 ≤ (m : Int) := by omega
          have hszb : (sizeOf 69).run Try.prog W = .ok 512 W := Try.sizeOf69 W
          simp [go_sem, hmlt, hszb, addr_add]
        obtain ⟨g2, c2', hcc, hld⟩ := load_since hrow5 hls5 m y hy
        cases hcc
        obtain ⟨g3, c3', hcc, hld'⟩ := load_since (ownsRow_heap (w' := w5.drew) hrow5 (fun _ _ => rfl)) hls5 m y hy
        cases hcc
        clear hld
        have hld := hld'
        clear hld'
        obtain ⟨W2, hup0, hT7, hIm7, hsz7⟩ := run_mapUpdate_int (P := Try.prog) (T := 48) (w := w5.drew) (hIm5.touch (S := fun _ => False) (Touch.refl _ _).drew (fun h => h)) Try.underlying48 Try.underlying3 x (blkV y)
        have hup := hup0
        have hT7' : Touch (fun b => b = L') w5 W2 := (Touch.refl _ _).drew.step hT7 (fun b _ h => h)
        have hfin : CrI w4 W2 P L' d l (xs.take (k + 1)) := by
          refine ⟨?_, ?_, hDtr.step hT7' (fun b _ h => .inr h)⟩
          · rw [hcr]; exact hpk5.touch hT7' (by exact fun h => hneL h.symm) (fun b hb h => by have h' : b = L' := h; omega)
          · rw [hcr]
            have e : (fun j => ((if j = x then (some y).or (mk x) else mk j : Option (List UInt8))).map blkV) = updI (fun j => (mk j).map blkV) x (blkV y) := by
              funext j
              unfold updI
              by_cases h : j = x
              · rw [if_pos h, if_pos h]; rfl
              · rw [if_neg h, if_neg h]
            simp only [e]; exact hIm7
        have hDn := Hw.out.2.2.2.2.2.2.2.1
        have ca1 : w5.cell? ⟨a', 1, none⟩ = some (.map (some L')) := by
          have h1 : w1.cell? ⟨a', 1, none⟩ = some (.map (some L')) := cellOf hDn.cells rfl
          have h2 := HX.out.2.2.2.2.2.2.1.cell h1 (by exact n1)
          refine hDtr.cell h2 ?_
          intro h
          rcases h with h | h
          · omega
          · exact n1 h
        have Hfin := Lib.hid hfin
        have HS := Lib.hid (And.intro ca1 (And.intro hS5 (And.intro hld (And.intro hup (And.intro hsub (And.intro hix hlk))))))
        clear hfin hcr hpk5 hIm5 hrow5 hDtr hT6 hT5 hS5 hIp hIm hIt hTr hFn hrow hpk hS hlk hadd hrem hup hup0 hld hix hsub hT7 hT7' hIm7 hy hylen hDn ca1
        go_wp2
        obtain ⟨ca1, hS5, hld, hup, hsub, hix, hlk⟩ := HS.out
        obtain ⟨hf1, hf1', hf2', hf3⟩ := Hf.out
        have hS : w5.drew.cell? ⟨a', 1, none⟩ = some (.map (some L')) ∧ (w5.drew.cell? ⟨a, 3, none⟩ = some (.map (some C)) ∧ IntMap w5.drew C mc) ∧ (loadVar 69 ⟨gs, m * 512, none⟩).run Try.prog w5.drew = .ok (blkV y) w5.drew :=
          ⟨ca1, ⟨hS5.1, hS5.2.touch (S := fun _ => False) (Touch.refl _ _).drew (fun h => h)⟩, hld⟩
        refine plain_region_draws (fun W => W.cell? ⟨a', 1, none⟩ = some (.map (some L')) ∧ (W.cell? ⟨a, 3, none⟩ = some (.map (some C)) ∧ IntMap W C mc) ∧ (loadVar 69 ⟨gs, m * 512, none⟩).run Try.prog W = .ok (blkV y) W) (by kernel_rfl) hS (fun hS => ?_)
        refine take 0 58 (v := .pointer (some ⟨a', 0, none⟩)) rfl rfl (by kernel_rfl) (by kernel_rfl) (by kernel_rfl) rfl (fun W hW => exec_move rfl rfl) (by assumption) ?_
        simp only [Act.put, List.setIfInBounds_toArray, List.set_cons_zero, List.set_cons_succ]
        refine take 1 59 (v := .pointer (some ⟨a', 0, none⟩)) rfl rfl (by kernel_rfl) (by kernel_rfl) (by kernel_rfl) rfl (fun W hW => rfl) (by assumption) ?_
        simp only [Act.put, List.setIfInBounds_toArray, List.set_cons_zero, List.set_cons_succ]
        refine take 2 60 (v := .pointer (some ⟨a', 1, none⟩)) rfl rfl (by kernel_rfl) (by kernel_rfl) (by kernel_rfl) rfl (fun W hW => exec_fieldAddr rfl rfl (hf1' W)) (by assumption) ?_
        simp only [Act.put, List.setIfInBounds_toArray, List.set_cons_zero, List.set_cons_succ]
        refine take 3 61 (v := .map (some L')) rfl rfl (by kernel_rfl) (by kernel_rfl) (by kernel_rfl) rfl (fun W hW => exec_load rfl rfl (run_load1 (w := W) Try.underlying48 rfl hW.1)) (by assumption) ?_
        simp only [Act.put, List.setIfInBounds_toArray, List.set_cons_zero, List.set_cons_succ]
        refine take 4 62 (v := .int .i64 x) rfl rfl (by kernel_rfl) (by kernel_rfl) (by kernel_rfl) rfl (fun W hW => exec_move rfl rfl) (by assumption) ?_
        simp only [Act.put, List.setIfInBounds_toArray, List.set_cons_zero, List.set_cons_succ]
        refine take 5 63 (v := .pointer (some ⟨a, 0, none⟩)) rfl rfl (by kernel_rfl) (by kernel_rfl) (by kernel_rfl) rfl (fun W hW => exec_move rfl rfl) (by assumption) ?_
        simp only [Act.put, List.setIfInBounds_toArray, List.set_cons_zero, List.set_cons_succ]
        refine take 6 64 (v := .pointer (some ⟨a, 0, none⟩)) rfl rfl (by kernel_rfl) (by kernel_rfl) (by kernel_rfl) rfl (fun W hW => rfl) (by assumption) ?_
        simp only [Act.put, List.setIfInBounds_toArray, List.set_cons_zero, List.set_cons_succ]
        refine take 7 65 (v := .pointer (some ⟨a, 3, none⟩)) rfl rfl (by kernel_rfl) (by kernel_rfl) (by kernel_rfl) rfl (fun W hW => exec_fieldAddr rfl rfl (hf3 W)) (by assumption) ?_
        simp only [Act.put, List.setIfInBounds_toArray, List.set_cons_zero, List.set_cons_succ]
        refine take 8 66 (v := .map (some C)) rfl rfl (by kernel_rfl) (by kernel_rfl) (by kernel_rfl) rfl (fun W hW => exec_load rfl rfl (run_load1 (w := W) Try.underlying49 rfl hW.2.1.1)) (by assumption) ?_
        simp only [Act.put, List.setIfInBounds_toArray, List.set_cons_zero, List.set_cons_succ]
        refine take 9 67 (v := .int .i64 x) rfl rfl (by kernel_rfl) (by kernel_rfl) (by kernel_rfl) rfl (fun W hW => exec_move rfl rfl) (by assumption) ?_
        simp only [Act.put, List.setIfInBounds_toArray, List.set_cons_zero, List.set_cons_succ]
        refine take 10 68 (v := .slice (some ⟨gs, 0, none⟩) ls.length cs) rfl rfl (by kernel_rfl) (by kernel_rfl) (by kernel_rfl) rfl (fun W hW => exec_lookup rfl rfl rfl (hlk W hW.2.1)) (by assumption) ?_
        simp only [Act.put, List.setIfInBounds_toArray, List.set_cons_zero, List.set_cons_succ]
        refine take 11 69 (v := .int .i64 ((m : Int) + 1)) rfl rfl (by kernel_rfl) (by kernel_rfl) (by kernel_rfl) rfl (fun W hW => exec_move rfl rfl) (by assumption) ?_
        simp only [Act.put, List.setIfInBounds_toArray, List.set_cons_zero, List.set_cons_succ]
        refine take 12 70 (v := .int .i64 (m : Int)) rfl rfl (by kernel_rfl) (by kernel_rfl) (by kernel_rfl) rfl (fun W hW => exec_bini rfl rfl rfl (hsub W)) (by assumption) ?_
        simp only [Act.put, List.setIfInBounds_toArray, List.set_cons_zero, List.set_cons_succ]
        refine take 13 71 (v := .pointer (some ⟨gs, m * 512, none⟩)) rfl rfl (by kernel_rfl) (by kernel_rfl) (by kernel_rfl) rfl (fun W hW => exec_indexAddr rfl rfl rfl (hix W)) (by assumption) ?_
        simp only [Act.put, List.setIfInBounds_toArray, List.set_cons_zero, List.set_cons_succ]
        refine take 14 72 (v := blkV y) rfl rfl (by kernel_rfl) (by kernel_rfl) (by kernel_rfl) rfl (fun W hW => exec_load rfl rfl hW.2.2) (by assumption) ?_
        simp only [Act.put, List.setIfInBounds_toArray, List.set_cons_zero, List.set_cons_succ]
        refine onlySkip 15 rfl rfl (by kernel_rfl) rfl (exec_mapUpdate rfl rfl rfl rfl hup) (.inl (by kernel_rfl)) ?_
        refine done (by kernel_rfl) ?_ _
        clear hS hlk hix hsub hup hld hS5 ca1 hf1 hf1' hf2' hf3
        go_wp2
        go_roundw
        case rel => exact ⟨k + 1, by omega, by go_num, Hfin.out⟩
        case measure => simp [intOf]; omega
    · obtain ⟨hd, hF, hPk, hneg, hst, hok, hD, hDn, hb01, hL2, hT2⟩ := Hw.out
      have hI := HI.out
      rw [List.take_of_length_le (by omega), HX.out.1] at hI
      have hTW4 := HX.out.2.2.2.2.2.2.1
      have hL'lt := HX.out.2.2.2.2.2.1
      have hImap := hI.map
      have hTr : Touch (fun b => b = P ∨ b = L') w1 wr := (hTW4.mono (fun b _ h => .inr h)).trans hI.touch
      have hszw1 := Hn1.out.2
      have hdr : Touch (fun _ => False) wr wr.drew := (Touch.refl _ _).drew
      have hn1 : IntMap wr.drew S' (fun k => ((fun _ => none : Int → Option (List UInt8)) k).map blkV) := (hDn.seen.touch hTr (by intro h; omega)).touch hdr (fun h => h)
      have hn2 : IntMap wr.drew L' (fun k => ((crashL d l (sinceKeys d)).1 k).map blkV) := hI.map.touch hdr (fun h => h)
      have hne2 : S' ≠ L' := fun h => n5 h.symm
      have hl2 : ∀ k x, (crashL d l (sinceKeys d)).1 k = some x → x.length = 512 := fun k x h => (crashL_ok hok l _ k x h).1
      have c1 : wr.drew.cell? ⟨a', 1, none⟩ = some (.map (some L')) := hTr.drew.cell (cellOf hDn.cells rfl) (by intro h; omega)
      have c2 : wr.drew.cell? ⟨a', 2, none⟩ = some (.map (some S')) := hTr.drew.cell (cellOf hDn.cells rfl) (by intro h; omega)
      have Hn := Lib.hid (And.intro hn1 (And.intro hn2 (And.intro hne2 (And.intro hl2 (And.intro c1 c2)))))
      have HT := Lib.hid (And.intro hTr (And.intro hDn (And.intro hb01 (And.intro hok hImap))))
      clear hImap hn1 hn2 hne2 hl2 c1 c2 hTr hDn hb01 hok hd hF hPk hneg hst hD hL2 hT2 hI hTW4 hL'lt hdr
      go_wp2
      obtain ⟨hn1, hn2, hne2, hl2, c1, c2⟩ := Hn.out
      obtain ⟨hf1, hf1', hf2', hf3⟩ := Hf.out
      refine plain_region_draws (fun W => W.cell? ⟨a', 2, none⟩ = some (.map (some S')) ∧ W.cell? ⟨a', 1, none⟩ = some (.map (some L'))) (by kernel_rfl) ⟨c2, c1⟩ (fun hS => ?_)
      refine take 0 74 (v := .pointer (some ⟨a', 0, none⟩)) rfl rfl (by kernel_rfl) (by kernel_rfl) (by kernel_rfl) rfl (fun W hW => exec_move rfl rfl) (by assumption) ?_
      simp only [Act.put, List.setIfInBounds_toArray, List.set_cons_zero, List.set_cons_succ]
      refine take 1 75 (v := .pointer (some ⟨a', 0, none⟩)) rfl rfl (by kernel_rfl) (by kernel_rfl) (by kernel_rfl) rfl (fun W hW => rfl) (by assumption) ?_
      simp only [Act.put, List.setIfInBounds_toArray, List.set_cons_zero, List.set_cons_succ]
      refine take 2 76 (v := .pointer (some ⟨a', 2, none⟩)) rfl rfl (by kernel_rfl) (by kernel_rfl) (by kernel_rfl) rfl (fun W hW => exec_fieldAddr rfl rfl (hf2' W)) (by assumption) ?_
      simp only [Act.put, List.setIfInBounds_toArray, List.set_cons_zero, List.set_cons_succ]
      refine take 3 77 (v := .map (some S')) rfl rfl (by kernel_rfl) (by kernel_rfl) (by kernel_rfl) rfl (fun W hW => exec_load rfl rfl (run_load1 (w := W) Try.underlying48 rfl hW.1)) (by assumption) ?_
      simp only [Act.put, List.setIfInBounds_toArray, List.set_cons_zero, List.set_cons_succ]
      refine take 4 78 (v := .pointer (some ⟨a', 0, none⟩)) rfl rfl (by kernel_rfl) (by kernel_rfl) (by kernel_rfl) rfl (fun W hW => exec_move rfl rfl) (by assumption) ?_
      simp only [Act.put, List.setIfInBounds_toArray, List.set_cons_zero, List.set_cons_succ]
      refine take 5 79 (v := .pointer (some ⟨a', 0, none⟩)) rfl rfl (by kernel_rfl) (by kernel_rfl) (by kernel_rfl) rfl (fun W hW => rfl) (by assumption) ?_
      simp only [Act.put, List.setIfInBounds_toArray, List.set_cons_zero, List.set_cons_succ]
      refine take 6 80 (v := .pointer (some ⟨a', 1, none⟩)) rfl rfl (by kernel_rfl) (by kernel_rfl) (by kernel_rfl) rfl (fun W hW => exec_fieldAddr rfl rfl (hf1' W)) (by assumption) ?_
      simp only [Act.put, List.setIfInBounds_toArray, List.set_cons_zero, List.set_cons_succ]
      refine take 7 81 (v := .map (some L')) rfl rfl (by kernel_rfl) (by kernel_rfl) (by kernel_rfl) rfl (fun W hW => exec_load rfl rfl (run_load1 (w := W) Try.underlying48 rfl hW.2)) (by assumption) ?_
      simp only [Act.put, List.setIfInBounds_toArray, List.set_cons_zero, List.set_cons_succ]
      refine onlyCall 8 82 rfl rfl (by kernel_rfl) rfl (exec_call [.map (some S'), .map (some L')] rfl rfl Try.func32 (by kernel_rfl) (by kernel_rfl)) ?_
      refine (copy_any hn1 hn2 hne2 hl2).mono ?_
      rintro e w9 ⟨rfl, hm9, hT9⟩
      refine ⟨_, rfl, .inr ⟨hT9.cell hS.1 (by omega), hT9.cell hS.2 (by omega)⟩, ?_⟩
      simp only [Act.put, List.setIfInBounds_toArray, List.set_cons_zero, List.set_cons_succ]
      refine done (by kernel_rfl) ?_ _
      obtain ⟨hTr, hDn, hb01, hok, hImap⟩ := HT.out
      have hT9' : Touch (fun b => b = S') wr w9 := (Touch.refl _ _).drew.step hT9 (fun b _ h => h)
      have hTall : Touch (fun b => (b = P ∨ b = L') ∨ b = S') w1 w9 := (hTr.mono (fun b _ h => .inl h)).trans (hT9'.mono (fun b _ h => .inr h))
      have hfin : Disk w9 (fun b => P ≤ b) a' (d.crash l) := by
        refine ⟨hok.crash l, L', S', C', X', mcn, hTall.heap hDn.cells (by intro h; omega), hDn.nodup, fun b hb => by have h : P + 1 ≤ b := hDn.foot b hb; exact Nat.le_of_succ_le h, ?_, ?_, ?_, ?_, ?_⟩
        · exact hImap.touch hT9' (by exact n5)
        · have e : (fun k => (((crashL d l (sinceKeys d)).1 k).or ((fun _ => none : Int → Option (List UInt8)) k)).map blkV) = (fun k => ((d.crash l).seen k).map blkV) := by
            funext k
            show _ = ((crashL d l (sinceKeys d)).1 k).map blkV
            cases (crashL d l (sinceKeys d)).1 k <;> rfl
          rw [← e]; exact hm9
        · exact hDn.fails.touch hTall (by intro h; omega)
        · exact hDn.since.touch hTall (by intro h; omega)
        · have h1 := hDn.sinceAt
          refine ⟨fun k => ?_, h1.apart⟩
          rcases h1.one k with h2 | ⟨v, l, h2, h3, _⟩
          · exact .inl h2
          · cases h3
      have hB : Below P w w9 := hTall.below hb01 (fun b hb h => by omega) (by omega)
      have Hfin := Lib.hid (And.intro hfin hB)
      clear hfin hB hTall hT9' hTr hDn hb01 hok hImap hm9 hT9 hn1 hn2 hne2 hl2 c1 c2 hf1 hf1' hf2' hf3 hS
      go_wp2
      go_ret2
      exact ⟨a', rfl, by rw [hPw]; exact Hfin.out⟩
end Go.Proofs.Ytmgajgeoibbmjaa
