/- The next pick; a block out of those that were written since; what a crash leaves. -/
import Derived.Test.YtmgajgeoibbmjaaPicks
import Derived.Test.YtmgajgeoibbmjaaCopy
import Derived.Test.YtmgajgeoibbmjaaHalf
namespace Go.Proofs.Ytmgajgeoibbmjaa
open Go.RowKit

/-- Picks lie behind the box P. -/
def PickAt (w : World) (P : Nat) (l : List Int) : Prop :=
  ∃ p n c, w.cell? ⟨P, 0, none⟩ = some (.slice p n c) ∧ w.frozen? ⟨P, 0, none⟩ = false ∧ RdI w (.slice p n c) l ∧ n ≤ c ∧ (∀ ad, p = some ad → l ≠ [] → ad.block < P)
theorem RdI.touch {S : Nat → Prop} {w w' : World} {v : Value} {l : List Int} (h : RdI w v l) (g : Touch S w w') (hs : l ≠ [] → ∀ b, v.ownBlock = some b → ¬ S b) : RdI w' v l := by
  obtain ⟨a, cap, rfl, h1, h2⟩ := h
  exact ⟨a, cap, rfl, h1, fun ad had => ⟨(h2 ad had).1, fun i k hi => g.cell ((h2 ad had).2 i k hi) (hs (fun e => by rw [e] at hi; simp at hi) _ (by subst had; rfl))⟩⟩

theorem PickAt.touch {S : Nat → Prop} {w w' : World} {P : Nat} {l : List Int} (h : PickAt w P l) (g : Touch S w w') (hP : ¬ S P) (hs : ∀ b, b < P → ¬ S b) : PickAt w' P l := by
  obtain ⟨p, n, c, h1, h2, h3, h4, h5⟩ := h
  exact ⟨p, n, c, g.cell h1 hP, g.frozen h2 (ltOf h1) hP, h3.touch g (fun hl b hb => hs b (by
    cases p with
    | none => cases hb
    | some ad => have := h5 ad rfl hl; rw [← Option.some.inj hb]; exact this)), h4, h5⟩
set_option maxRecDepth 100000 in
set_option maxHeartbeats 1000000 in
theorem next_pick {w : World} {P : Nat} {l : List Int} (h : PickAt w P l) :
    Calls Try.prog 31 #[.pointer (some ⟨P, 0, none⟩)] w fun e w' => e = .returned (.int .i64 (l.headD 0)) ∧ PickAt w' P l.tail ∧ Touch (fun b => b = P) w w' ∧ w'.heap.size = w.heap.size := by
  obtain ⟨p, n, c, hc, hf, ⟨a, cap, heq, hnil, hcell⟩, hle, hne⟩ := h
  cases heq
  cases l with
  | nil =>
    have H : Hid (PickAt w P ([] : List Int).tail) := Lib.hid ⟨p, _, c, hc, hf, ⟨p, c, rfl, hnil, hcell⟩, hle, hne⟩
    have hl0 : ([] : List Int).length = 0 := rfl
    clear hnil hcell hle hne hf
    rw [hl0] at hc
    clear hl0
    go_enter Try.func31, Try.ntmps31
    go_wp2
    go_ret
    exact ⟨rfl, H.out, Touch.refl _ _, rfl⟩
  | cons x r =>
    obtain ⟨ad, rfl⟩ : ∃ ad, p = some ad := by
      cases p with
      | none => exact absurd (hnil rfl) (by simp)
      | some ad => exact ⟨ad, rfl⟩
    obtain ⟨hspot, hcs⟩ := hcell ad rfl
    obtain ⟨ab, ao, asp⟩ := ad
    have hspot := hspot (by simp)
    simp only at hspot
    subst hspot
    have hx := hcs 0 x rfl
    rw [Nat.add_zero] at hx
    have hn1 : (x :: r).length = r.length + 1 := rfl
    rw [hn1] at hc hle
    obtain ⟨q, hq⟩ : ∃ q : Option Addr, q = (if c = 1 then some ⟨ab, ao, none⟩ else (some (⟨ab, ao, none⟩ : Addr)).map (·.add (1 * 1))) := ⟨_, rfl⟩
    have htl : ∀ W, (Instr.sliceAt 31 (.slice (some ⟨ab, ao, none⟩) (r.length + 1) c) ((some 1 : Option Int).map (.int .i64)) ((none : Option Int).map (.int .i64)) none).run Try.prog W = .ok (.slice q (r.length + 1 - 1) (c - 1)) W :=
      fun W => by rw [hq]; exact run_tail (some ⟨ab, ao, none⟩) (r.length + 1) c (by omega) hle W
    have hltP := hne _ rfl (by simp)
    have hneq : ab ≠ P := Nat.ne_of_lt hltP
    have hT : Touch (fun b => b = P) w (w.setCell ⟨P, 0, none⟩ (.slice q (r.length + 1 - 1) (c - 1))) := (Touch.refl _ _).setCell (.inl (by exact rfl)) _
    have hfin : PickAt (w.setCell ⟨P, 0, none⟩ (.slice q (r.length + 1 - 1) (c - 1))) P r := by
      refine ⟨_, _, _, World.cell?_setCell_same' _ _ _ (by rw [hc]; rfl), by rw [World.frozen?_setCell]; exact hf, ?_, by omega, ?_⟩
      · rw [Nat.add_sub_cancel] at hT ⊢
        by_cases h1 : c = 1
        · have hr0 : r = [] := List.eq_nil_of_length_eq_zero (by omega)
          subst hr0
          rw [if_pos h1] at hq
          subst hq
          exact ⟨_, _, rfl, fun h => (by cases h), fun ad had => ⟨fun _ => by cases had; rfl, fun i k hi => by simp at hi⟩⟩
        · rw [if_neg h1] at hq
          simp only [Option.map_some, addr_add] at hq
          subst hq
          refine ⟨_, _, rfl, fun h => (by cases h), fun ad had => ?_⟩
          cases had
          refine ⟨fun _ => rfl, fun i k hi => ?_⟩
          have := hcs (i + 1) k (by simpa using hi)
          refine hT.cell ?_ (by exact hneq)
          show w.cell? ⟨ab, ao + 1 * 1 + i, none⟩ = _
          rw [show ao + 1 * 1 + i = ao + (i + 1) by omega]; exact this
      · intro ad had _
        by_cases h1 : c = 1
        · rw [if_pos h1] at hq; subst hq; cases had; exact hltP
        · rw [if_neg h1] at hq
          simp only [Option.map_some, addr_add] at hq
          subst hq; cases had; exact hltP
    have Hf := Lib.hid (And.intro hfin (And.intro hT (show (w.setCell ⟨P, 0, none⟩ (.slice q (r.length + 1 - 1) (c - 1))).heap.size = w.heap.size by simp [World.setCell])))
    have Htl := Lib.hid htl
    clear hfin hT htl hcs hnil hcell hne hneq hltP hn1 hq
    go_enter Try.func31, Try.ntmps31
    go_wp2_with (refine wpList_run rfl (exec_slice rfl rfl rfl rfl rfl (Htl.out _)) ?_)
    go_ret
    exact ⟨rfl, Hf.out⟩

/-- A call of a function value that captures. -/
theorem exec_callv {P : Program} {w : World} {a : Act} {o : Oper} {f : Operand} {g : FuncId} {fn : Func} {lb : Array Value} {ts : Array TypeId} (ho : o.op = .call { callee := .value f, args := #[], argTypes := ts }) (hf : a.eval f = .func (.func g) #[] lb)
    (hfn : P.funcs[g]? = some fn) (hb : fn.body.isSome = true) (hn : (fn.name == "runtime.NumGoroutine") = false) : (execOp a.eval o).run P w = .ok (.enter g lb) w := by
  have hc := enters_plain hfn hb hn lb w
  unfold execOp
  simp only [ho, resolve, hf, List.map_toArray, List.map_nil, Deferred.ofValue, Sem.run_bind, Sem.run_pure, Result.andThen_ok, invoke, Array.empty_append]
  exact hc

theorem flat_at {l : List (List UInt8)} (h : ∀ x ∈ l, x.length = 512) : ∀ (i j : Nat) (x : List UInt8) (u : Value), l[i]? = some x → (bcells x)[j]? = some u → (l.flatMap bcells)[512 * i + j]? = some u := by
  induction l with
  | nil => intro i j x u hi; simp at hi
  | cons y r ih =>
    intro i j x u hi hj
    have hy : (bcells y).length = 512 := by rw [bcells_length]; exact h y (by simp)
    rw [List.flatMap_cons]
    cases i with
    | zero =>
      simp at hi; subst hi
      rw [Nat.mul_zero, Nat.zero_add, List.getElem?_append_left ((List.getElem?_eq_some_iff.1 hj).1)]
      exact hj
    | succ i =>
      rw [List.getElem?_append_right (by omega), hy]
      have e : 512 * (i + 1) + j - 512 = 512 * i + j := by omega
      rw [e]
      exact ih (fun x hx => h x (by simp [hx])) i j x u (by simpa using hi) hj

/-- A block out of a slice of blocks. -/
theorem load_since {w : World} {v : Value} {l : List (List UInt8)} (h : w.ownsRow 0 69 512 v l.length (l.flatMap bcells)) (hl : ∀ x ∈ l, x.length = 512) (i : Nat) (x : List UInt8) (hi : l[i]? = some x) :
    ∃ g c, v = .slice (some ⟨g, 0, none⟩) l.length c ∧ (loadVar 69 ⟨g, i * 512, none⟩).run Try.prog w = .ok (blkV x) w := by
  rcases h.2 with ⟨rfl, h0⟩ | ⟨g, cap, cur, rfl, _, hg, hnc, hcm, hcs, htake⟩
  · have : l = [] := List.eq_nil_of_length_eq_zero h0
    subst this; simp at hi
  · refine ⟨g, cap, rfl, ?_⟩
    have hxl : x.length = 512 := hl x (List.mem_of_getElem? hi)
    have hlen : (bcells x).length = 512 := by rw [bcells_length, hxl]
    have hc := run_loadCells_list (P := Try.prog) (w := w) ⟨g, i * 512, none⟩ (bcells x) (fun j u hj => by
      have h1 := flat_at hl i j x u hi hj
      rw [← htake] at h1
      have h2 : cur[512 * i + j]? = some u := by
        rw [List.getElem?_take] at h1
        split at h1
        · simpa using h1
        · cases h1
      rw [addr_add, show i * 512 + j = 512 * i + j by omega]
      exact cellOf hg h2)
    rw [hlen] at hc
    have hagg : (isAgg 69).run Try.prog w = .ok true w := Try.isAgg69 w
    have hsz : (sizeOf 69).run Try.prog w = .ok 512 w := Try.sizeOf69 w
    unfold loadVar blkV
    simp only [Sem.run_bind, hagg, Result.andThen_ok, if_true, hsz, hc, Sem.run_pure]

/-! ### what a crash leaves, plainly -/
def sinceKeys (d : DM) : List Int := ((List.range d.size).map fun i : Nat => (i : Int)).filter fun k => (d.since k).isSome
/-- One block's pick. -/
def crashPick (ls : List (List UInt8)) (p : Int) : Option (List UInt8) := if (p % ((ls.length : Int) + 1)).toNat = 0 then none else ls[(p % ((ls.length : Int) + 1)).toNat - 1]?
def crashStep (d : DM) (s : (Int → Option (List UInt8)) × List Int) (k : Int) : (Int → Option (List UInt8)) × List Int :=
  (fun j => if j = k then (crashPick ((d.since k).getD []) (s.2.headD 0)).or (s.1 k) else s.1 j, s.2.tail)
def crashL (d : DM) (picks : List Int) (ks : List Int) : (Int → Option (List UInt8)) × List Int := ks.foldl (crashStep d) (d.lasting, picks)
theorem crashL_snoc (d : DM) (picks ks : List Int) (k : Int) : crashL d picks (ks ++ [k]) = crashStep d (crashL d picks ks) k := by simp [crashL]
def DM.crash (d : DM) (picks : List Int) : DM :=
  { size := d.size, lasting := (crashL d picks (sinceKeys d)).1, seen := (crashL d picks (sinceKeys d)).1, since := fun _ => none, fails := fun _ => none, steps := 0 }

theorem strict_unique : ∀ (l m : List Int), l.Pairwise (· < ·) → m.Pairwise (· < ·) → (∀ k, k ∈ l ↔ k ∈ m) → l = m
  | [], [], _, _, _ => rfl
  | [], y :: m, _, _, h => absurd ((h y).2 (by simp)) (by simp)
  | x :: l, [], _, _, h => absurd ((h x).1 (by simp)) (by simp)
  | x :: l, y :: m, hl, hm, h => by
    have hl' := List.pairwise_cons.1 hl
    have hm' := List.pairwise_cons.1 hm
    have hxy : x = y := by
      rcases List.mem_cons.1 ((h x).1 (by simp)) with e | e
      · exact e
      · rcases List.mem_cons.1 ((h y).2 (by simp)) with e2 | e2
        · exact e2.symm
        · have := hm'.1 x e; have := hl'.1 y e2; omega
    subst hxy
    congr 1
    refine strict_unique l m hl'.2 hm'.2 (fun k => ?_)
    constructor
    · intro hk
      rcases List.mem_cons.1 ((h k).1 (by simp [hk])) with e | e
      · subst e; have := hl'.1 k hk; omega
      · exact e
    · intro hk
      rcases List.mem_cons.1 ((h k).2 (by simp [hk])) with e | e
      · subst e; have := hm'.1 k hk; omega
      · exact e
theorem sinceKeys_strict (d : DM) : (sinceKeys d).Pairwise (· < ·) := by
  unfold sinceKeys
  refine List.Pairwise.filter _ (List.Pairwise.map _ (fun a b h => ?_) List.pairwise_lt_range)
  exact Int.ofNat_lt.2 h
theorem mem_sinceKeys {d : DM} (h : d.Ok) (k : Int) : k ∈ sinceKeys d ↔ (d.since k).isSome = true := by
  unfold sinceKeys
  rw [List.mem_filter, List.mem_map]
  constructor
  · exact fun h => h.2
  · intro hk
    obtain ⟨l, hl⟩ := Option.isSome_iff_exists.1 hk
    obtain ⟨h1, h2, _⟩ := h.since k l hl
    exact ⟨⟨k.toNat, List.mem_range.2 (by omega), by omega⟩, hk⟩
end Go.Proofs.Ytmgajgeoibbmjaa
