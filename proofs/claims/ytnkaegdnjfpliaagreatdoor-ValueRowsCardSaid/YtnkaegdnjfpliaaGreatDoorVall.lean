/- value.all: the iterator over a value and all in it. -/
import Derived.Test.YtnkaegdnjfpliaaGreatDoorVrange
import Derived.Test.YtnkaegdnjfpliaaGreatDoorVbare
import Derived.Test.YtnkaegdnjfpliaaGreatDoorVcopy
namespace Go.Proofs.YtnkaegdnjfpliaaGreatDoor
set_option linter.unusedSimpArgs false
set_option linter.unusedVariables false
open Go.RowKit

mutual
/-- A value and all in it, each with how deep it lies. -/
def preV (d : Nat) : V → List (Nat × V)
  | .mk k b n t ks l => (d, .mk k b n t ks l) :: preVs (d + 1) l
def preVs (d : Nat) : List V → List (Nat × V)
  | [] => []
  | a :: r => preV d a ++ preVs d r
end
theorem preV_eq (d : Nat) (v : V) : preV d v = (d, v) :: preVs (d + 1) v.list := by cases v; rw [preV]; rfl
theorem preVs_snoc (d : Nat) (v : V) : ∀ l : List V, preVs d (l ++ [v]) = preVs d l ++ preV d v := by
  intro l
  induction l with
  | nil => simp [preVs]
  | cons a r ih => rw [List.cons_append, preVs, preVs, ih, List.append_assoc]
theorem preVs_append (d : Nat) (m : List V) : ∀ l : List V, preVs d (l ++ m) = preVs d l ++ preVs d m := by
  intro l
  induction l with
  | nil => simp [preVs]
  | cons a r ih => rw [List.cons_append, preVs, preVs, ih, List.append_assoc]
/-- What is yielded: how deep, which value, its cells. -/
abbrev Yd := Nat × V × Array Value
def dv (e : Yd) : Nat × V := (e.1, e.2.1)
def encY (e : Yd) : Array Value := #[.int .i64 (e.1 : Int), .agg e.2.2]
/-- What may come so far. -/
def okY (w0 : World) (root : V) (pre : List Yd) : Prop := (∃ rest, preV 1 root = pre.map dv ++ rest) ∧ ∀ e ∈ pre, VRd w0 e.2.1 e.2.2
def doneY (w0 : World) (root : V) (pre : List Yd) : Prop := okY w0 root pre ∧ preV 1 root = pre.map dv
/-- The iterator's own two blocks. -/
def RecY (W : World) (n0 L : Nat) : Prop := W.heap[n0]? = some (.cells #[.func (.yield L) #[] #[]] 118 (0, 0)) ∧ W.heap[n0 + 1]? = some (.cells #[.func (.func 113) #[] #[.pointer (some ⟨n0, 0, none⟩), .pointer (some ⟨n0 + 1, 0, none⟩)]] 119 (0, 0))
/-- From n0 on blocks that lay stay. -/
def RestY (n0 : Nat) (W W' : World) : Prop := W.heap.size ≤ W'.heap.size ∧ ∀ b, n0 ≤ b → b < W.heap.size → W'.heap[b]? = W.heap[b]?
theorem RestY.refl (n0 : Nat) (W : World) : RestY n0 W W := ⟨Nat.le_refl _, fun _ _ _ => rfl⟩
theorem RestY.trans {n0 : Nat} {W W' W'' : World} (h : RestY n0 W W') (g : RestY n0 W' W'') : RestY n0 W W'' := ⟨Nat.le_trans h.1 g.1, fun b h1 h2 => (g.2 b h1 (Nat.lt_of_lt_of_le h2 h.1)).trans (h.2 b h1 h2)⟩
theorem RestY.of_below {n0 : Nat} {W W' : World} (h : Below W.heap.size W W') : RestY n0 W W' := ⟨h.size, fun b _ hb => h.block b hb⟩
theorem RestY.blk {n0 : Nat} {W W' : World} (h : RestY n0 W W') {b : Nat} {o : Obj} (hb : n0 ≤ b) (g : W.heap[b]? = some o) : W'.heap[b]? = some o := (h.2 b hb (Array.getElem?_eq_some_iff.1 g).1).trans g
theorem RecY.rest {n0 L : Nat} {W W' : World} (h : RecY W n0 L) (g : RestY n0 W W') : RecY W' n0 L := ⟨g.blk (Nat.le_refl _) h.1, g.blk (by omega) h.2⟩

section
variable {w0 : World} {root : V} {L n0 : Nat} {J : List Yd → World → Prop} {Jx : World → Prop}
/-- What a caller of yield owes and is owed. -/
structure CtxY (w0 : World) (root : V) (L n0 : Nat) (J : List Yd → World → Prop) (Jx : World → Prop) : Prop where
  pre : ∀ pre W, J pre W → Below w0.heap.size w0 W
  keep : ∀ pre W W', J pre W → n0 ≤ W.heap.size → Touch (fun b => n0 ≤ b) W W' → J pre W'
  yields : ∀ pre x W, okY w0 root (pre ++ [x]) → J pre W → n0 ≤ W.heap.size → Yields Tryz.prog L (encY x) W (fun e W' =>
      (∀ b, n0 ≤ b → b < W.heap.size → W'.heap[b]? = W.heap[b]?) ∧ W.heap.size ≤ W'.heap.size ∧ ((e = .returned (.bool true) ∧ J (pre ++ [x]) W') ∨ (e = .returned (.bool false) ∧ Jx W')))
/-- What going over a value does. -/
def GoesY (w0 : World) (root : V) (n0 : Nat) (J : List Yd → World → Prop) (Jx : World → Prop) (pre : List Yd) (ds : List (Nat × V)) (W : World) (e : Ending) (W' : World) : Prop :=
  RestY n0 W W' ∧ ∃ r, e = .returned (.bool r) ∧ (r = true → ∃ ys, okY w0 root (pre ++ ys) ∧ ys.map dv = ds ∧ J (pre ++ ys) W') ∧ (r = false → Jx W')
end

/-- Inside the loop over a value's list. -/
def LoopY (w0 : World) (root : V) (n0 L : Nat) (J : List Yd → World → Prop) (pre : List Yd) (e : Yd) (d : Nat) (done : List V) (W W' : World) : Prop :=
  ∃ ys, okY w0 root (pre ++ [e] ++ ys) ∧ ys.map dv = preVs (d + 1) done ∧ J (pre ++ [e] ++ ys) W' ∧ RecY W' n0 L ∧ RestY n0 W W'
theorem exec_yield {P : Program} {a : Act} {w : World} {o : Oper} {l : Nat} {fn : FuncId} {tmps : Array Value} {assign body : Code} {f : Operand} {xs : List Operand} {ts : Array TypeId} (vs : List Value) (ho : o.op = .call { callee := .value f, args := xs.toArray, argTypes := ts })
    (hf : a.eval f = .func (.yield l) #[] #[]) (hx : xs.map a.eval = vs) (hy : (Instr.yield l vs.toArray).run P w = .ok (.round l fn tmps assign body) w) : (execOp a.eval o).run P w = .ok (.round l fn tmps assign body) w := by
  unfold execOp
  simp only [ho, resolve, hf, List.map_toArray, hx, Deferred.ofValue, Sem.run_bind, Sem.run_pure, Result.andThen_ok, invoke, Array.empty_append, Array.append_empty]
  exact hy
set_option maxRecDepth 100000 in
set_option maxHeartbeats 4000000 in
theorem goes_any {w0 : World} {root : V} {L n0 : Nat} {J : List Yd → World → Prop} {Jx : World → Prop} (C : CtxY w0 root L n0 J Jx) (h0 : w0.heap.size ≤ n0) :
    ∀ (v : V) (d : Nat), d + totV v ≤ 140737488355328 → ∀ (pre : List Yd) (x : Array Value) (W : World), VRd w0 v x → okY w0 root pre → (∃ rest, preV 1 root = pre.map dv ++ (preV d v ++ rest)) → J pre W → RecY W n0 L →
      Calls Tryz.prog 113 #[.agg x, .int .i64 (d : Int), .pointer (some ⟨n0, 0, none⟩), .pointer (some ⟨n0 + 1, 0, none⟩)] W (GoesY w0 root n0 J Jx pre (preV d v) W) := by
  refine V.ind fun k b n t ks l ih => ?_
  intro d hd pre x W hx hok hrest hJ hR
  rw [totV_mk] at hd
  have hlen := totVs_length l
  have hN : n0 + 1 < W.heap.size := (Array.getElem?_eq_some_iff.1 hR.2).1
  have hx0 := hx
  obtain ⟨pk, ck, pl, cl, rfl, _, hk1, hl1⟩ := VRd_iff.1 hx
  have hT := OneB.start W #[.int .i64 k, .bool b, .int .i64 n, .string (strB t), .slice pk ks.length ck, .slice pl l.length cl]
  have hJ1 := C.keep _ _ _ hJ (by omega) (Touch.of_below hT.2 (fun b h1 h2 => absurd h1 (by omega)))
  have hR1 := hR.rest (RestY.of_below hT.2)
  obtain ⟨rest, hrest⟩ := hrest
  rw [preV] at hrest
  have hokE : okY w0 root (pre ++ [(d, V.mk k b n t ks l, #[.int .i64 k, .bool b, .int .i64 n, .string (strB t), .slice pk ks.length ck, .slice pl l.length cl])]) :=
    ⟨⟨preVs (d + 1) l ++ rest, by rw [hrest]; simp [dv]⟩, fun e he => by
      rcases List.mem_append.1 he with he | he
      · exact hok.2 e he
      · obtain rfl := List.mem_singleton.1 he; exact hx0⟩
  obtain ⟨yfn, ytmps, yas, ybody, hyr, hround⟩ := C.yields _ _ _ hokE hJ1 (by have := hT.2.size; omega)
  have z1 : (d : Int) ≤ 140737488355328 := by omega
  have z2 : (l.length : Int) ≤ 140737488355328 := by omega
  have HC := Lib.hid C
  have HI := Lib.hid (fun (a : V) (ha : a ∈ l) => ih a ha (d + 1) (by have := totVs_mem ha; omega))
  have HL := Lib.hid hl1
  have HR := Lib.hid hR1
  have HT := Lib.hid hT
  have HY := Lib.hid (And.intro hyr (And.intro hround (And.intro hokE hrest)))
  have HN := Lib.hid (And.intro hN h0)
  clear C ih hd hx hok hrest hJ hR hlen hk1 hl1 hT hJ1 hR1 hokE hyr hround hx0 h0 hN
  go_enter Tryz.func113, Tryz.ntmps113
  apply wp_seq_k
  intro K1 hK1
  have HK1 := Lib.hid hK1
  clear hK1
  go_wp2
  refine HK1.out _ _ ?_
  obtain ⟨hyr, hround, hokE, hrest⟩ := HY.out
  have hT := HT.out
  have hR1 := HR.out
  generalize W.alloc _ = W1 at *
  apply wp_seq_k
  intro _ _
  apply wp_seq_k
  intro K2 hK2
  have HK2 := Lib.hid hK2
  clear hK2 HK1
  refine yield_region ?_
  refine listRun rfl (fun _ h => by cases h) (v := .func (.yield L) #[] #[]) (exec_load rfl rfl (run_load1 Tryz.underlying118 rfl (cellOf hR1.1 rfl))) ?_
  simp only [Act.put, List.setIfInBounds_toArray, List.set_cons_zero, List.set_cons_succ]
  refine listRun rfl (fun _ h => by cases h) (v := .int .i64 (d : Int)) (exec_move rfl rfl) ?_
  simp only [Act.put, List.setIfInBounds_toArray, List.set_cons_zero, List.set_cons_succ]
  refine listRun rfl (fun _ h => by cases h) (v := .agg #[.int .i64 k, .bool b, .int .i64 n, .string (strB t), .slice pk ks.length ck, .slice pl l.length cl]) (exec_load rfl rfl (get_val hT.1)) ?_
  simp only [Act.put, List.setIfInBounds_toArray, List.set_cons_zero, List.set_cons_succ]
  refine listYield rfl (fun _ h => by cases h) (exec_yield [.int .i64 (d : Int), .agg #[.int .i64 k, .bool b, .int .i64 n, .string (strB t), .slice pk ks.length ck, .slice pl l.length cl]] rfl rfl rfl hyr) (hround.mono ?_)
  rintro e W2 ⟨hkeep, hsz, hcase⟩
  have hRest2 : RestY n0 W1 W2 := ⟨hsz, hkeep⟩
  have hRest : RestY n0 W W2 := (RestY.of_below hT.2).trans hRest2
  have hbx : W2.heap[W.heap.size]? = some (.cells #[.int .i64 k, .bool b, .int .i64 n, .string (strB t), .slice pk ks.length ck, .slice pl l.length cl] 26 (0, 0)) := hRest2.blk (by have := HN.out; omega) hT.1
  have hR2 := hR1.rest hRest2
  rcases hcase with ⟨rfl, hJ2⟩ | ⟨rfl, hX⟩
  · refine ⟨_, rfl, ?_⟩
    simp only [Act.put, List.setIfInBounds_toArray, List.set_cons_zero, List.set_cons_succ]
    refine listRun rfl (fun _ h => by cases h) (v := .bool false) (exec_unot (b := true) rfl rfl) ?_
    simp only [Act.put, List.setIfInBounds_toArray, List.set_cons_zero, List.set_cons_succ]
    refine wpListIn_nil (HK2.out _ _ ?_ : K2 _ _)
    have HF := Lib.hid (And.intro hRest (And.intro hbx (And.intro hR2 (And.intro hJ2 (And.intro hokE hrest)))))
    have p5 := cellOf (o := 5) hbx rfl
    clear hyr hround hokE hrest hkeep hsz hT hR1 hRest hRest2 hbx hR2 hJ2 HY HT HR HK2
    go_wp2
    clear p5
    go_loopw [17] (fun i W' => ∃ j : Nat, j ≤ l.length ∧ i = .int .i64 (j : Int) ∧ Hid (LoopY w0 root n0 L J pre (d, V.mk k b n t ks l, #[.int .i64 k, .bool b, .int .i64 n, .string (strB t), .slice pk ks.length ck, .slice pl l.length cl]) d (l.take j) W W')) (fun i _ => l.length - (intOf i).toNat)
    case atStart => exact ⟨0, Nat.zero_le _, rfl, Lib.hid ⟨[], by rw [List.append_nil]; exact HF.out.2.2.2.2.1, by rw [List.take_zero]; rfl, by rw [List.append_nil]; exact HF.out.2.2.2.1, HF.out.2.2.1, HF.out.1⟩⟩
    case round =>
      obtain ⟨j, hj, rfl, HJ⟩ := hrel
      by_cases hlt : j < l.length
      · have hlt1 : j + 1 ≤ l.length := hlt
        obtain ⟨ys, hok, hmap, hJ, hR, hRest⟩ := HJ.out
        have hB := HC.out.pre _ _ hJ
        obtain ⟨g1, o1, pk1, ck1, pl1, cl1, rfl, ⟨a0, a1, a2, a3, a4, a5⟩, hv1⟩ := HL.out.at hlt
        have b0 := belowCell hB (ltOf a0) a0
        have b1 := belowCell hB (ltOf a1) a1
        have b2 := belowCell hB (ltOf a2) a2
        have b3 := belowCell hB (ltOf a3) a3
        have b4 := belowCell hB (ltOf a4) a4
        have b5 := belowCell hB (ltOf a5) a5
        have q1 := cellOf (o := 0) hR.2 rfl
        have htk : l.take (j + 1) = l.take j ++ [l[j]] := List.take_succ_eq_append_getElem hlt
        have hmem := List.getElem_mem hlt
        have hpr : preVs (d + 1) l = preVs (d + 1) (l.take j) ++ (preV (d + 1) l[j] ++ preVs (d + 1) (l.drop (j + 1))) := by
          have e : l = l.take j ++ (l[j] :: l.drop (j + 1)) := by rw [← List.drop_eq_getElem_cons hlt, List.take_append_drop]
          have := congrArg (preVs (d + 1)) e
          rw [preVs_append, preVs] at this
          exact this
        have hcall := fun W' (hJ : J _ W') (hR : RecY W' n0 L) => HI.out l[j] hmem _ _ W' hv1 hok (by
          obtain ⟨rest2, hr2⟩ := (⟨rest, HF.out.2.2.2.2.2⟩ : ∃ rest, preV 1 root = _ ++ ((d, V.mk k b n t ks l) :: preVs (d + 1) l ++ rest))
          refine ⟨preVs (d + 1) (l.drop (j + 1)) ++ rest2, ?_⟩
          rw [hr2, hpr, List.map_append, List.map_append, hmap]
          simp [dv]) hJ hR
        generalize l[j] = s1 at *
        have q2 := belowCell (below_new (w := wr) (.cells #[.int .i64 s1.kind, .bool s1.b, .int .i64 s1.n, .string (strB s1.text), .slice pk1 s1.keys.length ck1, .slice pl1 s1.list.length cl1] 26)) (ltOf q1) q1
        have HD := Lib.hid (And.intro hcall (And.intro hmap (And.intro hJ (And.intro hR (And.intro hRest htk)))))
        clear hcall hok hmap hJ hR hRest hB hv1 htk hmem hpr a0 a1 a2 a3 a4 a5 HJ
        go_wp2_with (go_at_call 113
                     (
                       have hN1 : n0 + 1 < wr.heap.size := (Array.getElem?_eq_some_iff.1 HD.out.2.2.2.1.2).1
                       have hb8 := below_new (w := wr) (.cells #[.int .i64 s1.kind, .bool s1.b, .int .i64 s1.n, .string (strB s1.text), .slice pk1 s1.keys.length ck1, .slice pl1 s1.list.length cl1] 26)
                       refine (HD.out.1 _ (HC.out.keep _ _ _ HD.out.2.2.1 (by omega) (Touch.of_below hb8 (fun b h1 h2 => absurd h1 (by omega)))) (HD.out.2.2.2.1.rest (RestY.of_below hb8))).mono ?_
                       rintro e w3 ⟨hr3, r, rfl, ht, hf⟩
                       have HG := Lib.hid (And.intro ht (And.intro hf ((RestY.of_below hb8).trans hr3)))
                       clear hb8 hr3 ht hf))
        · go_ret
          cases r with
          | true => rename_i hh; exact absurd hh (by simp)
          | false => exact ⟨HD.out.2.2.2.2.1.trans HG.out.2.2, _, rfl, (fun h => by cases h), fun _ => HG.out.2.1 rfl⟩
        · cases r with
          | false => rename_i hh; exact absurd hh (by simp)
          | true =>
            obtain ⟨zs, hok3, hmap3, hJ3⟩ := HG.out.1 rfl
            have HF3 := Lib.hid (And.intro hok3 (And.intro hmap3 hJ3))
            clear hok3 hmap3 hJ3
            refine ⟨⟨j + 1, hlt1, by go_num, Lib.hid ⟨_ ++ zs, by rw [← List.append_assoc]; exact HF3.out.1, ?_, by rw [← List.append_assoc]; exact HF3.out.2.2, HD.out.2.2.2.1.rest HG.out.2.2, HD.out.2.2.2.2.1.trans HG.out.2.2⟩⟩, by simp [intOf]; omega⟩
            rw [List.map_append, HD.out.2.1, HF3.out.2.1, HD.out.2.2.2.2.2, preVs_append]
            simp [preVs]
      · obtain rfl : j = l.length := by omega
        have h := HJ.out
        rw [List.take_length] at h
        have HF2 := Lib.hid h
        clear h HJ
        go_wp2
        go_ret
        obtain ⟨ys, hok, hmap, hJ, hR, hRest⟩ := HF2.out
        refine ⟨hRest, true, rfl, fun _ => ⟨_ :: ys, by rw [List.append_assoc] at hok; exact hok, ?_, by rw [List.append_assoc] at hJ; exact hJ⟩, fun h => by cases h⟩
        rw [List.map_cons, hmap, preV]
        rfl
  · refine ⟨_, rfl, ?_⟩
    simp only [Act.put, List.setIfInBounds_toArray, List.set_cons_zero, List.set_cons_succ]
    refine listRun rfl (fun _ h => by cases h) (v := .bool true) (exec_unot (b := false) rfl rfl) ?_
    simp only [Act.put, List.setIfInBounds_toArray, List.set_cons_zero, List.set_cons_succ]
    refine wpListIn_nil (HK2.out _ _ ?_ : K2 _ _)
    have HF := Lib.hid (And.intro hRest hX)
    clear hyr hround hokE hrest hkeep hsz hT hR1 hRest hRest2 hbx hR2 hX HY HT HR HK2
    go_wp2
    go_ret
    exact ⟨HF.out.1, _, rfl, (fun h => by cases h), fun _ => HF.out.2⟩

theorem put_goes {w : World} {ad p q : Addr} {u : Value} (hc : w.cell? ad = some u) (hf : w.frozen? ad = false) :
    (storeVar 119 ad (.func (.func 113) #[] #[.pointer (some p), .pointer (some q)])).run Tryz.prog w = .ok () (w.setCell ad (.func (.func 113) #[] #[.pointer (some p), .pointer (some q)])) := by
  have h := run_store Tryz.prog w ad (.func (.func 113) #[] #[.pointer (some p), .pointer (some q)]) .plain rfl
  have e : (Value.func (.func 113) #[] #[.pointer (some p), .pointer (some q)]).cells = #[Value.func (.func 113) #[] #[.pointer (some p), .pointer (some q)]] := rfl
  simp [storeVar, go_sem, e, storeCells, h, stored, hc, hf, Addr.add]
set_option maxRecDepth 100000 in
set_option maxHeartbeats 2000000 in
theorem iter_all {w0 : World} {root : V} {x : Array Value} (B : Nat) (hx : VRd w0 root x) (ht : totV root ≤ 140737488355327) :
    IterA Tryz.prog 112 #[.pointer (some ⟨B, 0, none⟩)] encY (okY w0 root) (doneY w0 root) (fun W => Below w0.heap.size w0 W ∧ W.heap[B]? = some (.cells x 26 (0, 0))) := by
  intro L J Jx w hlt hpre hkeep hY h0
  obtain ⟨hb0, hB⟩ := hpre _ _ h0
  have hBlt := (Array.getElem?_eq_some_iff.1 hB).1
  have hC : CtxY w0 root L w.heap.size J Jx := ⟨fun pre W h => (hpre pre W h).1, hkeep, hY⟩
  obtain ⟨pk, ck, pl, cl, rfl, _⟩ := hx.open
  have hA : ((w.alloc (.cells #[.func (.yield L) #[] #[]] 118)).alloc (.cells #[.nilFunc] 119)).heap[w.heap.size + 1]? = some (.cells #[.nilFunc] 119 (0, 0)) := by
    simp only [heap_get_alloc, World.size_alloc]; rw [if_pos trivial]
  have hA0 : ((w.alloc (.cells #[.func (.yield L) #[] #[]] 118)).alloc (.cells #[.nilFunc] 119)).heap[w.heap.size]? = some (.cells #[.func (.yield L) #[] #[]] 118 (0, 0)) := by
    simp only [heap_get_alloc, World.size_alloc]; rw [if_neg (by omega), if_pos trivial]
  have hAb : Below w.heap.size w ((w.alloc (.cells #[.func (.yield L) #[] #[]] 118)).alloc (.cells #[.nilFunc] 119)) := (below_new _).alloc (by simp) _
  have hst := put_goes (p := ⟨w.heap.size, 0, none⟩) (q := ⟨w.heap.size + 1, 0, none⟩) (cellOf (o := 0) hA rfl) (freeOf (o := 0) hA)
  have hR : RecY (((w.alloc (.cells #[.func (.yield L) #[] #[]] 118)).alloc (.cells #[.nilFunc] 119)).setCell ⟨w.heap.size + 1, 0, none⟩ (.func (.func 113) #[] #[.pointer (some ⟨w.heap.size, 0, none⟩), .pointer (some ⟨w.heap.size + 1, 0, none⟩)])) w.heap.size L :=
    ⟨(Below.heap_setCell _ _ _ _ (by show w.heap.size ≠ w.heap.size + 1; omega)).trans hA0, box_set _ hA⟩
  have hbW : Below w.heap.size w (((w.alloc (.cells #[.func (.yield L) #[] #[]] 118)).alloc (.cells #[.nilFunc] 119)).setCell ⟨w.heap.size + 1, 0, none⟩ (.func (.func 113) #[] #[.pointer (some ⟨w.heap.size, 0, none⟩), .pointer (some ⟨w.heap.size + 1, 0, none⟩)])) := belowSet hAb (by omega) _
  have HS := Lib.hid hst
  clear hst hA hA0 hAb
  generalize ((w.alloc (.cells #[.func (.yield L) #[] #[]] 118)).alloc (.cells #[.nilFunc] 119)).setCell ⟨w.heap.size + 1, 0, none⟩ (.func (.func 113) #[] #[.pointer (some ⟨w.heap.size, 0, none⟩), .pointer (some ⟨w.heap.size + 1, 0, none⟩)]) = W2 at *
  have hbox := belowBlk hbW hBlt hB
  have hJ := hkeep _ _ _ h0 (Nat.le_refl _) (Touch.of_below hbW (fun b h1 h2 => absurd h1 (by omega)))
  have hcall := goes_any hC hb0.size root 1 (by omega) [] _ _ hx ⟨⟨preV 1 root, rfl⟩, fun e he => by simp at he⟩ ⟨[], by simp⟩ hJ hR
  have HCall := Lib.hid hcall
  have HV := Lib.hid (get_val hbox)
  have HL := Lib.hid (run_load1 (P := Tryz.prog) Tryz.underlying119 rfl (cellOf (o := 0) hR.2 rfl))
  clear hcall hbox hR hJ hC hpre hkeep hY h0 hx hB hb0
  refine callsIn_of_wp Tryz.func112 rfl trivial ?_ rfl
  refine (wpIn_wide (n := 0)).2 ?_
  simp only [Tryz.ntmps112, List.size_toArray, List.length_cons, List.length_nil, Nat.reduceAdd, Nat.reduceSub, Array.replicate_succ, Array.replicate_zero, List.push_toArray, List.append_toArray, List.nil_append, List.cons_append]
  go_wp2_with (first
    | (refine wpList_store rfl _ _ _ _ rfl rfl rfl HS.out ?_)
    | (refine wpList_load rfl _ _ _ rfl rfl HL.out ?_)
    | (refine wpList_load rfl _ _ _ rfl rfl HV.out ?_)
    | (go_at_call 113
       (
         refine HCall.out.mono ?_
         rintro e w3 ⟨_, r, rfl, ht, hf⟩
         have HG := Lib.hid (And.intro ht hf)
         clear ht hf)))
  go_end0
  refine ⟨rfl, ?_⟩
  cases r with
  | true =>
    obtain ⟨ys, h1, h2, h3⟩ := HG.out.1 rfl
    exact .inl ⟨ys, ⟨h1, h2.symm⟩, h3⟩
  | false => exact .inr (HG.out.2 rfl)
end Go.Proofs.YtnkaegdnjfpliaaGreatDoor
