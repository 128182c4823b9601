/- Texts that the proof shares (each declaration is a lemma of this layer). -/
import Derived.Test.YtihfnegakcghiaaGreatDoorZGchecksa
import Derived.Test.YtihfnegakcghiaaGreatDoorZGchecksb
import Derived.Laws.BitsAllLaws
import Derived.Shelf.SlIterI.Nil
import Derived.Shelf.SortM.Plain
import Derived.Shelf.SortM.SortNone
import Derived.Ground.GgzProg
import Derived.Ground.SlgmProg
import Derived.Ground.SlgnProg
import Derived.Ground.Names2Prog
import Derived.Shelf.SlicesG.SearchI
import Derived.Shelf.Spec.SlicesInsert
import Derived.Shelf.Spec.SlicesInsertGrow
import Derived.Test.YtihfnegakcghiaaGreatDoorProg
import Derived.Laws.Cover3
import Derived.Laws.StructEq
import Derived.Shelf.SlSortCmp.WholeK
import Derived.Ground.NamesProg
import Derived.Shelf.SlSortCmp.Whole1
import Derived.Shelf.SlSortCmp.NoneTotal
import Derived.Ground.SlsfProg
import Derived.Shelf.SlicesE.Compact
import Derived.Shelf.SlicesE.Delete
import Derived.Shelf.SlicesE.Clone
import Derived.Shelf.SlicesE.IndexFunc
import Derived.Shelf.Spec.SearchS
set_option linter.unusedSimpArgs false
set_option linter.unusedVariables false
set_option maxRecDepth 100000
set_option maxHeartbeats 64000000
namespace Go.Proofs.YtihfnegakcghiaaGreatDoor
open Go.RowKit
theorem fa_prop0 (b : Nat) (W : World) : (Instr.fieldAt 47 (.pointer (some ⟨b, 0, none⟩)) 0).run Tryz.prog W = .ok (.pointer (some ⟨b, 0, none⟩)) W := by simp [go_sem]
theorem fa_prop1 (b : Nat) (W : World) : (Instr.fieldAt 47 (.pointer (some ⟨b, 0, none⟩)) 1).run Tryz.prog W = .ok (.pointer (some ⟨b, 1, none⟩)) W := by simp [go_sem]
theorem exec_buildProp {a : Act} {w : World} {o : Oper} {x0 x1 : Operand} {s : ByteArray} {k0 k1 k2 k3 k4 k5 : Value} (ho : o.op = .build 47 #[(0, x0), (1, x1)]) (h0 : a.eval x0 = .string s) (h1 : a.eval x1 = .agg #[k0, k1, k2, k3, k4, k5]) : (execOp a.eval o).run Tryz.prog w = .ok (.value (.agg #[.string s, k0, k1, k2, k3, k4, k5])) w := by
  unfold execOp; simp [ho, go_sem, h0, h1, Act.eval] at h0 h1 ⊢; simp [h0, h1]
theorem copyProps_any {w : World} {p : Option Addr} {c : Nat} {l : List PropD} (h : GRd PRd 7 w p c l) (ho : PsOk l) : Calls Tryz.prog 98 #[.slice p l.length c] w fun e w' => ∃ v, e = .returned v ∧ GOwn POwn 47 7 w' (fun b => w.heap.size ≤ b) v l ∧ Below w.heap.size w w' := by
  have z1 : (l.length : Int) ≤ 140737488355328 := by have := h.1.2.1; omega
  have H := Lib.hid h
  have HO := Lib.hid ho
  clear h ho
  go_enter Tryz.func98, Tryz.ntmps98
  go_wp2
  go_loopw [3, 8] (fun o i wr => ∃ (j n : Nat) (p : Option Addr) (c : Nat), j ≤ l.length ∧ i = .int .i64 (j : Int) ∧ o = .slice p n c ∧ Hid (GInv POwn 47 7 w wr (.slice p n c) (l.take j))) (fun _ i _ => l.length - (intOf i).toNat)
  case atStart => exact ⟨0, 0, none, 0, Nat.zero_le _, rfl, rfl, Lib.hid (GInv.start (Below.refl _ _))⟩
  case round =>
    obtain ⟨j, no, po, co, hj, rfl, rfl, HJ⟩ := hrel
    by_cases hlt : j < l.length
    · have hlt1 : j + 1 ≤ l.length := hlt
      have htk : l.take (j + 1) = l.take j ++ [l[j]] := List.take_succ_eq_append_getElem hlt
      have hbw := HJ.out.b
      obtain ⟨b, of, cs, rfl, hs, hc, hv⟩ := H.out.get hlt
      have htv := (HO.out.2 l[j] (List.getElem_mem hlt)).2
      have hl1 : (l.take j).length ≤ 1100000 := by rw [List.length_take]; have := HO.out.1; omega
      have hv2 := hv
      obtain ⟨xv, ex, hkx, hvx⟩ := hv
      have hbn := below_new (w := wr) (.cells cs 47)
      have hbx := heap_alloc_new wr (.cells cs 47)
      have k0 : cs[0]? = some (.string (strB l[j].key)) := by rw [ex, Array.getElem?_append_left (by simp)]; rfl
      have k1 : ∀ (i : Nat) (u : Value), xv[i]? = some u → cs[1 + i]? = some u := fun i u hu => by rw [ex, Array.getElem?_append_right (by simp)]; simpa using hu
      have HL1 := Lib.hid (StT.load (P := Tryz.prog) (g := b) (o := of + j * 7) (W := wr) st_prop hs fun i u hu => belowCell hbw (ltOf (hc i u hu)) (hc i u hu))
      have HS1 := Lib.hid (StT.fresh st_prop hs (ef_prop.ones hv2) (W := wr))
      have p0 := cellOf (o := 0) hbx k0
      have hS0 : (wr.alloc (.cells cs 47)).drew.heap[wr.heap.size]? = some (.cells cs 47 (0, 0)) := hbx
      have hlv : ∀ W : World, W.heap[wr.heap.size]? = some (.cells cs 47 (0, 0)) → (loadVar 31 ⟨wr.heap.size, 1, none⟩).run Tryz.prog W = .ok (.agg xv) W := fun W hW => StT.load (P := Tryz.prog) (g := wr.heap.size) (o := 1) (W := W) st_val (ef_val.size hvx) fun i u hu => cellOf (o := 1 + i) hW (k1 i u hu)
      have hbd := hbn.drew
      have hcall := copy_any l[j].val htv (wr.alloc (.cells cs 47)).drew xv ((hvx.below hbw).below hbd)
      have hsz1 : (wr.alloc (.cells cs 47)).heap.size = wr.heap.size + 1 := by simp
      have HX := Lib.hid (And.intro htk (And.intro hbd (And.intro hl1 (And.intro hS0 (And.intro hlv (And.intro hcall (And.intro k0 hsz1)))))))
      generalize l[j] = lj at *
      clear htk hbw hbn hbd hbx k0 k1 hl1 htv hv2 ex hkx hvx hs hc hS0 hlv hcall hsz1 p0
      go_wp2_with (first
        | ((with_reducible apply op_load); exact HL1.out; exact rfl; clear HL1)
        | ((with_reducible apply op_store); exact HS1.out _ rfl; exact rfl; exact rfl; clear HS1))
      obtain ⟨htk, hbd, hl1, hS0, hlv, hcall, k0, hsz1⟩ := HX.out
      refine plain_region_draws (fun W => W.heap[wr.heap.size]? = some (.cells cs 47 (0, 0))) (by kernel_rfl) hS0 (fun hS => ?_)
      refine tk 0 12 (v := .slice po no co) rfl rfl (fun W hW => exec_move rfl rfl) ?_
      simp only [Act.put, sA, sZ, sS]
      refine tk 1 13 (v := .pointer (some ⟨wr.heap.size, 0, none⟩)) rfl rfl (fun W hW => exec_fieldAddr rfl rfl (fa_prop0 _ W)) ?_
      simp only [Act.put, sA, sZ, sS]
      refine tk 2 14 (v := .string (strB lj.key)) rfl rfl (fun W hW => exec_load rfl rfl (run_load1 (w := W) Tryz.underlying9 rfl (cellOf (o := 0) hW k0))) ?_
      simp only [Act.put, sA, sZ, sS]
      refine tk 3 15 (v := .pointer (some ⟨wr.heap.size, 1, none⟩)) rfl rfl (fun W hW => exec_fieldAddr rfl rfl (fa_prop1 _ W)) ?_
      simp only [Act.put, sA, sZ, sS]
      refine tk 4 16 (v := .agg xv) rfl rfl (fun W hW => exec_load rfl rfl (hlv W hW)) ?_
      simp only [Act.put, sA, sZ, sS]
      refine onlyCall 5 17 rfl rfl (by kernel_rfl) rfl (exec_call [.agg xv] rfl rfl Tryz.func102 (by kernel_rfl) (by kernel_rfl)) ?_
      refine hcall.mono ?_
      rintro e W5 ⟨x, rfl, hx, hb⟩
      have hs := hx.size6
      obtain ⟨u0, u1, u2, u3, u4, u5, rfl⟩ := six hs
      clear hs
      have hb1 := below_trans hbd hb
      have hsz : wr.heap.size ≤ W5.heap.size := hb1.size
      have hS5 : W5.heap[wr.heap.size]? = some (.cells cs 47 (0, 0)) := (hb.block _ (by show wr.heap.size < (wr.alloc (.cells cs 47)).heap.size; omega)).trans hS
      have hp : POwn W5 (fun b => wr.heap.size + 1 ≤ b) lj (#[.string (strB lj.key)] ++ #[u0, u1, u2, u3, u4, u5]) := ⟨_, rfl, hx.imp fun b _ hb => by have hb' : (wr.alloc (.cells cs 47)).heap.size ≤ b := hb; omega⟩
      obtain ⟨v', W6, a1, a2, a3⟩ := HJ.out.step el_prop gt_prop (W1 := W5) (Nat.le_succ _) (fun b _ hb => hb1.block b hb) (below_trans HJ.out.b hb1) hsz hp hl1 27
      rw [← htk] at a2
      obtain ⟨p6, c6, rfl⟩ := a2.slice
      generalize (l.take (j + 1)).length = n6 at *
      have e7 : #[Value.string (strB lj.key)] ++ #[u0, u1, u2, u3, u4, u5] = #[Value.string (strB lj.key), u0, u1, u2, u3, u4, u5] := rfl
      rw [e7] at a1 a3
      have hbs := run_buildSlice_one (P := Tryz.prog) (w := W5) (v := .agg #[.string (strB lj.key), u0, u1, u2, u3, u4, u5]) Tryz.underlying27 Tryz.sizeOf47 Tryz.zeroValue47 rfl (by omega) (by omega)
      have hS7 : (W5.alloc (.cells #[.string (strB lj.key), u0, u1, u2, u3, u4, u5] 47)).heap[wr.heap.size]? = some (.cells cs 47 (0, 0)) := belowBlk (below_new _) (Array.getElem?_eq_some_iff.1 hS5).1 hS5
      have hS8 : W6.heap[wr.heap.size]? = some (.cells cs 47 (0, 0)) := (a3.block _ (Array.getElem?_eq_some_iff.1 hS7).1 (fun e => by obtain ⟨xs, h1, _⟩ := HJ.out; have := (h1.1.lt _ e).2; omega)).trans hS7
      refine ⟨_, rfl, .inr hS5, ?_⟩
      simp only [Act.put, sA, sZ, sS]
      refine tk 6 18 (v := .agg #[.string (strB lj.key), u0, u1, u2, u3, u4, u5]) rfl rfl (fun W hW => exec_buildProp rfl rfl rfl) ?_
      simp only [Act.put, sA, sZ, sS]
      refine onlyRun 7 19 (v := .slice (some ⟨W5.heap.size, 0, none⟩) 1 1) rfl rfl (by kernel_rfl) rfl (exec_buildSlice1 rfl rfl hbs) (.inr (by assumption)) ?_
      simp only [Act.put, sA, sZ, sS]
      refine onlyRun 8 20 (v := .slice p6 n6 c6) rfl rfl (by kernel_rfl) rfl (exec_append rfl rfl rfl a1) (.inr (by assumption)) ?_
      simp only [Act.put, sA, sZ, sS]
      refine tk 9 3 (v := .slice p6 n6 c6) rfl rfl (fun W hW => exec_assign rfl rfl) ?_
      simp only [Act.put, sA, sZ, sS]
      refine done (by kernel_rfl) ?_ _
      have HN := Lib.hid a2
      clear htk hbd hl1 hS0 hlv hcall k0 hsz1 hS hS5 hS7 hS8 hb hb1 hsz hp a1 a2 a3 e7 hbs hx HX HJ
      go_wp2
      go_roundw
      case rel => exact ⟨j + 1, _, _, _, hlt1, by go_num, rfl, HN⟩
      case measure => simp [intOf]; omega
    · obtain rfl : j = l.length := by omega
      go_wp2
      go_ret
      have h := HJ.out
      rw [List.take_length] at h
      exact ⟨_, rfl, h.own el_prop, h.b⟩
theorem fa_node (i : Nat) (h : i < 3) (b : Nat) (W : World) : (Instr.fieldAt 45 (.pointer (some ⟨b, 0, none⟩)) i).run Tryz.prog W = .ok (.pointer (some ⟨b, i, none⟩)) W := by
  match i, h with
  | 0, _ => simp [go_sem]
  | 1, _ => simp [go_sem]
  | 2, _ => simp [go_sem]
theorem exec_buildNode {a : Act} {w : World} {o : Oper} {x0 x1 x2 : Operand} {n : Int} {p q : Option Addr} {m c k d : Nat} (ho : o.op = .build 45 #[(0, x0), (1, x1), (2, x2)]) (h0 : a.eval x0 = .int .i64 n) (h1 : a.eval x1 = .slice p m c) (h2 : a.eval x2 = .slice q k d) : (execOp a.eval o).run Tryz.prog w = .ok (.value (.agg #[.int .i64 n, .slice p m c, .slice q k d])) w := by
  unfold execOp; simp [ho, go_sem, h0, h1, h2, Act.eval] at h0 h1 h2 ⊢; simp [h0, h1, h2]
theorem copyNode_end {w W6 : World} {a : NodeD} {pv pw : Option Addr} {cv cw : Nat} {cur : Array Value} (h9 : W6.heap[w.heap.size + 1]? = some (.cells cur 45 (0, 0))) (hc : cur.size = 3) (h1 : OwnsP W6 (fun b => w.heap.size + 2 ≤ b) 9 1 (.slice pv a.labels.length cv) a.labels.length (a.labels.map strV)) (h2 : GOwn POwn 47 7 W6 (fun b => w.heap.size + 2 ≤ b) (.slice pw a.props.length cw) a.props) (hb : Below w.heap.size w W6) :
    ∃ W7, (storeVar 45 ⟨w.heap.size + 1, 0, none⟩ (.agg #[.int .i64 a.id, .slice pv a.labels.length cv, .slice pw a.props.length cw])).run Tryz.prog W6 = .ok () W7 ∧ (loadVar 45 ⟨w.heap.size + 1, 0, none⟩).run Tryz.prog W7 = .ok (.agg #[.int .i64 a.id, .slice pv a.labels.length cv, .slice pw a.props.length cw]) W7 ∧ NOwn W7 (fun b => w.heap.size ≤ b) a #[.int .i64 a.id, .slice pv a.labels.length cv, .slice pw a.props.length cw] ∧ Below w.heap.size w W7 := by
  have hk : ∀ b, b ≠ w.heap.size + 1 → (W6.setRow (w.heap.size + 1) #[.int .i64 a.id, .slice pv a.labels.length cv, .slice pw a.props.length cw]).heap[b]? = W6.heap[b]? := fun b hb => setRow_other W6 _ b _ hb
  exact ⟨_, StT.put (P := Tryz.prog) st_node rfl (by simp [Value.oneCell']) h9 hc, StT.get (P := Tryz.prog) st_node rfl (setRow_heap W6 _ _ _ _ _ h9),
    ⟨_, _, rfl, (h1.keep fun b hb _ => hk b (by omega)).imp fun b _ hb => by omega, (h2.keep el_prop fun b hb _ => hk b (by omega)).imp el_prop fun b _ hb => by omega⟩, below_row hb (by omega) _⟩
theorem copyNode_any {w : World} {a : NodeD} {x : Array Value} (ha : NRd w a x) (hl : a.labels.length ≤ 1100000) (ho : PsOk a.props) : Calls Tryz.prog 39 #[.agg x] w fun e w' => ∃ cs, e = .returned (.agg cs) ∧ NOwn w' (fun b => w.heap.size ≤ b) a cs ∧ Below w.heap.size w w' := by
  obtain ⟨pl, cl, pp, cp, rfl, hls, hps⟩ := ha
  have hb1 := below_new (w := w) (.cells #[.int .i64 a.id, .slice pl a.labels.length cl, .slice pp a.props.length cp] 45)
  have hb2 := below_new (w := w.alloc (.cells #[.int .i64 a.id, .slice pl a.labels.length cl, .slice pp a.props.length cp] 45)) (.cells #[.int .i64 0, .slice none 0 0, .slice none 0 0] 45)
  have hbc : Below w.heap.size w ((w.alloc (.cells #[.int .i64 a.id, .slice pl a.labels.length cl, .slice pp a.props.length cp] 45)).alloc (.cells #[.int .i64 0, .slice none 0 0, .slice none 0 0] 45)) := below_trans hb1 hb2
  have hx8 := belowBlk hb2 (by simp) (heap_alloc_new w (.cells #[.int .i64 a.id, .slice pl a.labels.length cl, .slice pp a.props.length cp] 45))
  have hx9 := heap_alloc_new (w.alloc (.cells #[.int .i64 a.id, .slice pl a.labels.length cl, .slice pp a.props.length cp] 45)) (.cells #[.int .i64 0, .slice none 0 0, .slice none 0 0] 45)
  simp only [World.size_alloc] at hx9
  have hsz : ((w.alloc (.cells #[.int .i64 a.id, .slice pl a.labels.length cl, .slice pp a.props.length cp] 45)).alloc (.cells #[.int .i64 0, .slice none 0 0, .slice none 0 0] 45)).heap.size = w.heap.size + 2 := by simp
  have hS0 : ((w.alloc (.cells #[.int .i64 a.id, .slice pl a.labels.length cl, .slice pp a.props.length cp] 45)).alloc (.cells #[.int .i64 0, .slice none 0 0, .slice none 0 0] 45)).drew.heap[w.heap.size]? = some (.cells #[.int .i64 a.id, .slice pl a.labels.length cl, .slice pp a.props.length cp] 45 (0, 0)) := hx8
  have hc1 := clone_any (hls.below hbc.drew) hl
  have hc2 := fun W (g : Below w.heap.size w W) => copyProps_any (hps.below (fun h => h.below g) g) ho
  have HX := Lib.hid (And.intro hx9 (And.intro hbc.drew (And.intro hsz (And.intro hS0 (And.intro hc1 hc2)))))
  clear hb1 hb2 hbc hx8 hx9 hsz hls hps hl ho hS0 hc1 hc2
  go_enter Tryz.func39, Tryz.ntmps39
  go_wp2
  obtain ⟨hx9, hbd, hsz, hS0, hc1, hc2⟩ := HX.out
  refine plain_region_draws (fun W => W.heap[w.heap.size]? = some (.cells #[.int .i64 a.id, .slice pl a.labels.length cl, .slice pp a.props.length cp] 45 (0, 0))) (by kernel_rfl) hS0 (fun hS => ?_)
  refine tk 0 3 (v := .pointer (some ⟨w.heap.size, 0, none⟩)) rfl rfl (fun W hW => exec_fieldAddr rfl rfl (fa_node 0 (by omega) _ W)) ?_
  simp only [Act.put, sA, sZ, sS]
  refine tk 1 4 (v := .int .i64 a.id) rfl rfl (fun W hW => exec_load rfl rfl (run_load1 (w := W) Tryz.underlying2 rfl (cellOf (o := 0) hW rfl))) ?_
  simp only [Act.put, sA, sZ, sS]
  refine tk 2 5 (v := .pointer (some ⟨w.heap.size, 1, none⟩)) rfl rfl (fun W hW => exec_fieldAddr rfl rfl (fa_node 1 (by omega) _ W)) ?_
  simp only [Act.put, sA, sZ, sS]
  refine tk 3 6 (v := .slice pl a.labels.length cl) rfl rfl (fun W hW => exec_load rfl rfl (run_load1 (w := W) Tryz.underlying26 rfl (cellOf (o := 1) hW rfl))) ?_
  simp only [Act.put, sA, sZ, sS]
  refine tk 5 8 (v := .pointer (some ⟨w.heap.size, 2, none⟩)) rfl rfl (fun W hW => exec_fieldAddr rfl rfl (fa_node 2 (by omega) _ W)) ?_
  simp only [Act.put, sA, sZ, sS]
  refine tk 6 9 (v := .slice pp a.props.length cp) rfl rfl (fun W hW => exec_load rfl rfl (run_load1 (w := W) Tryz.underlying27 rfl (cellOf (o := 2) hW rfl))) ?_
  simp only [Act.put, sA, sZ, sS]
  refine onlyCall 4 7 rfl rfl (by kernel_rfl) rfl (exec_call [.slice pl a.labels.length cl] rfl rfl Tryz.func44 (by kernel_rfl) (by kernel_rfl)) ?_
  refine hc1.mono ?_
  rintro e W4 ⟨v, rfl, ho1, hb4⟩
  obtain ⟨pv, cv, rfl⟩ := slices_of ho1
  have hS4 : W4.heap[w.heap.size]? = some (.cells #[.int .i64 a.id, .slice pl a.labels.length cl, .slice pp a.props.length cp] 45 (0, 0)) := (hb4.block _ (by show w.heap.size < ((w.alloc (.cells #[.int .i64 a.id, .slice pl a.labels.length cl, .slice pp a.props.length cp] 45)).alloc (.cells #[.int .i64 0, .slice none 0 0, .slice none 0 0] 45)).heap.size; omega)).trans hS
  refine ⟨_, rfl, .inr hS4, ?_⟩
  simp only [Act.put, sA, sZ, sS]
  refine onlyCall 7 10 rfl rfl (by kernel_rfl) rfl (exec_call [.slice pp a.props.length cp] rfl rfl Tryz.func98 (by kernel_rfl) (by kernel_rfl)) ?_
  refine (hc2 _ (below_trans hbd hb4)).mono ?_
  rintro e W7 ⟨v, rfl, ho2, hb7⟩
  obtain ⟨pw, cw, rfl⟩ := ho2.slice
  have hS7 : W7.heap[w.heap.size]? = some (.cells #[.int .i64 a.id, .slice pl a.labels.length cl, .slice pp a.props.length cp] 45 (0, 0)) := (hb7.block _ (Array.getElem?_eq_some_iff.1 hS4).1).trans hS4
  have h4 : ((w.alloc (.cells #[.int .i64 a.id, .slice pl a.labels.length cl, .slice pp a.props.length cp] 45)).alloc (.cells #[.int .i64 0, .slice none 0 0, .slice none 0 0] 45)).heap.size ≤ W4.heap.size := hb4.size
  have h9 := belowBlk (below_trans hb4 hb7) (show w.heap.size + 1 < ((w.alloc (.cells #[.int .i64 a.id, .slice pl a.labels.length cl, .slice pp a.props.length cp] 45)).alloc (.cells #[.int .i64 0, .slice none 0 0, .slice none 0 0] 45)).heap.size by omega) hx9
  obtain ⟨W8, q1, q2, q3, q4⟩ := copyNode_end h9 rfl ((ho1.keep fun b _ hb => hb7.block b hb).imp fun b _ hb => by have hb' : ((w.alloc (.cells #[.int .i64 a.id, .slice pl a.labels.length cl, .slice pp a.props.length cp] 45)).alloc (.cells #[.int .i64 0, .slice none 0 0, .slice none 0 0] 45)).heap.size ≤ b := hb; omega) (ho2.imp el_prop fun b _ hb => by omega) (below_trans (below_trans hbd hb4) hb7)
  refine ⟨_, rfl, .inr hS7, ?_⟩
  simp only [Act.put, sA, sZ, sS]
  refine tk 8 11 (v := .agg #[.int .i64 a.id, .slice pv a.labels.length cv, .slice pw a.props.length cw]) rfl rfl (fun W hW => exec_buildNode rfl rfl rfl rfl) ?_
  simp only [Act.put, sA, sZ, sS]
  refine onlySkip 9 rfl rfl (by kernel_rfl) rfl (exec_store rfl rfl rfl q1) (.inl (by kernel_rfl)) ?_
  refine done (by kernel_rfl) ?_ _
  have HF := Lib.hid (And.intro q3 q4)
  have HLD := Lib.hid q2
  clear hx9 hbd hsz hS0 hc1 hc2 hS hS4 hS7 hb4 hb7 h4 q1 q2 q3 q4 HX h9 ho1 ho2
  go_wp2
  refine bodyPost_ret (results_cell_one rfl _ _ ⟨w.heap.size + 1, 0, none⟩ _ rfl HLD.out) rfl ?_
  exact ⟨_, rfl, HF.out⟩
theorem copyRel_end {w W6 : World} {a : RelD} {pp pw : Option Addr} {cp cw : Nat} {cur : Array Value} (h8 : W6.heap[w.heap.size]? = some (.cells #[.int .i64 a.id, .int .i64 a.src, .int .i64 a.dst, .string (strB a.type), .slice pp a.props.length cp] 49 (0, 0))) (h9 : W6.heap[w.heap.size + 1]? = some (.cells cur 49 (0, 0))) (hc : cur.size = 5) (h2 : GOwn POwn 47 7 W6 (fun b => w.heap.size + 2 ≤ b) (.slice pw a.props.length cw) a.props) (hb : Below w.heap.size w W6) :
    ∃ W7 W8, (storeVar 27 ⟨w.heap.size, 4, none⟩ (.slice pw a.props.length cw)).run Tryz.prog W6 = .ok () W7 ∧ (loadVar 49 ⟨w.heap.size, 0, none⟩).run Tryz.prog W7 = .ok (.agg #[.int .i64 a.id, .int .i64 a.src, .int .i64 a.dst, .string (strB a.type), .slice pw a.props.length cw]) W7 ∧ (storeVar 49 ⟨w.heap.size + 1, 0, none⟩ (.agg #[.int .i64 a.id, .int .i64 a.src, .int .i64 a.dst, .string (strB a.type), .slice pw a.props.length cw])).run Tryz.prog W7 = .ok () W8 ∧ (loadVar 49 ⟨w.heap.size + 1, 0, none⟩).run Tryz.prog W8 = .ok (.agg #[.int .i64 a.id, .int .i64 a.src, .int .i64 a.dst, .string (strB a.type), .slice pw a.props.length cw]) W8 ∧ ROwn W8 (fun b => w.heap.size ≤ b) a #[.int .i64 a.id, .int .i64 a.src, .int .i64 a.dst, .string (strB a.type), .slice pw a.props.length cw] ∧ Below w.heap.size w W8 := by
  have h8' := box_set (k := 4) (.slice pw a.props.length cw) h8
  simp only [List.setIfInBounds_toArray, List.set_cons_zero, List.set_cons_succ] at h8'
  have ho : ∀ b, b ≠ w.heap.size → (W6.setCell ⟨w.heap.size, 4, none⟩ (.slice pw a.props.length cw)).heap[b]? = W6.heap[b]? := fun b hb => Below.heap_setCell _ ⟨w.heap.size, 4, none⟩ _ b hb
  have h9' := (ho (w.heap.size + 1) (by omega)).trans h9
  have hk : ∀ b, b ≠ w.heap.size → b ≠ w.heap.size + 1 → ((W6.setCell ⟨w.heap.size, 4, none⟩ (.slice pw a.props.length cw)).setRow (w.heap.size + 1) #[.int .i64 a.id, .int .i64 a.src, .int .i64 a.dst, .string (strB a.type), .slice pw a.props.length cw]).heap[b]? = W6.heap[b]? := fun b h1 h2 => (setRow_other _ _ b _ h2).trans (ho b h1)
  exact ⟨_, _, put_props (cellOf (o := 4) h8 rfl) (freeOf (o := 4) h8), StT.get (P := Tryz.prog) st_rel rfl h8', StT.put (P := Tryz.prog) st_rel rfl (by simp [Value.oneCell']) h9' hc, StT.get (P := Tryz.prog) st_rel rfl (setRow_heap _ _ _ _ _ _ h9'),
    ⟨_, rfl, (h2.keep el_prop fun b hb _ => hk b (by omega) (by omega)).imp el_prop fun b _ hb => by omega⟩, below_row (belowSet hb (Nat.le_refl _) _) (by omega) _⟩
theorem copyRel_any {w : World} {a : RelD} {x : Array Value} (ha : RRd w a x) (ho : PsOk a.props) : Calls Tryz.prog 40 #[.agg x] w fun e w' => ∃ cs, e = .returned (.agg cs) ∧ ROwn w' (fun b => w.heap.size ≤ b) a cs ∧ Below w.heap.size w w' := by
  obtain ⟨pp, cp, rfl, hty, hps⟩ := ha
  have hb1 := below_new (w := w) (.cells #[.int .i64 a.id, .int .i64 a.src, .int .i64 a.dst, .string (strB a.type), .slice pp a.props.length cp] 49)
  have hb2 := below_new (w := w.alloc (.cells #[.int .i64 a.id, .int .i64 a.src, .int .i64 a.dst, .string (strB a.type), .slice pp a.props.length cp] 49)) (.cells #[.int .i64 0, .int .i64 0, .int .i64 0, .string ⟨#[]⟩, .slice none 0 0] 49)
  have hbc : Below w.heap.size w ((w.alloc (.cells #[.int .i64 a.id, .int .i64 a.src, .int .i64 a.dst, .string (strB a.type), .slice pp a.props.length cp] 49)).alloc (.cells #[.int .i64 0, .int .i64 0, .int .i64 0, .string ⟨#[]⟩, .slice none 0 0] 49)) := below_trans hb1 hb2
  have hx8 := belowBlk hb2 (by simp) (heap_alloc_new w (.cells #[.int .i64 a.id, .int .i64 a.src, .int .i64 a.dst, .string (strB a.type), .slice pp a.props.length cp] 49))
  have hx9 := heap_alloc_new (w.alloc (.cells #[.int .i64 a.id, .int .i64 a.src, .int .i64 a.dst, .string (strB a.type), .slice pp a.props.length cp] 49)) (.cells #[.int .i64 0, .int .i64 0, .int .i64 0, .string ⟨#[]⟩, .slice none 0 0] 49)
  simp only [World.size_alloc] at hx9
  have hsz : ((w.alloc (.cells #[.int .i64 a.id, .int .i64 a.src, .int .i64 a.dst, .string (strB a.type), .slice pp a.props.length cp] 49)).alloc (.cells #[.int .i64 0, .int .i64 0, .int .i64 0, .string ⟨#[]⟩, .slice none 0 0] 49)).heap.size = w.heap.size + 2 := by simp
  have p4 := cellOf (o := 4) hx8 rfl
  have HX8 := Lib.hid hx8
  have HX9 := Lib.hid hx9
  have HB := Lib.hid hbc
  have HSZ := Lib.hid hsz
  have HC2 := Lib.hid (copyProps_any (hps.below (fun h => h.below hbc) hbc) ho)
  clear hb1 hb2 hbc hx8 hx9 hsz hps ho hty
  go_enter Tryz.func40, Tryz.ntmps40
  go_wp2_with (first
    | (go_at_call 98
       (
        refine HC2.out.mono ?_
        rintro e W6 ⟨v, rfl, ho2, hb⟩
        obtain ⟨pw, cw, rfl⟩ := ho2.slice
        have hz := HSZ.out
        have hs6 := hb.size
        have h8 := belowBlk hb (by omega) HX8.out
        have h9 := belowBlk hb (by omega) HX9.out
        obtain ⟨W7, W8, q1, q2, q3, q4, q5, q6⟩ := copyRel_end h8 h9 rfl (ho2.imp el_prop fun b _ hb => by omega) (below_trans HB.out hb)
        have HP := Lib.hid q1
        have HL := Lib.hid q2
        have HST := Lib.hid q3
        have HLD := Lib.hid q4
        have HF := Lib.hid (And.intro q5 q6)
        clear q1 q2 q3 q4 q5 q6 ho2 hz hs6 h8 h9 hb HC2))
    | ((with_reducible apply op_store); exact HP.out; exact rfl; exact rfl; clear HP)
    | ((with_reducible apply op_load); exact HL.out; exact rfl; clear HL)
    | ((with_reducible apply op_store); exact HST.out; exact rfl; exact rfl; clear HST))
  refine bodyPost_ret (results_cell_one rfl _ _ ⟨w.heap.size + 1, 0, none⟩ _ rfl HLD.out) rfl ?_
  exact ⟨_, rfl, HF.out⟩
end Go.Proofs.YtihfnegakcghiaaGreatDoor
namespace Go.Proofs
open Go.Shelf
def Tryz.keysN_ren : Go.Shelf.Ren := ⟨fun | 7 => 52 | 10 => 113 | n => n, fun | 23 => 68 | 26 => 2 | 3 => 45 | 28 => 99 | 0 => 0 | 27 => 98 | 33 => 95 | 4 => 4 | n => n, fun | n => n⟩
theorem Tryz.keysN : Go.Proofs.SlLaysZI.n7 Tryz.prog Tryz.keysN_ren := {
  mixed := by kernel_rfl
  f7 := ⟨Tryz.f52.name, by decide, Tryz.func52.trans (congrArg some (by kernel_rfl))⟩
  f10 := ⟨Tryz.f113.name, by decide, Tryz.func113.trans (congrArg some (by kernel_rfl))⟩
  t0 := Tryz.underlying0
  a0 := Tryz.isAgg0
  z0 := Tryz.sizeOf0
  v0 := Tryz.zeroValue0
  t4 := Tryz.underlying4
  a4 := Tryz.isAgg4
  z4 := Tryz.sizeOf4
  v4 := Tryz.zeroValue4
  t23 := Tryz.underlying68
  a23 := Tryz.isAgg68
  z23 := Tryz.sizeOf68
  v23 := Tryz.zeroValue68
  t26 := Tryz.underlying2
  a26 := Tryz.isAgg2
  z26 := Tryz.sizeOf2
  v26 := Tryz.zeroValue2
  t27 := Tryz.underlying98
  a27 := Tryz.isAgg98
  z27 := Tryz.sizeOf98
  v27 := Tryz.zeroValue98
  t28 := Tryz.underlying99
  a28 := Tryz.isAgg99
  z28 := Tryz.sizeOf99
  v28 := Tryz.zeroValue99
  t33 := Tryz.underlying95
  a33 := Tryz.isAgg95
  z33 := Tryz.sizeOf95
  v33 := Tryz.zeroValue95 }
def Tryz.keysR_ren : Go.Shelf.Ren := ⟨fun | 7 => 53 | 10 => 114 | n => n, fun | 23 => 69 | 26 => 2 | 3 => 49 | 28 => 99 | 0 => 0 | 27 => 98 | 33 => 95 | 4 => 4 | n => n, fun | n => n⟩
theorem Tryz.keysR : Go.Proofs.SlLaysZI.n7 Tryz.prog Tryz.keysR_ren := {
  mixed := by kernel_rfl
  f7 := ⟨Tryz.f53.name, by decide, Tryz.func53.trans (congrArg some (by kernel_rfl))⟩
  f10 := ⟨Tryz.f114.name, by decide, Tryz.func114.trans (congrArg some (by kernel_rfl))⟩
  t0 := Tryz.underlying0
  a0 := Tryz.isAgg0
  z0 := Tryz.sizeOf0
  v0 := Tryz.zeroValue0
  t4 := Tryz.underlying4
  a4 := Tryz.isAgg4
  z4 := Tryz.sizeOf4
  v4 := Tryz.zeroValue4
  t23 := Tryz.underlying69
  a23 := Tryz.isAgg69
  z23 := Tryz.sizeOf69
  v23 := Tryz.zeroValue69
  t26 := Tryz.underlying2
  a26 := Tryz.isAgg2
  z26 := Tryz.sizeOf2
  v26 := Tryz.zeroValue2
  t27 := Tryz.underlying98
  a27 := Tryz.isAgg98
  z27 := Tryz.sizeOf98
  v27 := Tryz.zeroValue98
  t28 := Tryz.underlying99
  a28 := Tryz.isAgg99
  z28 := Tryz.sizeOf99
  v28 := Tryz.zeroValue99
  t33 := Tryz.underlying95
  a33 := Tryz.isAgg95
  z33 := Tryz.sizeOf95
  v33 := Tryz.zeroValue95 }
def Tryz.sortedI_ren : Go.Shelf.Ren := ⟨fun | 6 => 51 | 8 => 111 | 9 => 112 | 11 => 164 | 13 => 107 | 12 => 165 | 23 => 160 | 24 => 161 | 14 => 208 | 15 => 209 | 16 => 210 | 17 => 211 | 18 => 212 | 19 => 213 | 20 => 138 | 21 => 214 | 22 => 215 | 25 => 226 | 26 => 203 | 27 => 204 | 28 => 227 | 29 => 228 | 30 => 187 | 31 => 239 | n => n, fun | 26 => 2 | 28 => 99 | 24 => 96 | 0 => 0 | 3 => 3 | 37 => 150 | 48 => 191 | 50 => 193 | 4 => 4 | 40 => 184 | 39 => 183 | 45 => 138 | 5 => 5 | 9 => 9 | 51 => 220 | 55 => 224 | 57 => 236 | 58 => 237 | 33 => 95 | n => n, fun | n => n⟩
theorem Tryz.sortedI : Go.Proofs.SlLaysZI.n6 Tryz.prog Tryz.sortedI_ren := {
  mixed := by kernel_rfl
  f6 := ⟨Tryz.f51.name, by decide, Tryz.func51.trans (congrArg some (by kernel_rfl))⟩
  f8 := ⟨Tryz.f111.name, by decide, Tryz.func111.trans (congrArg some (by kernel_rfl))⟩
  f11 := ⟨Tryz.f164.name, by decide, Tryz.func164.trans (congrArg some (by kernel_rfl))⟩
  t0 := Tryz.underlying0
  a0 := Tryz.isAgg0
  z0 := Tryz.sizeOf0
  v0 := Tryz.zeroValue0
  t24 := Tryz.underlying96
  a24 := Tryz.isAgg96
  z24 := Tryz.sizeOf96
  v24 := Tryz.zeroValue96
  t26 := Tryz.underlying2
  a26 := Tryz.isAgg2
  z26 := Tryz.sizeOf2
  v26 := Tryz.zeroValue2
  t28 := Tryz.underlying99
  a28 := Tryz.isAgg99
  z28 := Tryz.sizeOf99
  v28 := Tryz.zeroValue99
  i26 := by kernel_rfl }
def Tryz.sortI_ren : Go.Shelf.Ren := ⟨fun | 5 => 112 | 8 => 107 | 7 => 165 | 19 => 160 | 20 => 161 | 10 => 208 | 11 => 209 | 12 => 210 | 13 => 211 | 14 => 212 | 15 => 213 | 16 => 138 | 17 => 214 | 18 => 215 | 30 => 226 | 31 => 203 | 32 => 204 | 33 => 227 | 34 => 228 | 35 => 187 | 40 => 239 | n => n, fun | 23 => 96 | 25 => 2 | 3 => 3 | 32 => 150 | 22 => 96 | 0 => 0 | 44 => 191 | 46 => 193 | 4 => 4 | 36 => 184 | 35 => 183 | 41 => 138 | 5 => 5 | 9 => 9 | 53 => 220 | 57 => 224 | 63 => 236 | 64 => 237 | n => n, fun | n => n⟩
theorem Tryz.sortI : Go.Proofs.SlLaysM.n5 Tryz.prog Tryz.sortI_ren := {
  mixed := by kernel_rfl
  f5 := ⟨Tryz.f112.name, by decide, Tryz.func112.trans (congrArg some (by kernel_rfl))⟩
  f7 := ⟨Tryz.f165.name, by decide, Tryz.func165.trans (congrArg some (by kernel_rfl))⟩
  f8 := Tryz.func107.trans (congrArg some (by kernel_rfl))
  f10 := ⟨Tryz.f208.name, by decide, Tryz.func208.trans (congrArg some (by kernel_rfl))⟩
  f11 := ⟨Tryz.f209.name, by decide, Tryz.func209.trans (congrArg some (by kernel_rfl))⟩
  f12 := ⟨Tryz.f210.name, by decide, Tryz.func210.trans (congrArg some (by kernel_rfl))⟩
  f13 := ⟨Tryz.f211.name, by decide, Tryz.func211.trans (congrArg some (by kernel_rfl))⟩
  f14 := ⟨Tryz.f212.name, by decide, Tryz.func212.trans (congrArg some (by kernel_rfl))⟩
  f15 := ⟨Tryz.f213.name, by decide, Tryz.func213.trans (congrArg some (by kernel_rfl))⟩
  f16 := ⟨Tryz.f138.name, by decide, Tryz.func138.trans (congrArg some (by kernel_rfl))⟩
  f17 := ⟨Tryz.f214.name, by decide, Tryz.func214.trans (congrArg some (by kernel_rfl))⟩
  f18 := ⟨Tryz.f215.name, by decide, Tryz.func215.trans (congrArg some (by kernel_rfl))⟩
  f19 := Tryz.func160.trans (congrArg some (by kernel_rfl))
  f20 := Tryz.func161.trans (congrArg some (by kernel_rfl))
  f30 := ⟨Tryz.f226.name, by decide, Tryz.func226.trans (congrArg some (by kernel_rfl))⟩
  f31 := Tryz.func203.trans (congrArg some (by kernel_rfl))
  f32 := Tryz.func204.trans (congrArg some (by kernel_rfl))
  f33 := ⟨Tryz.f227.name, by decide, Tryz.func227.trans (congrArg some (by kernel_rfl))⟩
  f34 := ⟨Tryz.f228.name, by decide, Tryz.func228.trans (congrArg some (by kernel_rfl))⟩
  f35 := ⟨Tryz.f187.name, by decide, Tryz.func187.trans (congrArg some (by kernel_rfl))⟩
  f40 := ⟨Tryz.f239.name, by decide, Tryz.func239.trans (congrArg some (by kernel_rfl))⟩
  t0 := Tryz.underlying0
  a0 := Tryz.isAgg0
  z0 := Tryz.sizeOf0
  v0 := Tryz.zeroValue0
  t3 := Tryz.underlying3
  a3 := Tryz.isAgg3
  z3 := Tryz.sizeOf3
  v3 := Tryz.zeroValue3
  t4 := Tryz.underlying4
  a4 := Tryz.isAgg4
  z4 := Tryz.sizeOf4
  v4 := Tryz.zeroValue4
  t5 := Tryz.underlying5
  a5 := Tryz.isAgg5
  z5 := Tryz.sizeOf5
  v5 := Tryz.zeroValue5
  t9 := Tryz.underlying9
  a9 := Tryz.isAgg9
  z9 := Tryz.sizeOf9
  v9 := Tryz.zeroValue9
  t22 := Tryz.underlying96
  a22 := Tryz.isAgg96
  z22 := Tryz.sizeOf96
  v22 := Tryz.zeroValue96
  t23 := Tryz.underlying96
  a23 := Tryz.isAgg96
  z23 := Tryz.sizeOf96
  v23 := Tryz.zeroValue96
  t25 := Tryz.underlying2
  a25 := Tryz.isAgg2
  z25 := Tryz.sizeOf2
  v25 := Tryz.zeroValue2
  t32 := Tryz.underlying150
  a32 := Tryz.isAgg150
  z32 := Tryz.sizeOf150
  v32 := Tryz.zeroValue150
  t35 := Tryz.underlying183
  a35 := Tryz.isAgg183
  z35 := Tryz.sizeOf183
  v35 := Tryz.zeroValue183
  t36 := Tryz.underlying184
  a36 := Tryz.isAgg184
  z36 := Tryz.sizeOf184
  v36 := Tryz.zeroValue184
  t41 := Tryz.underlying138
  a41 := Tryz.isAgg138
  z41 := Tryz.sizeOf138
  v41 := Tryz.zeroValue138
  t44 := Tryz.underlying191
  a44 := Tryz.isAgg191
  z44 := Tryz.sizeOf191
  v44 := Tryz.zeroValue191
  t46 := Tryz.underlying193
  a46 := Tryz.isAgg193
  z46 := Tryz.sizeOf193
  v46 := Tryz.zeroValue193
  t53 := Tryz.underlying220
  a53 := Tryz.isAgg220
  z53 := Tryz.sizeOf220
  v53 := Tryz.zeroValue220
  t57 := Tryz.underlying224
  a57 := Tryz.isAgg224
  z57 := Tryz.sizeOf224
  v57 := Tryz.zeroValue224
  t63 := Tryz.underlying236
  a63 := Tryz.isAgg236
  z63 := Tryz.sizeOf236
  v63 := Tryz.zeroValue236
  t64 := Tryz.underlying237
  a64 := Tryz.isAgg237
  z64 := Tryz.sizeOf237
  v64 := Tryz.zeroValue237 }
def Tryz.searchI_ren : Go.Shelf.Ren := ⟨fun | 49 => 96 | 59 => 138 | 60 => 139 | 68 => 187 | n => n, fun | 22 => 96 | 23 => 2 | 3 => 3 | 4 => 4 | 51 => 150 | 0 => 0 | n => n, fun | n => n⟩
theorem Tryz.searchI : Go.Proofs.SlLaysN.n49 Tryz.prog Tryz.searchI_ren := {
  mixed := by kernel_rfl
  f49 := ⟨Tryz.f96.name, by decide, Tryz.func96.trans (congrArg some (by kernel_rfl))⟩
  f59 := ⟨Tryz.f138.name, by decide, Tryz.func138.trans (congrArg some (by kernel_rfl))⟩
  f60 := ⟨Tryz.f139.name, by decide, Tryz.func139.trans (congrArg some (by kernel_rfl))⟩
  f68 := ⟨Tryz.f187.name, by decide, Tryz.func187.trans (congrArg some (by kernel_rfl))⟩
  t0 := Tryz.underlying0
  a0 := Tryz.isAgg0
  z0 := Tryz.sizeOf0
  v0 := Tryz.zeroValue0
  t3 := Tryz.underlying3
  a3 := Tryz.isAgg3
  z3 := Tryz.sizeOf3
  v3 := Tryz.zeroValue3
  t4 := Tryz.underlying4
  a4 := Tryz.isAgg4
  z4 := Tryz.sizeOf4
  v4 := Tryz.zeroValue4
  t22 := Tryz.underlying96
  a22 := Tryz.isAgg96
  z22 := Tryz.sizeOf96
  v22 := Tryz.zeroValue96
  t23 := Tryz.underlying2
  a23 := Tryz.isAgg2
  z23 := Tryz.sizeOf2
  v23 := Tryz.zeroValue2
  t51 := Tryz.underlying150
  a51 := Tryz.isAgg150
  z51 := Tryz.sizeOf150
  v51 := Tryz.zeroValue150 }
end Go.Proofs
namespace Go.Proofs.YtihfnegakcghiaaGreatDoor
open Go.RowKit
theorem sorts9 (m : Nat) : AnyZI.SortsIn Tryz.prog Tryz.sortedI_ren Fence.wide m :=
  ⟨fun blk off cap ss W hH hblk hsz => callsIn_wide.2 (AnyM.slices_Sort_int Tryz.sortI blk off cap ss W hH hblk hsz),
   fun p cap W => callsIn_wide.2 (AnyM.slices_Sort_int_none Tryz.sortI p cap W)⟩
theorem keysN_any (mb : Option Nat) (W : World) : Calls Tryz.prog 52 #[.map mb] W fun e w' => e = .returned (.func (.func 113) #[] #[.pointer (some ⟨W.heap.size, 0, none⟩)]) ∧ w' = W.alloc (.cells #[.map mb] 68) :=
  (callsIn_wide (n := 5)).1 (AnyZI.keys_in Tryz.keysN Fence.wide 5 trivial rfl mb W)
theorem sortedN_any {α : Type} {Ek : World → (Nat → Prop) → α → Array Value → Prop} {id : α → Int} {W : World} {Q : Nat → Prop} {b g : Nat} {l : List α} (h : MapOf Ek id W Q b l) (hs : l.length ≤ 1100000) (hg : W.heap[g]? = some (.cells #[.map (some b)] 68 (0, 0))) :
    Calls Tryz.prog 51 #[.func (.func 113) #[] #[.pointer (some ⟨g, 0, none⟩)]] W fun e w' => ∃ v, e = .returned v ∧ w'.ownsRow W.heap.size 2 1 v l.length ((l.map id).map (Value.int .i64)) ∧ Below W.heap.size W w' := by
  obtain ⟨D, hown, hp, hz⟩ := h.owns (H := Unit) (P := Tryz.prog) Tryz.underlying2 (by unfold maxLen; omega)
  have hmax : Go.Maps.size D ≤ maxLen := by unfold maxLen; omega
  have hbytes : Go.Maps.size D * 8 ≤ 140737488355328 := by omega
  obtain ⟨n1, n2, n3⟩ := h.nums
  have hseq : SeqGives Fence.wide 2 Tryz.prog 113 #[.pointer (some ⟨g, 0, none⟩)] encZ (fun ss => ss.Perm (intKeys D)) (Go.Maps.size D) W :=
    AnyZI.keys_gives (ρ := Tryz.keysN_ren) { Tryz.keysN with } Fence.wide _ trivial rfl (by omega) g b l.length D _ (Array.getElem?_eq_some_iff.1 hg).1 (cellOf (o := 0) hg rfl) hown
  have cS := AnyZI.sorted_in Tryz.sortedI Fence.wide 5 trivial trivial trivial trivial rfl (by omega) (sorts9 _) (enters_of Tryz.func112 (by kernel_rfl) rfl) 113 #[.pointer (some ⟨g, 0, none⟩)] trivial (enters_of Tryz.func113 (by kernel_rfl) rfl) _ _ hmax hbytes _ hseq
  change CallsIn _ _ Tryz.prog 51 _ _ _ at cS
  refine ((callsIn_wide (n := 5)).1 cS).mono ?_
  rintro e w' ⟨v, ss, rfl, hS, hrow, hnil, hb⟩
  have hss : ss.mergeSort (fun x y => decide (x ≤ y)) = l.map id := by
    refine rise_eq n2 ?_ ((List.mergeSort_perm _ _).trans (hS.trans hp))
    have := List.pairwise_mergeSort (le := fun x y : Int => decide (x ≤ y)) (fun a b c h1 h2 => by simp only [decide_eq_true_eq] at *; omega) (fun a b => by simp only [Bool.or_eq_true, decide_eq_true_eq]; omega) ss
    exact this.imp fun h => by simpa using h
  have hlen : ss.length = l.length := by rw [(hS.trans hp).length_eq, List.length_map]
  rw [hss, hlen] at hrow
  exact ⟨v, rfl, hrow, hb⟩
theorem keysR_any (mb : Option Nat) (W : World) : Calls Tryz.prog 53 #[.map mb] W fun e w' => e = .returned (.func (.func 114) #[] #[.pointer (some ⟨W.heap.size, 0, none⟩)]) ∧ w' = W.alloc (.cells #[.map mb] 69) :=
  (callsIn_wide (n := 5)).1 (AnyZI.keys_in Tryz.keysR Fence.wide 5 trivial rfl mb W)
theorem sortedR_any {α : Type} {Ek : World → (Nat → Prop) → α → Array Value → Prop} {id : α → Int} {W : World} {Q : Nat → Prop} {b g : Nat} {l : List α} (h : MapOf Ek id W Q b l) (hs : l.length ≤ 1100000) (hg : W.heap[g]? = some (.cells #[.map (some b)] 69 (0, 0))) :
    Calls Tryz.prog 51 #[.func (.func 114) #[] #[.pointer (some ⟨g, 0, none⟩)]] W fun e w' => ∃ v, e = .returned v ∧ w'.ownsRow W.heap.size 2 1 v l.length ((l.map id).map (Value.int .i64)) ∧ Below W.heap.size W w' := by
  obtain ⟨D, hown, hp, hz⟩ := h.owns (H := Unit) (P := Tryz.prog) Tryz.underlying2 (by unfold maxLen; omega)
  have hmax : Go.Maps.size D ≤ maxLen := by unfold maxLen; omega
  have hbytes : Go.Maps.size D * 8 ≤ 140737488355328 := by omega
  obtain ⟨n1, n2, n3⟩ := h.nums
  have hseq : SeqGives Fence.wide 2 Tryz.prog 114 #[.pointer (some ⟨g, 0, none⟩)] encZ (fun ss => ss.Perm (intKeys D)) (Go.Maps.size D) W :=
    AnyZI.keys_gives (ρ := Tryz.keysR_ren) { Tryz.keysR with } Fence.wide _ trivial rfl (by omega) g b l.length D _ (Array.getElem?_eq_some_iff.1 hg).1 (cellOf (o := 0) hg rfl) hown
  have cS := AnyZI.sorted_in Tryz.sortedI Fence.wide 5 trivial trivial trivial trivial rfl (by omega) (sorts9 _) (enters_of Tryz.func112 (by kernel_rfl) rfl) 114 #[.pointer (some ⟨g, 0, none⟩)] trivial (enters_of Tryz.func114 (by kernel_rfl) rfl) _ _ hmax hbytes _ hseq
  change CallsIn _ _ Tryz.prog 51 _ _ _ at cS
  refine ((callsIn_wide (n := 5)).1 cS).mono ?_
  rintro e w' ⟨v, ss, rfl, hS, hrow, hnil, hb⟩
  have hss : ss.mergeSort (fun x y => decide (x ≤ y)) = l.map id := by
    refine rise_eq n2 ?_ ((List.mergeSort_perm _ _).trans (hS.trans hp))
    have := List.pairwise_mergeSort (le := fun x y : Int => decide (x ≤ y)) (fun a b c h1 h2 => by simp only [decide_eq_true_eq] at *; omega) (fun a b => by simp only [Bool.or_eq_true, decide_eq_true_eq]; omega) ss
    exact this.imp fun h => by simpa using h
  have hlen : ss.length = l.length := by rw [(hS.trans hp).length_eq, List.length_map]
  rw [hss, hlen] at hrow
  exact ⟨v, rfl, hrow, hb⟩
end Go.Proofs.YtihfnegakcghiaaGreatDoor
namespace Go.Proofs.YtihfnegakcghiaaGreatDoor
open Go.RowKit
def layAt (l : List Value) (o : Nat) : List Value → List Value
  | [] => l
  | v :: r => layAt (l.set o v) (o + 1) r
theorem layAt_len (o : Nat) (l : List Value) (vs : List Value) : (layAt l o vs).length = l.length := by
  induction vs generalizing l o with
  | nil => rfl
  | cons v r ih => rw [layAt, ih, List.length_set]
theorem layAt_get (vs : List Value) : ∀ (o : Nat) (l : List Value), o + vs.length ≤ l.length → ∀ k, (layAt l o vs)[k]? = if o ≤ k ∧ k < o + vs.length then vs[k - o]? else l[k]? := by
  induction vs with
  | nil => intro o l h k; rw [if_neg (by simp)]; rfl
  | cons v r ih =>
    intro o l h k
    simp only [List.length_cons] at h ⊢
    rw [layAt, ih (o + 1) (l.set o v) (by rw [List.length_set]; omega)]
    by_cases hk : o = k
    · subst hk
      rw [if_neg (by omega), if_pos (by omega), Nat.sub_self, List.getElem?_set_self (by omega)]
      rfl
    · by_cases h2 : o + 1 ≤ k ∧ k < o + 1 + r.length
      · rw [if_pos h2, if_pos (by omega)]
        have : k - o = (k - (o + 1)) + 1 := by omega
        rw [this, List.getElem?_cons_succ]
      · rw [if_neg h2, if_neg (by omega), List.getElem?_set_ne hk]
theorem heap_setCells {b : Nat} {t : TypeId} (vs : List Value) : ∀ (o : Nat) (w : World) (cs : Array Value), w.heap[b]? = some (.cells cs t (0, 0)) → (w.setCells b o vs).heap[b]? = some (.cells (layAt cs.toList o vs).toArray t (0, 0)) := by
  induction vs with
  | nil => intro o w cs h; simpa [World.setCells, layAt] using h
  | cons v r ih =>
    intro o w cs h
    rw [World.setCells, layAt]
    have := ih (o + 1) _ _ (box_set (k := o) v h)
    simpa using this
theorem touch_setCells {b : Nat} (vs : List Value) : ∀ (o : Nat) {w W : World}, Touch (fun c => c = b) w W → Touch (fun c => c = b) w (W.setCells b o vs) := by
  induction vs with
  | nil => intro o w W h; exact h
  | cons v r ih => intro o w W h; rw [World.setCells]; exact ih (o + 1) (h.setCell (.inl (by exact rfl)) v)
def insAt (i : Nat) (x : Int) (l : List Int) : List Int := l.take i ++ x :: l.drop i
theorem lay_shift {cur xs : List Value} {n i : Nat} {v : Value} (hc : n + 1 ≤ cur.length) (hx : cur.take n = xs) (hi : i ≤ n) : (layAt (layAt cur (i + 1) (xs.drop i)) i [v]).take (n + 1) = xs.take i ++ v :: xs.drop i := by
  have hl : xs.length = n := by rw [← hx, List.length_take]; omega
  have hg : ∀ k, k < n → xs[k]? = cur[k]? := fun k hk => by rw [← hx, List.getElem?_take, if_pos hk]
  apply List.ext_getElem?
  intro k
  rw [List.getElem?_take, layAt_get [v] i _ (by rw [layAt_len]; simp; omega), layAt_get _ (i + 1) cur (by rw [List.length_drop]; omega), List.length_drop, hl]
  simp only [List.length_cons, List.length_nil]
  by_cases h1 : k < i
  · rw [if_pos (by omega), if_neg (by omega), if_neg (by omega), List.getElem?_append_left (by rw [List.length_take]; omega), List.getElem?_take, if_pos h1, hg k (by omega)]
  · rw [List.getElem?_append_right (by rw [List.length_take]; omega), List.length_take, hl]
    have e1 : min i n = i := by omega
    rw [e1]
    by_cases h2 : k = i
    · subst h2
      rw [if_pos (by omega), if_pos (by omega), Nat.sub_self]
      rfl
    · have e2 : k - i = (k - (i + 1)) + 1 := by omega
      by_cases h3 : k < n + 1
      · rw [if_pos h3, if_neg (by omega), if_pos (by omega), e2, List.getElem?_cons_succ]
      · rw [if_neg h3, List.getElem?_eq_none (by simp [hl]; omega)]
theorem lay_grow {cur xs : List Value} {n i : Nat} {v : Value} (hc : n + 1 ≤ cur.length) (hx : cur.take i = xs.take i) (hl : xs.length = n) (hi : i ≤ n) : (layAt (layAt cur i [v]) (i + 1) (xs.drop i)).take (n + 1) = xs.take i ++ v :: xs.drop i := by
  have hg : ∀ k, k < i → xs[k]? = cur[k]? := fun k hk => by
    have := congrArg (fun l => l[k]?) hx
    simp only [List.getElem?_take, if_pos hk] at this
    exact this.symm
  apply List.ext_getElem?
  intro k
  rw [List.getElem?_take, layAt_get _ (i + 1) _ (by rw [layAt_len, List.length_drop]; omega), layAt_get [v] i cur (by simp; omega), List.length_drop, hl]
  simp only [List.length_cons, List.length_nil]
  by_cases h1 : k < i
  · rw [if_pos (by omega), if_neg (by omega), if_neg (by omega), List.getElem?_append_left (by rw [List.length_take]; omega), List.getElem?_take, if_pos h1, hg k h1]
  · rw [List.getElem?_append_right (by rw [List.length_take]; omega), List.length_take, hl]
    have e1 : min i n = i := by omega
    rw [e1]
    by_cases h2 : k = i
    · subst h2
      rw [if_pos (by omega), if_neg (by omega), if_pos (by omega), Nat.sub_self]
      rfl
    · have e2 : k - i = (k - (i + 1)) + 1 := by omega
      by_cases h3 : k < n + 1
      · rw [if_pos h3, if_pos (by omega), e2, List.getElem?_cons_succ]
      · rw [if_neg h3, List.getElem?_eq_none (by simp [hl]; omega)]
theorem info_i64 : ∃ i, Tryz.prog.info? 2 = some i ∧ i.zero = some (.int .i64 0) ∧ i.size = 1 ∧ i.bytes = 8 := info_parts (by kernel_rfl)
theorem size_i64 : (Tryz.prog.info? 2).map (·.size) = some 1 := by obtain ⟨i, h1, h2, h3, h4⟩ := info_i64; rw [h1]; simp [h3]
theorem run_size_i64 (w : World) : (Go.sizeOf 2).run Tryz.prog w = .ok 1 w := by obtain ⟨i, h1, h2, h3, h4⟩ := info_i64; simp [Go.sizeOf, typeInfo, h1, h3]
theorem ones_i64 {l : List Int} : ∀ v ∈ l.map (Value.int .i64), v.oneCell' = true := fun v hv => by obtain ⟨k, _, rfl⟩ := List.mem_map.1 hv; rfl
def InsPost (w : World) (v : Value) (n : Nat) (l : List Int) (e : Ending) (w' : World) : Prop := ∃ v', e = .returned v' ∧ w'.ownsRow 0 2 1 v' (n + 1) (l.map (Value.int .i64)) ∧ Touch (fun b => v.ownBlock = some b) w w' ∧ (v'.ownBlock = v.ownBlock ∨ v'.ownBlock = some w.heap.size) ∧ w.heap.size ≤ w'.heap.size
theorem ins_end {w : World} {v : Value} {n g : Nat} {l : List Int} {x : Int} (hown : w.ownsRow 0 2 1 v n (l.map (Value.int .i64))) (hg : w.heap[g]? = some (.cells #[.int .i64 x] 2 (0, 0))) (hn : n ≤ 1100000) :
    Calls Tryz.prog 99 #[v, .int .i64 (n : Int), .slice (some ⟨g, 0, none⟩) 1 1] w (InsPost w v n (insAt n x l)) := by
  obtain ⟨i, i1, i2, i3, i4⟩ := info_i64
  have hap : ∀ ty, ∃ v' w', (Builtin.append_ #[96, 96] ty #[v, .slice (some ⟨g, 0, none⟩) 1 1]).run Tryz.prog w = .ok v' w' ∧ w'.ownsRow 0 2 1 v' (n + 1) (l.map (Value.int .i64) ++ [.int .i64 x]) ∧ Touch (fun b => v.ownBlock = some b) w w' ∧ (v'.ownBlock = v.ownBlock ∨ v'.ownBlock = some w.heap.size) ∧ w.heap.size ≤ w'.heap.size := fun ty =>
    append_law (P := Tryz.prog) (w := w) 96 ty 2 i _ 1 8 Tryz.underlying96 i1 i2 i3 i4 rfl v n _ hown ⟨g, 0, none⟩ 1 1 [.int .i64 x] (by simp) (fun j u hu => by
      rw [addr_add, Nat.zero_add]; exact cellOf hg (by simpa using hu)) (by simp [Value.oneCell']) (by unfold maxLen; omega) (by omega)
  have hlen : l.length = n := by have := hown.1; simpa using this
  have e1 : (insAt n x l).map (Value.int .i64) = l.map (Value.int .i64) ++ [.int .i64 x] := by unfold insAt; simp [List.take_of_length_le (Nat.le_of_eq hlen), List.drop_of_length_le (Nat.le_of_eq hlen)]
  have hsh : (v = .slice none 0 0 ∧ n = 0) ∨ ∃ b cap, v = .slice (some ⟨b, 0, none⟩) n cap ∧ n ≤ cap ∧ cap ≤ maxLen := by
    rcases hown.2 with h | ⟨b, cap, cur, h1, _, _, h2, h3, _⟩
    · exact .inl h
    · exact .inr ⟨b, cap, h1, h2, h3⟩
  obtain ⟨v', w', h1, h2, h3, h4, h5⟩ := hap 96
  have HP := Lib.hid (show InsPost w v n (insAt n x l) (.returned v') w' from ⟨v', rfl, by rw [e1]; exact h2, h3, h4, h5⟩)
  clear h2 h3 h4 h5 hap hown hg e1 hlen i1 i2 i3 i4
  rcases hsh with ⟨rfl, rfl⟩ | ⟨b, cap, rfl, hc, hm⟩
  · go_enter Tryz.func99, Tryz.ntmps99
    go_wp2_with (at_builtin; refine Lib.wpList_append_run _ rfl _ _ _ _ rfl _ _ rfl rfl _ _ h1 ?_)
    all_goals (go_ret; exact HP.out)
  · unfold maxLen at hm
    go_enter Tryz.func99, Tryz.ntmps99
    go_wp2_with (at_builtin; refine Lib.wpList_append_run _ rfl _ _ _ _ rfl _ _ rfl rfl _ _ h1 ?_)
    all_goals (go_ret; exact HP.out)
theorem overlaps_no {w : World} {b g i : Nat} {cur : Array Value} {x : Int} (hb : w.heap[b]? = some (.cells cur 2 (0, 0))) (hg : w.heap[g]? = some (.cells #[.int .i64 x] 2 (0, 0))) (hne : g ≠ b) (hc : cur.size ≠ 0) (lb cb : Nat) :
    (callFunc 140 #[.slice (some ⟨g, 0, none⟩) 1 1, .slice (some ⟨b, i, none⟩) lb cb]).run Tryz.prog w = .ok (.value (.bool false)) w := by
  have s1 : w.shape? g = some (2, 1) := by unfold World.shape?; rw [hg]; rfl
  have s2 : w.shape? b = some (2, cur.size) := by unfold World.shape?; rw [hb]
  have f : ∀ o, w.frozen? ⟨g, o, none⟩ = false := fun o => freeOf (o := o) hg
  rw [run_callFunc_extern Tryz.func140 (by kernel_rfl) (by kernel_rfl) (by kernel_rfl) (e := Extern.SlicesOverlaps.overlaps #[96, 96] #[4]) (by kernel_rfl),
    Lib.run_overlaps_apart w 96 4 2 Tryz.underlying96 1 run_size_i64 ⟨g, 0, none⟩ ⟨b, i, none⟩ 1 1 lb cb hne _ _ 1 cur.size s1 s2 hc (f 0) (f 1)]
  rfl
theorem ins_shift {w : World} {b n c i g : Nat} {cur : Array Value} {l : List Int} {x : Int} (hb : w.heap[b]? = some (.cells cur 2 (0, 0))) (hc : n + 1 ≤ c) (hcm : c ≤ maxLen) (hs : cur.size = c) (ht : cur.toList.take n = l.map (Value.int .i64)) (hl : l.length = n) (hi : i < n) (hg : w.heap[g]? = some (.cells #[.int .i64 x] 2 (0, 0))) (hne : g ≠ b) (hn : n ≤ 1100000) :
    Calls Tryz.prog 99 #[.slice (some ⟨b, 0, none⟩) n c, .int .i64 (i : Int), .slice (some ⟨g, 0, none⟩) 1 1] w (InsPost w (.slice (some ⟨b, 0, none⟩) n c) n (insAt i x l)) := by
  unfold maxLen at hcm
  have hz2 : ¬ ((i : Int) = (n : Int)) := by omega
  have hov : ∀ lb cb, (callFunc 140 #[.slice (some ⟨g, 0, none⟩) 1 1, .slice (some ⟨b, i + 1, none⟩) lb cb]).run Tryz.prog w = .ok (.value (.bool false)) w := overlaps_no hb hg hne (by omega)
  have hlen : (l.map (Value.int .i64)).length = n := by simpa using hl
  have hgs : ∀ k, k < n → (l.map (Value.int .i64))[k]? = cur[k]? := fun k hk => by rw [← ht, List.getElem?_take, if_pos hk]; simp
  have hdl : ((l.map (Value.int .i64)).drop i).length = n - i := by rw [List.length_drop, hlen]
  have hw1 : IntKind.i64.wrap ((i : Int) + 1) = (i : Int) + 1 := by rw [IntKind.wrap_i64]; omega
  have hw2 : IntKind.i64.wrap ((n : Int) + 1) = (n : Int) + 1 := by rw [IntKind.wrap_i64]; omega
  have hin : i ≤ n := by omega
  have hb2 : ¬ (c = i + 1) := by omega
  have hb1z : (0 : Int) ≤ (i : Int) + 1 := by omega
  have htn : ((i : Int) + 1).toNat = i + 1 := by omega
  have hb3 : (i : Int) ≤ (n : Int) + 1 := by omega
  have mixed : Tryz.prog.follows Departure.mixedOrders = true := by kernel_rfl
  have hb4 : ¬ (c = i) := by omega
  have hcp1 : ∀ ty dc sc, (Builtin.copy_ #[96, 96] ty #[.slice (some ⟨b, i + 1, none⟩) (n - i) dc, .slice (some ⟨b, i, none⟩) (n + 1 - i) sc]).run Tryz.prog w.drew = .ok (goInt ((l.map (Value.int .i64)).drop i).length) (w.drew.setCells b (i + 1) ((l.map (Value.int .i64)).drop i)) := fun ty dc sc =>
    run_copy_cells w.drew _ _ ty 2 b (i + 1) (n - i) dc ⟨b, i, none⟩ (n + 1 - i) sc ((l.map (Value.int .i64)).drop i) Tryz.underlying96 size_i64 (by rw [hdl]; simp only [Nat.min_def]; split <;> omega)
      (fun j v hj => by
        rw [List.getElem?_drop] at hj
        have hlt : i + j < n := by have := (List.getElem?_eq_some_iff.1 hj).1; omega
        rw [addr_add]
        exact cellOf (o := i + j) hb (by rw [← hgs _ hlt]; exact hj))
      (fun j hj => by
        have hj2 : i + 1 + j < cur.size := by omega
        have : w.drew.cell? ⟨b, i + 1 + j, none⟩ = some cur[i + 1 + j] := cellOf (o := i + 1 + j) hb (Array.getElem?_eq_getElem hj2)
        rw [this]; rfl)
      (fun j hj => freeOf (o := i + 1 + j) hb) (fun v hv => ones_i64 v (List.mem_of_mem_drop hv))
  obtain ⟨W1, hW1⟩ : ∃ W1, W1 = w.drew.setCells b (i + 1) ((l.map (Value.int .i64)).drop i) := ⟨_, rfl⟩
  have hb1 : W1.heap[b]? = some (.cells (layAt cur.toList (i + 1) ((l.map (Value.int .i64)).drop i)).toArray 2 (0, 0)) := by rw [hW1]; exact heap_setCells _ _ _ _ hb
  have hT1 : Touch (fun c => c = b) w W1 := by rw [hW1]; exact touch_setCells _ _ (Touch.refl _ _).drew
  have hg1 : W1.heap[g]? = some (.cells #[.int .i64 x] 2 (0, 0)) := hT1.heap hg hne
  have hsz : (layAt cur.toList (i + 1) ((l.map (Value.int .i64)).drop i)).length = c := by rw [layAt_len]; simpa using hs
  have hcp2 : ∀ ty dc, (Builtin.copy_ #[96, 96] ty #[.slice (some ⟨b, i, none⟩) (n + 1 - i) dc, .slice (some ⟨g, 0, none⟩) 1 1]).run Tryz.prog W1 = .ok (goInt 1) (W1.setCells b i [.int .i64 x]) := fun ty dc =>
    run_copy_cells W1 _ _ ty 2 b i (n + 1 - i) dc ⟨g, 0, none⟩ 1 1 [.int .i64 x] Tryz.underlying96 size_i64 (by simp only [List.length_cons, List.length_nil, Nat.min_def]; split <;> omega)
      (fun j v hj => by rw [addr_add, Nat.zero_add]; exact cellOf hg1 (by simpa using hj))
      (fun j hj => by
        have hj0 : j = 0 := by simpa using hj
        subst hj0
        have hj2 : i + 0 < (layAt cur.toList (i + 1) ((l.map (Value.int .i64)).drop i)).toArray.size := by rw [List.size_toArray, hsz]; omega
        have := cellOf (o := i + 0) hb1 (Array.getElem?_eq_getElem hj2)
        rw [this]; rfl)
      (fun j hj => freeOf (o := i + j) hb1) (by simp [Value.oneCell'])
  have hb2' : (W1.setCells b i [.int .i64 x]).heap[b]? = _ := heap_setCells [.int .i64 x] i W1 _ hb1
  have hT2 : Touch (fun c => c = b) w (W1.setCells b i [.int .i64 x]) := touch_setCells _ _ hT1
  have hfin : InsPost w (.slice (some ⟨b, 0, none⟩) n c) n (insAt i x l) (.returned (.slice (some ⟨b, 0, none⟩) (n + 1) c)) (W1.setCells b i [.int .i64 x]) := by
    refine ⟨_, rfl, ownsRow_of_heap hb2' hc (by unfold maxLen; omega) ?_ ?_ ?_, hT2.mono fun d _ e => by rw [e]; rfl, .inl rfl, hT2.size⟩
    · rw [List.size_toArray, layAt_len]; simp [hsz]
    · rw [Nat.mul_one]
      have := lay_shift (cur := cur.toList) (xs := l.map (Value.int .i64)) (v := .int .i64 x) (by simpa [hs] using hc) ht (Nat.le_of_lt hi)
      simp only at this ⊢
      rw [this]
      unfold insAt
      simp [List.map_take, List.map_drop]
    · unfold insAt; simp [hl]; omega
  have HF := Lib.hid hfin
  rw [← hW1] at hcp1
  clear hW1
  clear hb hs ht hl hg hne hlen hgs hdl hb1 hT1 hg1 hsz hb2' hT2 hfin
  go_enter Tryz.func99, Tryz.ntmps99
  go_wp2_with (simp only [hov])
  go_region_law_o (refine step_copy_runI rfl _ _ 96 96 rfl _ _ (by simp [Act.eval, Act.put]) (by simp [Act.eval, Act.put]) (hcp1 _ _ _) ?_)
  go_wp2_with (at_builtin; refine wpList_copy_runI _ rfl _ _ 96 96 rfl _ _ rfl rfl (hcp2 _ _) ?_)
  go_ret
  exact HF.out
theorem ins_grow {w : World} {b n c i g : Nat} {cur : Array Value} {l : List Int} {x : Int} (hb : w.heap[b]? = some (.cells cur 2 (0, 0))) (hnc : n ≤ c) (hc : c < n + 1) (hs : cur.size = c) (ht : cur.toList.take n = l.map (Value.int .i64)) (hl : l.length = n) (hi : i < n) (hg : w.heap[g]? = some (.cells #[.int .i64 x] 2 (0, 0))) (hn : n ≤ 1100000) :
    Calls Tryz.prog 99 #[.slice (some ⟨b, 0, none⟩) n c, .int .i64 (i : Int), .slice (some ⟨g, 0, none⟩) 1 1] w (InsPost w (.slice (some ⟨b, 0, none⟩) n c) n (insAt i x l)) := by
  obtain ⟨i0, hi0, hz0, hzs, hzb⟩ := info_i64
  have hz2 : ¬ ((i : Int) = (n : Int)) := by omega
  have hz3 : (c : Int) < (n : Int) + 1 := by omega
  have hlen : (l.map (Value.int .i64)).length = n := by simpa using hl
  have hgs : ∀ k, k < n → (l.map (Value.int .i64))[k]? = cur[k]? := fun k hk => by rw [← ht, List.getElem?_take, if_pos hk]; simp
  have hdl : ((l.map (Value.int .i64)).drop i).length = n - i := by rw [List.length_drop, hlen]
  have hbw := (Array.getElem?_eq_some_iff.1 hb).1
  have hgw := (Array.getElem?_eq_some_iff.1 hg).1
  have hkk : (n : Int) + 1 - (i : Int) = ((n + 1 - i : Nat) : Int) := by omega
  have hik : i + (n + 1 - i) = n + 1 := by omega
  have mixed : Tryz.prog.follows Departure.mixedOrders = true := by kernel_rfl
  have hold : (Builtin.firstCells i0.size i (.slice (some ⟨b, 0, none⟩) i c)).run Tryz.prog w.drew = .ok ((l.map (Value.int .i64)).take i).toArray w.drew := by
    rw [hzs]
    exact run_firstCells_some w.drew 1 i ⟨b, 0, none⟩ i c ((l.map (Value.int .i64)).take i) (by rw [List.length_take]; omega) (fun j v hj => by
      rw [List.getElem?_take] at hj
      split at hj
      · rw [addr_add, Nat.zero_add]; exact cellOf (o := j) hb (by rw [← hgs _ (by omega)]; exact hj)
      · cases hj)
  have hrz : ∀ ty, (Builtin.append_ #[96, 3] ty #[.slice (some ⟨b, 0, none⟩) i c, .int .i64 ((n : Int) + 1 - (i : Int))]).run Tryz.prog w =
      .ok (.slice (some ⟨w.heap.size, 0, none⟩) (n + 1) (grownCap w (n + 1) c 2)) (w.drew.alloc (.cells (((l.map (Value.int .i64)).take i).toArray ++ Builtin.zeroCells (Value.int .i64 0).cells (n + 1 - i) ++ Builtin.zeroCells (Value.int .i64 0).cells (grownCap w (n + 1) c 2 - (n + 1))) 2)) := fun ty => by
    have h := Lib.run_append_grow_zeros (P := Tryz.prog) w 96 3 ty 2 i0 _ .i64 .i64 Tryz.underlying96 Tryz.underlying3 hi0 hz0 (some ⟨b, 0, none⟩) i c ((l.map (Value.int .i64)).take i) hold (n + 1 - i) (by omega) (by omega) (by omega) (by omega) (by rw [hzb]; omega) (by rw [hzb, hik]; exact growslice_fits hc (by omega))
    rw [hik] at h
    rw [hkk]
    exact h
  obtain ⟨G, hG⟩ : ∃ G, G = grownCap w (n + 1) c 2 := ⟨_, rfl⟩
  obtain ⟨ROW, hROW⟩ : ∃ ROW : Array Value, ROW = ((l.map (Value.int .i64)).take i).toArray ++ Builtin.zeroCells (Value.int .i64 0).cells (n + 1 - i) ++ Builtin.zeroCells (Value.int .i64 0).cells (G - (n + 1)) := ⟨_, rfl⟩
  have hGn : n + 1 ≤ G := by rw [hG]; exact grownCap_ge w _ _ _
  have hGm : G ≤ maxLen := by rw [hG]; exact grownCap_le_maxLen w (n + 1) c 2 (by unfold maxLen; omega)
  rw [← hG] at hrz
  rw [← hROW] at hrz
  have hRs : ROW.size = G := by
    rw [hROW]
    simp [Builtin.zeroCells, Value.cells, hl]
    omega
  have hRt : ROW.toList.take i = (l.map (Value.int .i64)).take i := by
    rw [hROW]
    simp only [Array.toList_append, List.append_assoc]
    rw [List.take_append_of_le_length (by simp [hl]; omega)]
    rw [List.take_of_length_le (by simp; omega)]
  obtain ⟨W1, hW1⟩ : ∃ W1, W1 = w.drew.alloc (.cells ROW 2) := ⟨_, rfl⟩
  have hB1 : Below w.heap.size w W1 := by rw [hW1]; exact (Below.refl _ w).drew.alloc (by simp) _
  have hN1 : W1.heap[w.heap.size]? = some (.cells ROW 2 (0, 0)) := by rw [hW1]; exact heap_alloc_new w.drew _
  rw [← hW1] at hrz
  clear hW1 hROW hG hik hold hkk
  have hcpA : ∀ (W : World), W.heap = W1.heap → ∀ ty dc, (Builtin.copy_ #[96, 96] ty #[.slice (some ⟨w.heap.size, i, none⟩) (n + 1 - i) dc, .slice (some ⟨g, 0, none⟩) 1 1]).run Tryz.prog W = .ok (goInt 1) (W.setCells w.heap.size i [.int .i64 x]) := fun W hW ty dc =>
    run_copy_cells W _ _ ty 2 w.heap.size i (n + 1 - i) dc ⟨g, 0, none⟩ 1 1 [.int .i64 x] Tryz.underlying96 size_i64 (by simp only [List.length_cons, List.length_nil, Nat.min_def]; split <;> omega)
      (fun j v hj => by rw [addr_add, Nat.zero_add]; exact cellOf (w := W) (by rw [hW, hB1.block g hgw]; exact hg) (by simpa using hj))
      (fun j hj => by
        have hj0 : j = 0 := by simpa using hj
        subst hj0
        have := cellOf (w := W) (o := i + 0) (by rw [hW]; exact hN1) (Array.getElem?_eq_getElem (show i + 0 < ROW.size by omega))
        rw [this]; rfl)
      (fun j hj => freeOf (w := W) (o := i + j) (by rw [hW]; exact hN1)) (by simp [Value.oneCell'])
  obtain ⟨W2, hW2⟩ : ∃ W2, W2 = W1.setCells w.heap.size i [.int .i64 x] := ⟨_, rfl⟩
  have hcpA2 := hcpA W1 rfl
  rw [← hW2] at hcpA2
  have hT2 : Touch (fun c => c = w.heap.size) W1 W2 := by rw [hW2]; exact touch_setCells _ _ (Touch.refl _ _)
  have hN2 : W2.heap[w.heap.size]? = some (.cells (layAt ROW.toList i [.int .i64 x]).toArray 2 (0, 0)) := by rw [hW2]; exact heap_setCells _ _ _ _ hN1
  have hB2 : W2.heap[b]? = some (.cells cur 2 (0, 0)) := hT2.heap ((hB1.block b hbw).trans hb) (by omega)
  have hcpB : ∀ (W : World), W.heap = W2.heap → ∀ ty dc sc, (Builtin.copy_ #[96, 96] ty #[.slice (some ⟨w.heap.size, i + 1, none⟩) (n - i) dc, .slice (some ⟨b, i, none⟩) (n - i) sc]).run Tryz.prog W = .ok (goInt ((l.map (Value.int .i64)).drop i).length) (W.setCells w.heap.size (i + 1) ((l.map (Value.int .i64)).drop i)) := fun W hW ty dc sc =>
    run_copy_cells W _ _ ty 2 w.heap.size (i + 1) (n - i) dc ⟨b, i, none⟩ (n - i) sc ((l.map (Value.int .i64)).drop i) Tryz.underlying96 size_i64 (by rw [hdl]; simp)
      (fun j v hj => by
        rw [List.getElem?_drop] at hj
        have hlt : i + j < n := by have := (List.getElem?_eq_some_iff.1 hj).1; omega
        rw [addr_add]
        exact cellOf (w := W) (o := i + j) (by rw [hW]; exact hB2) (by rw [← hgs _ hlt]; exact hj))
      (fun j hj => by
        have := cellOf (w := W) (o := i + 1 + j) (by rw [hW]; exact hN2) (Array.getElem?_eq_getElem (show i + 1 + j < _ by rw [List.size_toArray, layAt_len]; simp [hRs]; omega))
        rw [this]; rfl)
      (fun j hj => freeOf (w := W) (o := i + 1 + j) (by rw [hW]; exact hN2)) (fun v hv => ones_i64 v (List.mem_of_mem_drop hv))
  have hfin : ∀ W : World, W.heap = W2.heap → W.os = W2.os → W.tape = W2.tape → W.output = W2.output → InsPost w (.slice (some ⟨b, 0, none⟩) n c) n (insAt i x l) (.returned (.slice (some ⟨w.heap.size, 0, none⟩) (n + 1) G)) (W.setCells w.heap.size (i + 1) ((l.map (Value.int .i64)).drop i)) := by
    intro W e1 e2 e3 e4
    have hW : W.heap[w.heap.size]? = some (.cells (layAt ROW.toList i [.int .i64 x]).toArray 2 (0, 0)) := by rw [e1]; exact hN2
    have hT : Touch (fun _ => False) w W := by
      refine ⟨e2.trans (hT2.os.trans hB1.os), e3.trans (hT2.tape.trans hB1.tape), e4.trans (hT2.output.trans hB1.output), ?_, fun d hd _ => ?_⟩
      · rw [e1]; exact Nat.le_trans hB1.size hT2.size
      · rw [e1, hT2.block d (Nat.lt_of_lt_of_le hd hB1.size) (by omega)]; exact hB1.block d hd
    have hT3 : Touch (fun _ => False) w (W.setCells w.heap.size (i + 1) ((l.map (Value.int .i64)).drop i)) := by
      have h3 := touch_setCells (b := w.heap.size) ((l.map (Value.int .i64)).drop i) (i + 1) (Touch.refl (fun c => c = w.heap.size) W)
      exact hT.step h3 fun d hd e => by omega
    refine ⟨_, rfl, ownsRow_of_heap (heap_setCells _ _ _ _ hW) hGn hGm ?_ ?_ ?_, hT3.mono fun _ _ h => h.elim, .inr rfl, hT3.size⟩
    · rw [List.size_toArray, layAt_len, layAt_len]; simp [hRs]
    · rw [Nat.mul_one]
      have := lay_grow (cur := ROW.toList) (xs := l.map (Value.int .i64)) (v := .int .i64 x) (by simpa [hRs] using hGn) hRt hlen (Nat.le_of_lt hi)
      simp only at this ⊢
      rw [this]
      unfold insAt
      simp [List.map_take, List.map_drop]
    · unfold insAt; simp [hl]; omega
  have HF := Lib.hid hfin
  have HRZ := Lib.hid hrz
  have HBB := Lib.hid hcpB
  have hw1 : IntKind.i64.wrap ((i : Int) + 1) = (i : Int) + 1 := by rw [IntKind.wrap_i64]; omega
  have hw2 : IntKind.i64.wrap ((n : Int) + 1) = (n : Int) + 1 := by rw [IntKind.wrap_i64]; omega
  have hw3 : IntKind.i64.wrap ((n : Int) + 1 - (i : Int)) = (n : Int) + 1 - (i : Int) := by rw [IntKind.wrap_i64]; omega
  have hG63 : G ≤ 9223372036854775807 := by unfold maxLen at hGm; omega
  have hGi : ¬ (G = i) := by omega
  have hGim : ¬ (G = i + 1) := by omega
  have hci : ¬ (c = i) := by omega
  have hbN : b ≠ w.heap.size := by omega
  have hb1 : (0 : Int) ≤ (i : Int) + 1 := by omega
  have hin : i ≤ n := by omega
  have htn : ((i : Int) + 1).toNat = i + 1 := by omega
  have hb3 : (i : Int) ≤ (n : Int) := by omega
  have hb4 : (i : Int) ≤ (n : Int) + 1 := by omega
  clear hb hs ht hl hg hlen hgs hdl hrz hcpA hcpB hfin hT2 hN2 hB2 hB1 hN1 hRs hRt hGm hi0 hz0 hzs hzb hW2
  go_enter Tryz.func99, Tryz.ntmps99
  go_wp2_with (at_builtin; refine Lib.wpList_append_run _ rfl _ _ _ _ rfl _ _ rfl rfl _ _ (HRZ.out _) ?_)
  go_region_law_o (refine step_copy_runI rfl _ _ 96 96 rfl (.slice (some ⟨w.heap.size, i + 1, none⟩) (n - i) (G - (i + 1))) (.slice (some ⟨b, i, none⟩) (n - i) (c - i)) (by simp [Act.eval, Act.put]) (by simp [Act.eval, Act.put]) (HBB.out _ (by rfl) _ _ _) ?_)
  go_wp2
  go_ret
  exact HF.out _ (by rfl) (by rfl) (by rfl) (by rfl)
theorem insert_any {w : World} {v : Value} {n i g : Nat} {l : List Int} {x : Int} (hown : w.ownsRow 0 2 1 v n (l.map (Value.int .i64))) (hi : i ≤ n) (hg : w.heap[g]? = some (.cells #[.int .i64 x] 2 (0, 0))) (hne : v.ownBlock ≠ some g) (hn : n ≤ 1100000) :
    Calls Tryz.prog 99 #[v, .int .i64 (i : Int), .slice (some ⟨g, 0, none⟩) 1 1] w (InsPost w v n (insAt i x l)) := by
  have hl : l.length = n := by have := hown.1; simpa using this
  by_cases he : i = n
  · subst he; exact ins_end hown hg hn
  · rcases hown.2 with ⟨rfl, rfl⟩ | ⟨b, c, cur, rfl, _, hb, hnc, hcm, hs, ht⟩
    · omega
    · rw [Nat.mul_one] at hs ht
      by_cases hr : n + 1 ≤ c
      · exact ins_shift hb hr hcm hs ht hl (by omega) hg (fun e => hne (by rw [e]; rfl)) hn
      · exact ins_grow hb hnc (by omega) hs ht hl (by omega) hg hn
end Go.Proofs.YtihfnegakcghiaaGreatDoor
namespace Go.Proofs.YtihfnegakcghiaaGreatDoor
open Go.RowKit
def insS (x : Int) (l : List Int) : List Int := if l.contains x then l else insAt (l.countP (· < x)) x l
theorem split_less {x : Int} : ∀ {l : List Int}, l.Pairwise (· < ·) → (∀ a ∈ l.take (l.countP (· < x)), a < x) ∧ ∀ a ∈ l.drop (l.countP (· < x)), x ≤ a
  | [], _ => by simp
  | a :: l, h => by
    have h2 := List.pairwise_cons.1 h
    obtain ⟨i1, i2⟩ := split_less (x := x) h2.2
    by_cases ha : a < x
    · rw [List.countP_cons_of_pos (by simpa using ha)]
      refine ⟨fun b hb => ?_, fun b hb => ?_⟩
      · rw [List.take_succ_cons, List.mem_cons] at hb
        rcases hb with rfl | hb
        · exact ha
        · exact i1 b hb
      · rw [List.drop_succ_cons] at hb
        exact i2 b hb
    · have : l.countP (· < x) = 0 := by
        rw [List.countP_eq_zero]
        intro b hb
        have := h2.1 b hb
        simp; omega
      rw [List.countP_cons_of_neg (by simpa using ha), this]
      refine ⟨fun b hb => by simp at hb, fun b hb => ?_⟩
      rw [List.drop_zero, List.mem_cons] at hb
      rcases hb with rfl | hb
      · omega
      · have := h2.1 b hb; omega
theorem insAt_mem {x : Int} {l : List Int} {i : Nat} (y : Int) : y ∈ insAt i x l ↔ y = x ∨ y ∈ l := by
  unfold insAt
  rw [List.mem_append, List.mem_cons]
  constructor
  · rintro (h | rfl | h)
    · exact .inr (List.mem_of_mem_take h)
    · exact .inl rfl
    · exact .inr (List.mem_of_mem_drop h)
  · rintro (rfl | h)
    · exact .inr (.inl rfl)
    · rw [← List.take_append_drop i l, List.mem_append] at h
      rcases h with h | h
      · exact .inl h
      · exact .inr (.inr h)
theorem insS_mem {x : Int} {l : List Int} (y : Int) : y ∈ insS x l ↔ y = x ∨ y ∈ l := by
  unfold insS
  split
  · rename_i h
    have : x ∈ l := by simpa using h
    exact ⟨.inr, fun h => by rcases h with rfl | h <;> assumption⟩
  · exact insAt_mem y
theorem insS_rise {x : Int} {l : List Int} (h : l.Pairwise (· < ·)) : (insS x l).Pairwise (· < ·) := by
  unfold insS
  split
  · exact h
  · rename_i hc
    have hx : x ∉ l := by simpa using hc
    obtain ⟨h1, h2⟩ := split_less (x := x) h
    have h3 := h
    rw [← List.take_append_drop (l.countP (· < x)) l, List.pairwise_append] at h3
    unfold insAt
    rw [List.pairwise_append, List.pairwise_cons]
    refine ⟨h3.1, ⟨fun a ha => ?_, h3.2.1⟩, fun a ha b hb => ?_⟩
    · have := h2 a ha
      have : a ≠ x := fun e => hx (by rw [← e]; exact List.mem_of_mem_drop ha)
      omega
    · rcases List.mem_cons.1 hb with rfl | hb
      · exact h1 a ha
      · exact h3.2.2 a ha b hb
theorem insS_len (x : Int) (l : List Int) : (insS x l).length ≤ l.length + 1 := by
  unfold insS
  split
  · omega
  · unfold insAt
    have := List.length_take_le' (l.countP (· < x)) l
    rw [List.length_append, List.length_cons, List.length_drop, List.length_take]
    have : l.countP (· < x) ≤ l.length := List.countP_le_length
    omega
def setI (f : Int → List Int) (k : Int) (l : List Int) : Int → List Int := fun j => if j = k then l else f j
theorem setI_self (f : Int → List Int) (k : Int) (l : List Int) : setI f k l k = l := by unfold setI; rw [if_pos rfl]
theorem setI_id (f : Int → List Int) (k : Int) : setI f k (f k) = f := by
  funext j; unfold setI; split <;> simp_all
def linkK (f : Int → List Int) (k r : Int) : Int → List Int := setI f k (insS r (f k))
structure GS where
  nodes : List NodeD
  rels : List RelD
  adj : Int → List Int
  nn : Int
  nr : Int
def GS.graph (s : GS) : GraphD := ⟨s.nodes, s.rels, s.nn, s.nr⟩
def GS.link (s : GS) (r : RelD) : GS := { s with adj := linkK (linkK s.adj r.src r.id) r.dst r.id }
def Rows (ma : Int → Option Value) (b : Nat) : Prop := ∃ k v, ma k = some v ∧ v.ownBlock = some b
def rowAt (ma : Int → Option Value) (k : Int) : Value := (ma k).getD (.slice none 0 0)
structure AtM (S : Nat → Prop) (W : World) (ba : Nat) (ma : Int → Option Value) (f : Int → List Int) : Prop where
  map : IntMap W ba ma
  own : S ba
  nil : ∀ k, ma k = none → f k = []
  rows : ∀ k v, ma k = some v → OwnsP W S 2 1 v (f k).length ((f k).map (Value.int .i64))
  apart : ∀ j k u v b, ma j = some u → ma k = some v → u.ownBlock = some b → v.ownBlock = some b → j = k
  rise : ∀ k, (f k).Pairwise (· < ·)
  few : ∀ k, (f k).length ≤ 1100000
section
variable {S S' : Nat → Prop} {W W' W1 W2 : World} {ba : Nat} {ma : Int → Option Value} {f : Int → List Int} {k : Int} {l : List Int} {v' : Value}
theorem AtM.row (h : AtM S W ba ma f) (k : Int) : OwnsP W S 2 1 (rowAt ma k) (f k).length ((f k).map (Value.int .i64)) := by
  unfold rowAt
  cases e : ma k with
  | none => rw [h.nil k e]; exact ⟨⟨rfl, .inl ⟨rfl, rfl⟩⟩, fun g hg => by simp [Value.ownBlock] at hg⟩
  | some v => exact h.rows k v e
theorem AtM.block (h : AtM S W ba ma f) {b : Nat} (hb : Rows ma b) : b < W.heap.size ∧ S b ∧ ∃ cs, W.heap[b]? = some (.cells cs 2 (0, 0)) := by
  obtain ⟨k, v, hk, hv⟩ := hb
  have h1 := h.rows k v hk
  refine ⟨(h1.1.lt b hv).2, h1.2 b hv, ?_⟩
  rcases h1.1.2 with ⟨rfl, _⟩ | ⟨g, c, cur, rfl, _, h2, _⟩
  · simp [Value.ownBlock] at hv
  · simp [Value.ownBlock] at hv; subst hv; exact ⟨cur, h2⟩
theorem AtM.not_map (h : AtM S W ba ma f) {b : Nat} {es : Array MapEntry} {clk : Nat} (hb : W.heap[b]? = some (.map es clk)) : ¬ Rows ma b := fun hr => by
  obtain ⟨_, _, cs, hc⟩ := h.block hr
  rw [hc] at hb
  cases hb
theorem AtM.ne (h : AtM S W ba ma f) : ¬ Rows ma ba := by obtain ⟨es, clk, hb, _⟩ := h.map; exact h.not_map hb
theorem AtM.other (h : AtM S W ba ma f) {b : Nat} {t : TypeId} {cs : Array Value} (hb : W.heap[b]? = some (.cells cs t (0, 0))) (ht : t ≠ 2) : b ≠ ba ∧ ¬ Rows ma b := by
  refine ⟨fun e => ?_, fun hr => ?_⟩
  · obtain ⟨es, clk, hm, _⟩ := h.map
    rw [e, hm] at hb; cases hb
  · obtain ⟨_, _, cs', hc⟩ := h.block hr
    rw [hc] at hb; cases hb; exact ht rfl
theorem AtM.keep (h : AtM S W ba ma f) (hb : W'.heap[ba]? = W.heap[ba]?) (hk : ∀ b, Rows ma b → W'.heap[b]? = W.heap[b]?) : AtM S W' ba ma f :=
  ⟨h.map.of_heap hb, h.own, h.nil, fun k v e => ⟨ownsRow_heap (h.rows k v e).1 fun g hg => hk g ⟨k, v, e, hg⟩, (h.rows k v e).2⟩, h.apart, h.rise, h.few⟩
theorem AtM.below (h : AtM S W ba ma f) (g : Below W.heap.size W W') : AtM S W' ba ma f := h.keep (g.block ba h.map.lt) fun b hb => g.block b (h.block hb).1
theorem AtM.imp (h : AtM S W ba ma f) (hp : ∀ b, b < W.heap.size → S b → S' b) : AtM S' W ba ma f :=
  ⟨h.map, hp ba h.map.lt h.own, h.nil, fun k v e => ⟨(h.rows k v e).1, fun g hg => hp g ((h.rows k v e).1.lt g hg).2 ((h.rows k v e).2 g hg)⟩, h.apart, h.rise, h.few⟩
theorem AtM.made {ba : Nat} (h : W.heap[ba]? = some (.map #[] 0)) (hs : S ba) : AtM S W ba (fun _ => none) (fun _ => []) :=
  ⟨IntMap.fresh h, hs, fun _ _ => rfl, fun k v e => by simp at e, fun j k u v b e => by simp at e, fun _ => List.Pairwise.nil, fun _ => by simp⟩
theorem AtM.set {P : Program} {T K E : TypeId} (h : AtM S W ba ma f) (hS : ∀ b, W.heap.size ≤ b → S b) (hT : P.underlying T = some (.map K E)) (hK : P.underlying K = some (.int .i64)) (ht : Touch (fun b => (rowAt ma k).ownBlock = some b) W W1) (hrow : W1.ownsRow 0 2 1 v' l.length (l.map (Value.int .i64)))
    (hblk : v'.ownBlock = (rowAt ma k).ownBlock ∨ ∃ b, W.heap.size ≤ b ∧ v'.ownBlock = some b) (hr : l.Pairwise (· < ·)) (hf : l.length ≤ 1100000) :
    ∃ W2, (Instr.mapUpdate T (.map (some ba)) (.int .i64 k) v').run P W1 = .ok () W2 ∧ AtM S W2 ba (updI ma k v') (setI f k l) ∧ (∀ b, b < W.heap.size → Rows (updI ma k v') b → Rows ma b) ∧ Touch (fun b => b = ba ∨ Rows ma b) W W2 := by
  have hk : ∀ b, (rowAt ma k).ownBlock = some b → ∃ u, ma k = some u ∧ u.ownBlock = some b := fun b hb => by
    unfold rowAt at hb
    cases e : ma k with
    | none => rw [e] at hb; simp [Value.ownBlock] at hb
    | some u => rw [e] at hb; exact ⟨u, rfl, hb⟩
  have hkR : ∀ b, (rowAt ma k).ownBlock = some b → Rows ma b := fun b hb => by obtain ⟨u, h1, h2⟩ := hk b hb; exact ⟨k, u, h1, h2⟩
  have hba : (rowAt ma k).ownBlock ≠ some ba := fun e => h.ne (hkR _ e)
  have hm1 : IntMap W1 ba ma := h.map.of_heap (ht.block ba h.map.lt hba)
  obtain ⟨W2, r1, r2, r3, r4⟩ := run_mapUpdate_int (P := P) hm1 hT hK k v'
  have hv : ∀ b, v'.ownBlock = some b → (Rows ma b ∨ W.heap.size ≤ b) ∧ b ≠ ba := fun b hb => by
    rcases hblk with e | ⟨b2, h2, e⟩
    · rw [e] at hb
      have := hkR b hb
      exact ⟨.inl this, fun e2 => h.ne (by rw [← e2]; exact this)⟩
    · rw [e] at hb
      cases hb
      have := h.map.lt
      exact ⟨.inr h2, by omega⟩
  have hold : ∀ j u, j ≠ k → ma j = some u → ∀ b, u.ownBlock = some b → W2.heap[b]? = W.heap[b]? := fun j u hj hu b hb => by
    have hR : Rows ma b := ⟨j, u, hu, hb⟩
    have hlt := (h.block hR).1
    have e1 : W1.heap[b]? = W.heap[b]? := ht.block b hlt fun e => by
      obtain ⟨u2, h1, h2⟩ := hk b e
      exact hj (h.apart j k u u2 b hu h1 hb h2)
    rw [← e1]
    exact r2.block b (Nat.lt_of_lt_of_le hlt ht.size) fun e => h.ne (by rw [← e]; exact hR)
  refine ⟨W2, r1, ⟨r3, h.own, fun j e => ?_, fun j u e => ?_, ?_, fun j => ?_, fun j => ?_⟩, ?_, ?_⟩
  · unfold updI at e
    unfold setI
    split at e
    · cases e
    · rename_i hj; rw [if_neg hj]; exact h.nil j e
  · unfold updI at e
    by_cases hj : j = k
    · rw [if_pos hj] at e
      cases e
      subst hj
      rw [setI_self]
      refine ⟨ownsRow_heap hrow fun g hg => r2.block g (hrow.lt g hg).2 (hv g hg).2, fun g hg => ?_⟩
      rcases (hv g hg).1 with h1 | h1
      · exact (h.block h1).2.1
      · exact hS g h1
    · rw [if_neg hj] at e
      unfold setI
      rw [if_neg hj]
      have h1 := h.rows j u e
      exact ⟨ownsRow_heap h1.1 fun g hg => hold j u hj e g hg, h1.2⟩
  · intro i j u v b e1 e2 h1 h2
    unfold updI at e1 e2
    have key : ∀ i u, i ≠ k → ma i = some u → u.ownBlock = some b → v'.ownBlock ≠ some b := fun i u hi hu h1 e => by
      have hlt := (h.block ⟨i, u, hu, h1⟩).1
      rcases hblk with e2 | ⟨b2, h2, e2⟩
      · rw [e2] at e
        obtain ⟨u2, h3, h4⟩ := hk b e
        exact hi (h.apart i k u u2 b hu h3 h1 h4)
      · rw [e2] at e; cases e; omega
    by_cases hi : i = k
    · by_cases hj : j = k
      · rw [hi, hj]
      · rw [if_pos hi] at e1; rw [if_neg hj] at e2; cases e1
        exact absurd h1 (key j v hj e2 h2)
    · by_cases hj : j = k
      · rw [if_neg hi] at e1; rw [if_pos hj] at e2; cases e2
        exact absurd h2 (key i u hi e1 h1)
      · rw [if_neg hi] at e1; rw [if_neg hj] at e2
        exact h.apart i j u v b e1 e2 h1 h2
  · unfold setI; split
    · exact hr
    · exact h.rise j
  · unfold setI; split
    · exact hf
    · exact h.few j
  · rintro b hlt ⟨j, u, e, hb⟩
    unfold updI at e
    by_cases hj : j = k
    · rw [if_pos hj] at e; cases e
      rcases (hv b hb).1 with h1 | h1
      · exact h1
      · omega
    · rw [if_neg hj] at e; exact ⟨j, u, e, hb⟩
  · exact (ht.mono fun b _ e => .inr (hkR b e)).trans ((r2.mono fun b _ e => .inl e))
end
structure GB where
  gx : Nat
  bn : Nat
  br : Nat
  ba : Nat
def GSp (B : GB) (ma : Int → Option Value) (b : Nat) : Prop := b = B.gx ∨ b = B.bn ∨ b = B.br ∨ b = B.ba ∨ Rows ma b
def gBoxV (B : GB) (s : GS) : Array Value := #[.map (some B.bn), .map (some B.br), .map (some B.ba), .int .i64 s.nn, .int .i64 s.nr]
structure GM (S : Nat → Prop) (W : World) (B : GB) (ma : Int → Option Value) (s : GS) : Prop where
  box : W.heap[B.gx]? = some (.cells (gBoxV B s) 72 (0, 0))
  nodes : MapOf NOwn NodeD.id W (fun b => S b ∧ ¬ GSp B ma b) B.bn s.nodes
  rels : MapOf ROwn RelD.id W (fun b => S b ∧ ¬ GSp B ma b) B.br s.rels
  adj : AtM S W B.ba ma s.adj
  own : S B.gx ∧ S B.bn ∧ S B.br
  ne : B.bn ≠ B.br ∧ B.bn ≠ B.ba ∧ B.br ≠ B.ba
section
variable {S S' : Nat → Prop} {W W' : World} {B : GB} {ma ma' : Int → Option Value} {s : GS} {f : Int → List Int}
theorem GM.lts (h : GM S W B ma s) : B.gx < W.heap.size ∧ B.bn < W.heap.size ∧ B.br < W.heap.size ∧ B.ba < W.heap.size := ⟨(Array.getElem?_eq_some_iff.1 h.box).1, h.nodes.lt, h.rels.lt, h.adj.map.lt⟩
theorem GM.sp_lt (h : GM S W B ma s) {b : Nat} (hb : GSp B ma b) : b < W.heap.size ∧ S b := by
  obtain ⟨h1, h2, h3, h4⟩ := h.lts
  rcases hb with rfl | rfl | rfl | rfl | hb
  · exact ⟨h1, h.own.1⟩
  · exact ⟨h2, h.own.2.1⟩
  · exact ⟨h3, h.own.2.2⟩
  · exact ⟨h4, h.adj.own⟩
  · exact ⟨(h.adj.block hb).1, (h.adj.block hb).2.1⟩
theorem GM.nes (h : GM S W B ma s) : (B.gx ≠ B.bn ∧ B.gx ≠ B.br ∧ B.gx ≠ B.ba) ∧ ¬ Rows ma B.gx ∧ ¬ Rows ma B.bn ∧ ¬ Rows ma B.br ∧ ¬ Rows ma B.ba := by
  obtain ⟨m1, ⟨e1, c1, hn, _⟩, _⟩ := h.nodes
  obtain ⟨m2, ⟨e2, c2, hr, _⟩, _⟩ := h.rels
  have ho := h.adj.other h.box (by decide)
  refine ⟨⟨fun e => ?_, fun e => ?_, ho.1⟩, ho.2, h.adj.not_map hn, h.adj.not_map hr, h.adj.ne⟩
  · have := h.box; rw [e, hn] at this; cases this
  · have := h.box; rw [e, hr] at this; cases this
theorem GM.below (h : GM S W B ma s) (g : Below W.heap.size W W') : GM S W' B ma s := by
  obtain ⟨h1, h2, h3, h4⟩ := h.lts
  exact ⟨(g.block _ h1).trans h.box, h.nodes.keep el_node (g.block _ h2) fun b _ hb => g.block b hb, h.rels.keep el_rel (g.block _ h3) fun b _ hb => g.block b hb, h.adj.below g, h.own, h.ne⟩
theorem GM.imp (h : GM S W B ma s) (hp : ∀ b, b < W.heap.size → S b → S' b) : GM S' W B ma s := by
  obtain ⟨h1, h2, h3, h4⟩ := h.lts
  exact ⟨h.box, h.nodes.imp el_node fun b hb ⟨x, y⟩ => ⟨hp b hb x, y⟩, h.rels.imp el_rel fun b hb ⟨x, y⟩ => ⟨hp b hb x, y⟩, h.adj.imp hp, ⟨hp _ h1 h.own.1, hp _ h2 h.own.2.1, hp _ h3 h.own.2.2⟩, h.ne⟩
theorem GM.linked (h : GM S W B ma s) (ha : AtM S W' B.ba ma' f) (hsub : ∀ b, b < W.heap.size → Rows ma' b → Rows ma b) (ht : Touch (fun b => b = B.ba ∨ Rows ma b) W W') : GM S W' B ma' { s with adj := f } := by
  obtain ⟨⟨n1, n2, n3⟩, n4, n5, n6, n7⟩ := h.nes
  obtain ⟨l1, l2, l3, l4⟩ := h.lts
  have hQ : ∀ b, b < W.heap.size → (S b ∧ ¬ GSp B ma b) → (S b ∧ ¬ GSp B ma' b) := fun b hb ⟨x, y⟩ => ⟨x, fun hs => y (by
    rcases hs with e | e | e | e | e
    · exact .inl e
    · exact .inr (.inl e)
    · exact .inr (.inr (.inl e))
    · exact .inr (.inr (.inr (.inl e)))
    · exact .inr (.inr (.inr (.inr (hsub b hb e)))))⟩
  have hK : ∀ b, (S b ∧ ¬ GSp B ma b) → b < W.heap.size → W'.heap[b]? = W.heap[b]? := fun b ⟨_, y⟩ hb => ht.block b hb fun e => y (by
    rcases e with e | e
    · exact .inr (.inr (.inr (.inl e)))
    · exact .inr (.inr (.inr (.inr e))))
  refine ⟨(ht.block _ l1 ?_).trans h.box, ?_, ?_, ha, h.own, h.ne⟩
  · rintro (e | e)
    · exact n3 e
    · exact n4 e
  · refine (MapOf.keep el_node (h.nodes.imp el_node (Q' := fun b => (S b ∧ ¬ GSp B ma' b) ∧ (S b ∧ ¬ GSp B ma b)) fun b hb x => ⟨hQ b hb x, x⟩) (ht.block _ l2 ?_) fun b hb hl => hK b hb.2 hl).imp el_node fun b _ x => x.1
    rintro (e | e)
    · exact h.ne.2.1 e
    · exact n5 e
  · refine (MapOf.keep el_rel (h.rels.imp el_rel (Q' := fun b => (S b ∧ ¬ GSp B ma' b) ∧ (S b ∧ ¬ GSp B ma b)) fun b hb x => ⟨hQ b hb x, x⟩) (ht.block _ l3 ?_) fun b hb hl => hK b hb.2 hl).imp el_rel fun b _ x => x.1
    rintro (e | e)
    · exact h.ne.2.2 e
    · exact n6 e
theorem GM.noded (h : GM S W B ma s) {l : List NodeD} (hm : MapOf NOwn NodeD.id W' (fun b => S b ∧ ¬ GSp B ma b) B.bn l) (ht : Touch (fun b => b = B.bn) W W') : GM S W' B ma { s with nodes := l } := by
  obtain ⟨⟨n1, n2, n3⟩, n4, n5, n6, n7⟩ := h.nes
  obtain ⟨l1, l2, l3, l4⟩ := h.lts
  exact ⟨(ht.block _ l1 n1).trans h.box, hm, h.rels.keep el_rel (ht.block _ l3 h.ne.1.symm) fun b hb hl => ht.block b hl fun e => hb.2 (.inr (.inl e)),
    h.adj.keep (ht.block _ l4 h.ne.2.1.symm) fun b hb => ht.block b (h.adj.block hb).1 fun e => n5 (by rw [← e]; exact hb), h.own, h.ne⟩
theorem GM.reled (h : GM S W B ma s) {l : List RelD} (hm : MapOf ROwn RelD.id W' (fun b => S b ∧ ¬ GSp B ma b) B.br l) (ht : Touch (fun b => b = B.br) W W') : GM S W' B ma { s with rels := l } := by
  obtain ⟨⟨n1, n2, n3⟩, n4, n5, n6, n7⟩ := h.nes
  obtain ⟨l1, l2, l3, l4⟩ := h.lts
  exact ⟨(ht.block _ l1 n2).trans h.box, h.nodes.keep el_node (ht.block _ l2 h.ne.1) fun b hb hl => ht.block b hl fun e => hb.2 (.inr (.inr (.inl e))), hm,
    h.adj.keep (ht.block _ l4 h.ne.2.2.symm) fun b hb => ht.block b (h.adj.block hb).1 fun e => n6 (by rw [← e]; exact hb), h.own, h.ne⟩
theorem GM.boxed (h : GM S W B ma s) {s' : GS} (he : s'.nodes = s.nodes ∧ s'.rels = s.rels ∧ s'.adj = s.adj) (hb : W'.heap[B.gx]? = some (.cells (gBoxV B s') 72 (0, 0))) (ht : Touch (fun b => b = B.gx) W W') : GM S W' B ma s' := by
  obtain ⟨⟨n1, n2, n3⟩, n4, n5, n6, n7⟩ := h.nes
  obtain ⟨l1, l2, l3, l4⟩ := h.lts
  obtain ⟨e1, e2, e3⟩ := he
  refine ⟨hb, ?_, ?_, ?_, h.own, h.ne⟩
  · rw [e1]; exact h.nodes.keep el_node (ht.block _ l2 n1.symm) fun b hb hl => ht.block b hl fun e => hb.2 (.inl e)
  · rw [e2]; exact h.rels.keep el_rel (ht.block _ l3 n2.symm) fun b hb hl => ht.block b hl fun e => hb.2 (.inl e)
  · rw [e3]; exact h.adj.keep (ht.block _ l4 n3.symm) fun b hb => ht.block b (h.adj.block hb).1 fun e => n4 (by rw [← e]; exact hb)
end
end Go.Proofs.YtihfnegakcghiaaGreatDoor
namespace Go.Proofs.YtihfnegakcghiaaGreatDoor
open Go.RowKit
def SeaPost (w : World) (l : List Int) (x : Int) (e : Ending) (w' : World) : Prop := e = .returned (.tuple #[.int .i64 ((l.countP (· < x) : Nat) : Int), .bool (l.contains x)]) ∧ ∃ q, w' = w.drewN q
theorem sea_nil (x : Int) (w : World) : Calls Tryz.prog 96 #[.slice none 0 0, .int .i64 x] w (SeaPost w [] x) := by
  have mixed : Tryz.prog.follows Departure.mixedOrders = true := by kernel_rfl
  have e1 : ∀ args w, (callFunc 138 args).run Tryz.prog w = .ok (.enter 138 args) w := enters_of Tryz.func138 (by kernel_rfl) rfl
  have e2 : ∀ args w, (callFunc 139 args).run Tryz.prog w = .ok (.enter 139 args) w := enters_of Tryz.func139 (by kernel_rfl) rfl
  go_enter Tryz.func96, Tryz.ntmps96
  go_wp2
  go_loopw [7, 8] (fun s7 s8 wr => s7 = .int .i64 0 ∧ s8 = .int .i64 0 ∧ ∃ q, wr = w.drewN q) (fun _ _ _ => 0)
  case atStart => exact ⟨rfl, rfl, 0, rfl⟩
  case round =>
    obtain ⟨rfl, rfl, q, rfl⟩ := hrel
    go_wp2
    go_ret2
    exact ⟨rfl, _, rfl⟩
theorem search_any {w : World} {v : Value} {n : Nat} {l : List Int} (x : Int) (hown : w.ownsRow 0 2 1 v n (l.map (Value.int .i64))) (hl : l.Pairwise (· < ·)) (hn : n ≤ 1100000) : Calls Tryz.prog 96 #[v, .int .i64 x] w (SeaPost w l x) := by
  have hlen : l.length = n := by have := hown.1; simpa using this
  rcases hown.2 with ⟨rfl, h0⟩ | ⟨b, c, cur, rfl, _, hb, hnc, hcm, hs, ht⟩
  · have : l = [] := List.eq_nil_of_length_eq_zero (by omega)
    subst this
    exact sea_nil x w
  · rw [Nat.mul_one] at ht
    have h := AnyG.slices_BinarySearch_int Tryz.searchI b 0 n c l x w (Nat.le_of_eq hlen.symm) (by omega) (fun j hj => by
      rw [Nat.zero_add]
      refine cellOf (o := j) hb ?_
      have h1 : (l.map (Value.int .i64))[j]? = cur.toList[j]? := by rw [← ht, List.getElem?_take, if_pos (by omega)]
      rw [← Array.getElem?_toList, ← h1, List.getElem?_map, List.getElem?_eq_getElem hj, List.getD_eq_getElem?_getD, List.getElem?_eq_getElem hj]
      rfl) (by rw [List.take_of_length_le (Nat.le_of_eq hlen)]; exact hl.imp fun h => Int.le_of_lt h)
    rw [List.take_of_length_le (Nat.le_of_eq hlen)] at h
    exact h
theorem fa_graph (i : Nat) (h : i < 5) (b : Nat) (W : World) : (Instr.fieldAt 72 (.pointer (some ⟨b, 0, none⟩)) i).run Tryz.prog W = .ok (.pointer (some ⟨b, i, none⟩)) W := by
  match i, h with
  | 0, _ => simp [go_sem]
  | 1, _ => simp [go_sem]
  | 2, _ => simp [go_sem]
  | 3, _ => simp [go_sem]
  | 4, _ => simp [go_sem]
theorem fa_rel0 (b : Nat) (W : World) : (Instr.fieldAt 49 (.pointer (some ⟨b, 0, none⟩)) 0).run Tryz.prog W = .ok (.pointer (some ⟨b, 0, none⟩)) W := by simp [go_sem]
theorem run_bs2 (x y : Int) (w : World) : (Instr.buildSlice 96 2 #[(0, .int .i64 x), (1, .int .i64 y)]).run Tryz.prog w = .ok (.slice (some ⟨w.heap.size, 0, none⟩) 2 2) (w.alloc (.cells #[.int .i64 x, .int .i64 y] 2)) := by
  simp [Instr.buildSlice, go_sem, Instr.fill]
theorem op_bs2 {a : Act} {w w' : World} {ops : Array Oper} {rest : List Oper} {Q : Exit → Act → World → Prop} {dst : Option Tmp} {ty : TypeId} {pos : String} {af : Array Edge} {t : TypeId} {n : Nat} {x y : Operand} {u1 u2 v : Value} (hr : (Instr.buildSlice t n #[(0, u1), (1, u2)]).run Tryz.prog w = .ok v w') (hx : a.eval x = u1) (hy : a.eval y = u2) (h : wpList Tryz.prog ops Q rest (a.put dst v) w') :
    wpList Tryz.prog ops Q (⟨dst, .buildSlice t n #[(0, x), (1, y)], ty, pos, af, none⟩ :: rest) a w := wpList_run rfl (exec_buildSlice2 rfl hx hy hr) h
theorem linkK_len (f : Int → List Int) (k r j : Int) : (linkK f k r j).length ≤ (f j).length + 1 := by
  unfold linkK setI
  split
  · rename_i e; subst e; exact insS_len r (f j)
  · omega
def linkJ (f : Int → List Int) (r : RelD) (j : Nat) : Int → List Int := ([r.src, r.dst].take j).foldl (fun f k => linkK f k r.id) f
theorem linkJ_succ (f : Int → List Int) (r : RelD) {j : Nat} {k : Int} (h : [r.src, r.dst][j]? = some k) : linkJ f r (j + 1) = linkK (linkJ f r j) k r.id := by
  unfold linkJ
  rw [List.take_add_one, h]
  simp
theorem linkJ_len (f : Int → List Int) (r : RelD) (j : Nat) (k : Int) : (linkJ f r j k).length ≤ (f k).length + 2 := by
  unfold linkJ
  have h1 := linkK_len f r.src r.id k
  have h2 := linkK_len (linkK f r.src r.id) r.dst r.id k
  match j with
  | 0 => simp
  | 1 => simp only [List.take_succ_cons, List.take_zero, List.foldl_cons, List.foldl_nil]; omega
  | j + 2 => simp only [List.take_succ_cons, List.take_nil, List.foldl_cons, List.foldl_nil]; omega
def LInv (S : Nat → Prop) (w1 W : World) (ba : Nat) (ma : Int → Option Value) (f : Int → List Int) : Prop :=
  ∃ ma', AtM S W ba ma' f ∧ (∀ b, b < w1.heap.size → Rows ma' b → Rows ma b) ∧ Touch (fun b => b = ba ∨ Rows ma b) w1 W
def relBox (r : RelD) (p : Option Addr) (c : Nat) : Array Value := #[.int .i64 r.id, .int .i64 r.src, .int .i64 r.dst, .string (strB r.type), .slice p r.props.length c]
theorem look_row {W : World} {ba : Nat} {ma : Int → Option Value} (h : IntMap W ba ma) (k : Int) : (Instr.lookup 70 (.map (some ba)) (.int .i64 k) false).run Tryz.prog W = .ok (rowAt ma k) W :=
  run_lookup_int h Tryz.underlying70 Tryz.underlying2 Tryz.zeroValue96 k
theorem link_start {S : Nat → Prop} {w : World} {B : GB} {ma : Int → Option Value} {f : Int → List Int} {gc : Array Value} (hb : w.heap[B.gx]? = some (.cells gc 72 (0, 0))) (h : AtM S w B.ba ma f) (r : RelD) (p : Option Addr) (c : Nat) :
    ∃ w1, (Instr.buildSlice 96 2 #[(0, .int .i64 r.src), (1, .int .i64 r.dst)]).run Tryz.prog (w.alloc (.cells (relBox r p c) 49)) = .ok (.slice (some ⟨w.heap.size + 1, 0, none⟩) 2 2) w1 ∧ w1.heap[B.gx]? = some (.cells gc 72 (0, 0)) ∧ w1.heap[w.heap.size]? = some (.cells (relBox r p c) 49 (0, 0)) ∧ w1.heap[w.heap.size + 1]? = some (.cells #[.int .i64 r.src, .int .i64 r.dst] 2 (0, 0)) ∧ w1.heap.size = w.heap.size + 2 ∧ Below w.heap.size w w1 ∧ LInv S w1 w1 B.ba ma f := by
  have hb1 := below_new (w := w) (.cells (relBox r p c) 49)
  have hb2 := below_new (w := w.alloc (.cells (relBox r p c) 49)) (.cells #[.int .i64 r.src, .int .i64 r.dst] 2)
  have hbc := below_trans hb1 hb2
  have hs : (w.alloc (.cells (relBox r p c) 49)).heap.size = w.heap.size + 1 := by simp
  have hn := heap_alloc_new (w.alloc (.cells (relBox r p c) 49)) (.cells #[.int .i64 r.src, .int .i64 r.dst] 2)
  rw [hs] at hn
  refine ⟨_, by rw [run_bs2, hs], (hbc.block _ (Array.getElem?_eq_some_iff.1 hb).1).trans hb, belowBlk hb2 (by simp) (heap_alloc_new w _), hn, by simp, hbc, ma, h.below hbc, fun b _ h => h, Touch.refl _ _⟩
theorem LInv.far {S : Nat → Prop} {w w1 W : World} {ba b : Nat} {ma : Int → Option Value} {f0 f : Int → List Int} (h0 : AtM S w ba ma f0) (h : LInv S w1 W ba ma f) (hb : w.heap.size ≤ b) (h1 : b < w1.heap.size) : W.heap[b]? = w1.heap[b]? := by
  obtain ⟨m, _, _, hT⟩ := h
  refine hT.block b h1 ?_
  rintro (e | e)
  · have := h0.map.lt; omega
  · have := (h0.block e).1; omega
theorem LInv.box {S : Nat → Prop} {w w1 W : World} {ba b : Nat} {ma : Int → Option Value} {f0 f : Int → List Int} {cs : Array Value} (h0 : AtM S w ba ma f0) (h : LInv S w1 W ba ma f) (hb : w.heap[b]? = some (.cells cs 72 (0, 0))) (h1 : w1.heap[b]? = some (.cells cs 72 (0, 0))) : W.heap[b]? = some (.cells cs 72 (0, 0)) := by
  obtain ⟨m, _, _, hT⟩ := h
  have := h0.other hb (by decide)
  exact (hT.block b (Array.getElem?_eq_some_iff.1 h1).1 fun e => e.elim this.1 this.2).trans h1
theorem LInv.below {S : Nat → Prop} {w1 W W' : World} {ba : Nat} {ma : Int → Option Value} {f : Int → List Int} (h : LInv S w1 W ba ma f) (g : Below W.heap.size W W') : LInv S w1 W' ba ma f := by
  obtain ⟨m, h1, h2, h3⟩ := h
  exact ⟨m, h1.below g, h2, h3.grow g⟩
theorem exec_extr {P : Program} {a : Act} {w : World} {o : Oper} {x : Operand} {k : Nat} {vs : Array Value} {v : Value} (ho : o.op = .extract x k) (hx : a.eval x = .tuple vs) (hv : vs[k]? = some v) : (execOp a.eval o).run P w = .ok (.value v) w := by
  unfold execOp; rw [ho]; simp only [hx]; simp [go_sem, hv]
theorem row_search {S : Nat → Prop} {W : World} {ba : Nat} {ma : Int → Option Value} {f : Int → List Int} (h : AtM S W ba ma f) (k x : Int) : Calls Tryz.prog 96 #[rowAt ma k, .int .i64 x] W.drew fun e w' => e = .returned (.tuple #[.int .i64 (((f k).countP (· < x) : Nat) : Int), .bool ((f k).contains x)]) ∧ Below W.heap.size W w' := by
  have h2 := (h.below (Below.refl _ W).drew).row k
  refine (search_any x h2.1 (h.rise k) (h.few k)).mono ?_
  rintro e w' ⟨rfl, q, rfl⟩
  exact ⟨rfl, below_trans (Below.refl _ W).drew (below_drewN _ q)⟩
theorem link_ins {S : Nat → Prop} {w1 W : World} {ba : Nat} {ma maj : Int → Option Value} {f : Int → List Int} {k x : Int} (hA : AtM S W ba maj f) (hsub : ∀ b, b < w1.heap.size → Rows maj b → Rows ma b) (hT : Touch (fun b => b = ba ∨ Rows ma b) w1 W) (hS : ∀ b, W.heap.size ≤ b → S b) (hc : (f k).contains x = false) (hf : (f k).length + 1 ≤ 1100000) :
    ∃ wC, (Instr.buildSlice 96 1 #[(0, .int .i64 x)]).run Tryz.prog W.drew = .ok (.slice (some ⟨W.heap.size, 0, none⟩) 1 1) wC ∧ Below W.heap.size W wC ∧
      Calls Tryz.prog 99 #[rowAt maj k, .int .i64 (((f k).countP (· < x) : Nat) : Int), .slice (some ⟨W.heap.size, 0, none⟩) 1 1] wC fun e W15 => ∃ v', e = .returned v' ∧ (∀ b, b < W.heap.size → ¬ Rows maj b → W15.heap[b]? = W.heap[b]?) ∧
        ∃ W16, (Instr.mapUpdate 70 (.map (some ba)) (.int .i64 k) v').run Tryz.prog W15 = .ok () W16 ∧ LInv S w1 W16 ba ma (linkK f k x) := by
  have hbs := run_buildSlice_one (P := Tryz.prog) (w := W.drew) (v := .int .i64 x) Tryz.underlying96 run_size_i64 Tryz.zeroValue2 rfl (by omega) (by omega)
  have hbl : Below W.heap.size W (W.drew.alloc (.cells (Value.int .i64 x).cells 2)) := (Below.refl _ W).drew.alloc (by simp) _
  have hnew : (W.drew.alloc (.cells (Value.int .i64 x).cells 2)).heap[W.heap.size]? = some (.cells #[.int .i64 x] 2 (0, 0)) := heap_alloc_new W.drew _
  have hsz : (W.drew.alloc (.cells (Value.int .i64 x).cells 2)).heap.size = W.heap.size + 1 := by simp
  refine ⟨_, hbs, hbl, ?_⟩
  have hAc := hA.below hbl
  have hrow := hAc.row k
  have hRW : ∀ b, (rowAt maj k).ownBlock = some b → Rows maj b := fun b hb => by
    unfold rowAt at hb
    cases e : maj k with
    | none => rw [e] at hb; simp [Value.ownBlock] at hb
    | some u => rw [e] at hb; exact ⟨k, u, e, hb⟩
  refine (insert_any (x := x) hrow.1 List.countP_le_length hnew (fun e => by have := (hA.block (hRW _ e)).1; omega) (hA.few k)).mono ?_
  rintro e W15 ⟨v', rfl, i1, i2, i3, i4⟩
  have hl : (f k).length + 1 = (insS x (f k)).length := by
    unfold insS
    rw [hc, if_neg (by simp)]
    unfold insAt
    rw [List.length_append, List.length_cons, List.length_drop, List.length_take]
    have : (f k).countP (· < x) ≤ (f k).length := List.countP_le_length
    omega
  have he : insAt ((f k).countP (· < x)) x (f k) = insS x (f k) := by unfold insS; rw [hc, if_neg (by simp)]
  rw [he, hl] at i1
  refine ⟨v', rfl, fun b hb hn => ?_, ?_⟩
  · rw [i2.block b (by omega) fun e => hn (hRW b e)]
    exact hbl.block b hb
  · obtain ⟨W16, m1, m2, m3, m4⟩ := hAc.set (P := Tryz.prog) (fun b hb => hS b (by omega)) Tryz.underlying70 Tryz.underlying2 i2 i1 (by
      rcases i3 with e | e
      · exact .inl e
      · exact .inr ⟨_, Nat.le_refl _, e⟩) (insS_rise (hA.rise k)) (by omega)
    have hTC : Touch (fun b => b = ba ∨ Rows ma b) w1 (W.drew.alloc (.cells (Value.int .i64 x).cells 2)) := hT.grow hbl
    refine ⟨W16, m1, _, m2, fun b hb hr => hsub b hb (m3 b (Nat.lt_of_lt_of_le hb hTC.size) hr), hTC.step m4 fun b hb e => ?_⟩
    rcases e with e | e
    · exact .inl e
    · exact .inr (hsub b hb e)
theorem link_any {S : Nat → Prop} {w : World} {B : GB} {ma : Int → Option Value} {f : Int → List Int} {s : GS} (hb : w.heap[B.gx]? = some (.cells (gBoxV B s) 72 (0, 0))) (h : AtM S w B.ba ma f) (hS : ∀ b, w.heap.size ≤ b → S b) (r : RelD) (p : Option Addr) (c : Nat) (hf : ∀ k, (f k).length + 3 ≤ 1100000) :
    Calls Tryz.prog 41 #[.pointer (some ⟨B.gx, 0, none⟩), .agg (relBox r p c)] w fun e w' => e = .returned (.tuple #[]) ∧ LInv S w w' B.ba ma (linkK (linkK f r.src r.id) r.dst r.id) := by
  obtain ⟨w1, hbs, hg1, hr1, hp1, hs1, hbc, hL1⟩ := link_start hb h r p c
  have hx8 := heap_alloc_new w (.cells (relBox r p c) 49)
  have p1 := cellOf (o := 1) hx8 rfl
  have p2 := cellOf (o := 2) hx8 rfl
  have HBS := Lib.hid hbs
  have HB0 := Lib.hid h
  have HBC := Lib.hid hbc
  have HG := Lib.hid hg1
  have HG0 := Lib.hid hb
  have HR := Lib.hid hr1
  have HP := Lib.hid hp1
  have HS1 := Lib.hid hs1
  have HS := Lib.hid hS
  have HL1 := Lib.hid hL1
  have HF := Lib.hid hf
  clear hbs hg1 hr1 hp1 hs1 hbc hL1 hb h hx8 hS hf
  go_enter Tryz.func41, Tryz.ntmps41
  go_wp2_with ((with_reducible apply op_bs2); exact HBS.out; exact rfl; exact rfl; clear HBS p1 p2)
  go_loopw [14] (fun i wr => ∃ j : Nat, j ≤ 2 ∧ i = .int .i64 (j : Int) ∧ Hid (LInv S w1 wr B.ba ma (linkJ f r j))) (fun i _ => 2 - (intOf i).toNat)
  case atStart => exact ⟨0, Nat.zero_le _, rfl, HL1⟩
  case round =>
    obtain ⟨j, hj, rfl, HJ⟩ := hrel
    by_cases hlt : j < 2
    · obtain ⟨maj, hA, hsub, hT⟩ := HJ.out
      obtain ⟨k, hk⟩ : ∃ k, [r.src, r.dst][j]? = some k := ⟨_, List.getElem?_eq_getElem (by simpa using hlt)⟩
      have hnx := linkJ_succ f r hk
      have hs1 := HS1.out
      have hgx : wr.heap[B.gx]? = some (.cells (gBoxV B s) 72 (0, 0)) := HJ.out.box HB0.out HG0.out HG.out
      have hrb : wr.heap[w.heap.size]? = some (.cells (relBox r p c) 49 (0, 0)) := (HJ.out.far HB0.out (Nat.le_refl _) (by omega)).trans HR.out
      have hpb : wr.heap[w.heap.size + 1]? = some (.cells #[.int .i64 r.src, .int .i64 r.dst] 2 (0, 0)) := (HJ.out.far HB0.out (by omega) (by omega)).trans HP.out
      have HC := Lib.hid (run_load1 (w := wr) (ad := ⟨w.heap.size + 1, j, none⟩) Tryz.underlying2 rfl (cellOf (o := j) hpb (by
        have : (#[Value.int .i64 r.src, .int .i64 r.dst] : Array Value)[j]? = ([r.src, r.dst][j]?).map (Value.int .i64) := by
          match j, hlt with
          | 0, _ => rfl
          | 1, _ => rfl
        rw [this, hk]; rfl)))
      have hsea := row_search hA k r.id
      have hfk : (linkJ f r j k).length + 1 ≤ 1100000 := by have := linkJ_len f r j k; have := HF.out k; omega
      have hSw : ∀ b, wr.heap.size ≤ b → S b := fun b hb => HS.out b (by have := hT.size; omega)
      have hgn := hA.other hgx (by decide)
      have hrn := hA.other hrb (by decide)
      have hlt1 := Nat.succ_le_of_lt hlt
      generalize hfj : linkJ f r j = fj at *
      obtain ⟨rv, hrv⟩ : ∃ rv, rv = rowAt maj k := ⟨_, rfl⟩
      obtain ⟨pp, hpp⟩ : ∃ pp, pp = (fj k).countP (· < r.id) := ⟨_, rfl⟩
      obtain ⟨bb, hbb⟩ : ∃ bb, bb = (fj k).contains r.id := ⟨_, rfl⟩
      rw [← hrv, ← hpp, ← hbb] at hsea
      have hlk : ∀ W : World, IntMap W B.ba maj → (Instr.lookup 70 (.map (some B.ba)) (.int .i64 k) false).run Tryz.prog W = .ok rv W := fun W hW => by rw [hrv]; exact look_row hW k
      have hS0 : wr.drew.heap[B.gx]? = some (.cells (gBoxV B s) 72 (0, 0)) ∧ wr.drew.heap[w.heap.size]? = some (.cells (relBox r p c) 49 (0, 0)) ∧ IntMap wr.drew B.ba maj := ⟨hgx, hrb, hA.map.of_heap rfl⟩
      have HX := Lib.hid (And.intro hA (And.intro hsub (And.intro hT (And.intro hnx (And.intro hgx (And.intro hrb (And.intro hsea (And.intro hfk (And.intro hSw (And.intro hgn (And.intro hrn (And.intro hlk (And.intro hS0 (And.intro hrv (And.intro hpp hbb)))))))))))))))
      clear hA hsub hT hnx hs1 hgx hrb hpb hsea hfk hSw hgn hrn hlk hS0 hrv hpp hbb hk hfj
      go_wp2_with ((with_reducible apply op_load); exact HC.out; exact rfl; clear HC)
      obtain ⟨hA, hsub, hT, hnx, hgx, hrb, hsea, hfk, hSw, hgn, hrn, hlk, hS0, hrv, hpp, hbb⟩ := HX.out
      refine plain_region_draws (fun W => W.heap[B.gx]? = some (.cells (gBoxV B s) 72 (0, 0)) ∧ W.heap[w.heap.size]? = some (.cells (relBox r p c) 49 (0, 0)) ∧ IntMap W B.ba maj) (by kernel_rfl) hS0 (fun hS => ?_)
      refine tk 0 19 (v := .pointer (some ⟨B.gx, 0, none⟩)) rfl rfl (fun W hW => exec_move rfl rfl) ?_
      simp only [Act.put, sA, sZ, sS]
      refine tk 1 20 (v := .pointer (some ⟨B.gx, 0, none⟩)) rfl rfl (fun W hW => rfl) ?_
      simp only [Act.put, sA, sZ, sS]
      refine tk 2 21 (v := .pointer (some ⟨B.gx, 2, none⟩)) rfl rfl (fun W hW => exec_fieldAddr rfl rfl (fa_graph 2 (by omega) _ W)) ?_
      simp only [Act.put, sA, sZ, sS]
      refine tk 3 22 (v := .map (some B.ba)) rfl rfl (fun W hW => exec_load rfl rfl (run_load1 (w := W) Tryz.underlying70 rfl (cellOf (o := 2) hW.1 rfl))) ?_
      simp only [Act.put, sA, sZ, sS]
      refine tk 4 23 (v := .int .i64 k) rfl rfl (fun W hW => exec_move rfl rfl) ?_
      simp only [Act.put, sA, sZ, sS]
      refine tk 5 24 (v := rv) rfl rfl (fun W hW => exec_lookup rfl rfl rfl (hlk W hW.2.2)) ?_
      simp only [Act.put, sA, sZ, sS]
      refine tk 6 25 (v := .pointer (some ⟨w.heap.size, 0, none⟩)) rfl rfl (fun W hW => exec_fieldAddr rfl rfl (fa_rel0 _ W)) ?_
      simp only [Act.put, sA, sZ, sS]
      refine tk 7 26 (v := .int .i64 r.id) rfl rfl (fun W hW => exec_load rfl rfl (run_load1 (w := W) Tryz.underlying2 rfl (cellOf (o := 0) hW.2.1 rfl))) ?_
      simp only [Act.put, sA, sZ, sS]
      refine onlyCall 8 27 rfl rfl (by kernel_rfl) rfl (exec_call [rv, .int .i64 r.id] rfl rfl Tryz.func96 (by kernel_rfl) (by kernel_rfl)) ?_
      refine hsea.mono ?_
      rintro e W8 ⟨rfl, hb8⟩
      have hS8 : W8.heap[B.gx]? = some (.cells (gBoxV B s) 72 (0, 0)) ∧ W8.heap[w.heap.size]? = some (.cells (relBox r p c) 49 (0, 0)) ∧ IntMap W8 B.ba maj := ⟨belowBlk hb8 (Array.getElem?_eq_some_iff.1 hgx).1 hgx, belowBlk hb8 (Array.getElem?_eq_some_iff.1 hrb).1 hrb, hA.map.grow hb8⟩
      refine ⟨_, rfl, .inr hS8, ?_⟩
      simp only [Act.put, sA, sZ, sS]
      refine tk 9 18 (v := .tuple #[.int .i64 (pp : Int), .bool bb]) rfl rfl (fun W hW => exec_move rfl rfl) ?_
      simp only [Act.put, sA, sZ, sS]
      refine tk 10 28 (v := .int .i64 (pp : Int)) rfl rfl (fun W hW => exec_extr rfl rfl rfl) ?_
      simp only [Act.put, sA, sZ, sS]
      refine tk 11 29 (v := .bool bb) rfl rfl (fun W hW => exec_extr rfl rfl rfl) ?_
      simp only [Act.put, sA, sZ, sS]
      refine tk 12 6 (v := .int .i64 (pp : Int)) rfl rfl (fun W hW => exec_assign rfl rfl) ?_
      simp only [Act.put, sA, sZ, sS]
      refine tk 13 7 (v := .bool bb) rfl rfl (fun W hW => exec_assign rfl rfl) ?_
      simp only [Act.put, sA, sZ, sS]
      refine done (by kernel_rfl) ?_ _
      have hA8 := hA.below hb8
      have hT8 := hT.grow hb8
      have hSw8 : ∀ b, W8.heap.size ≤ b → S b := fun b hb => hSw b (by have := hb8.size; omega)
      have hg8 : W8.heap[B.gx]? = some (.cells (gBoxV B s) 72 (0, 0)) := belowBlk hb8 (Array.getElem?_eq_some_iff.1 hgx).1 hgx
      have hr8 : W8.heap[w.heap.size]? = some (.cells (relBox r p c) 49 (0, 0)) := belowBlk hb8 (Array.getElem?_eq_some_iff.1 hrb).1 hrb
      cases bb with
      | true =>
        have HN := Lib.hid (show LInv S w1 W8 B.ba ma (linkJ f r (j + 1)) from by
          rw [hnx]
          unfold linkK insS
          rw [← hbb, if_pos rfl, setI_id]
          exact ⟨maj, hA8, hsub, hT8⟩)
        clear hA hsub hT hnx hgx hrb hsea hfk hSw hgn hrn hlk hS0 hrv hpp hbb hS HX HJ hA8 hT8 hSw8 hg8 hr8 hb8 hS8
        go_wp2
        go_roundw
        case rel => exact ⟨j + 1, hlt1, by go_num, HN⟩
        case measure => simp [intOf]; omega
      | false =>
        obtain ⟨wC, c1, c2, c3⟩ := link_ins hA8 hsub hT8 hSw8 hbb.symm hfk
        rw [← hrv, ← hpp] at c3
        have hS0 : W8.drew.heap[B.gx]? = some (.cells (gBoxV B s) 72 (0, 0)) ∧ W8.drew.heap[w.heap.size]? = some (.cells (relBox r p c) 49 (0, 0)) ∧ IntMap W8.drew B.ba maj := ⟨hg8, hr8, hA8.map.of_heap rfl⟩
        have hSC : wC.heap[B.gx]? = some (.cells (gBoxV B s) 72 (0, 0)) ∧ wC.heap[w.heap.size]? = some (.cells (relBox r p c) 49 (0, 0)) ∧ IntMap wC B.ba maj := ⟨belowBlk c2 (Array.getElem?_eq_some_iff.1 hg8).1 hg8, belowBlk c2 (Array.getElem?_eq_some_iff.1 hr8).1 hr8, hA8.map.grow c2⟩
        have HY := Lib.hid (And.intro hlk (And.intro hS0 (And.intro hSC (And.intro c1 (And.intro c3 (And.intro hnx (And.intro hA8 (And.intro hg8 (And.intro hr8 (And.intro hgn hrn))))))))))
        clear hA hsub hT hnx hgx hrb hsea hfk hSw hgn hrn hlk hS0 hrv hpp hbb hS HX HJ hA8 hT8 hSw8 hg8 hr8 hb8 hS8 hSC c1 c2 c3
        go_wp2
        obtain ⟨hlk, hS0, hSC, c1, c3, hnx, hA8, hg8, hr8, hgn, hrn⟩ := HY.out
        refine plain_region_draws (fun W => W.heap[B.gx]? = some (.cells (gBoxV B s) 72 (0, 0)) ∧ W.heap[w.heap.size]? = some (.cells (relBox r p c) 49 (0, 0)) ∧ IntMap W B.ba maj) (by kernel_rfl) hS0 (fun hS => ?_)
        refine tk 0 32 (v := .pointer (some ⟨B.gx, 0, none⟩)) rfl rfl (fun W hW => exec_move rfl rfl) ?_
        simp only [Act.put, sA, sZ, sS]
        refine tk 1 33 (v := .pointer (some ⟨B.gx, 0, none⟩)) rfl rfl (fun W hW => rfl) ?_
        simp only [Act.put, sA, sZ, sS]
        refine tk 2 34 (v := .pointer (some ⟨B.gx, 2, none⟩)) rfl rfl (fun W hW => exec_fieldAddr rfl rfl (fa_graph 2 (by omega) _ W)) ?_
        simp only [Act.put, sA, sZ, sS]
        refine tk 3 35 (v := .map (some B.ba)) rfl rfl (fun W hW => exec_load rfl rfl (run_load1 (w := W) Tryz.underlying70 rfl (cellOf (o := 2) hW.1 rfl))) ?_
        simp only [Act.put, sA, sZ, sS]
        refine tk 4 36 (v := .int .i64 k) rfl rfl (fun W hW => exec_move rfl rfl) ?_
        simp only [Act.put, sA, sZ, sS]
        refine tk 5 37 (v := .pointer (some ⟨B.gx, 0, none⟩)) rfl rfl (fun W hW => exec_move rfl rfl) ?_
        simp only [Act.put, sA, sZ, sS]
        refine tk 6 38 (v := .pointer (some ⟨B.gx, 0, none⟩)) rfl rfl (fun W hW => rfl) ?_
        simp only [Act.put, sA, sZ, sS]
        refine tk 7 39 (v := .pointer (some ⟨B.gx, 2, none⟩)) rfl rfl (fun W hW => exec_fieldAddr rfl rfl (fa_graph 2 (by omega) _ W)) ?_
        simp only [Act.put, sA, sZ, sS]
        refine tk 8 40 (v := .map (some B.ba)) rfl rfl (fun W hW => exec_load rfl rfl (run_load1 (w := W) Tryz.underlying70 rfl (cellOf (o := 2) hW.1 rfl))) ?_
        simp only [Act.put, sA, sZ, sS]
        refine tk 9 41 (v := .int .i64 k) rfl rfl (fun W hW => exec_move rfl rfl) ?_
        simp only [Act.put, sA, sZ, sS]
        refine tk 10 42 (v := rv) rfl rfl (fun W hW => exec_lookup rfl rfl rfl (hlk W hW.2.2)) ?_
        simp only [Act.put, sA, sZ, sS]
        refine tk 11 43 (v := .int .i64 (pp : Int)) rfl rfl (fun W hW => exec_move rfl rfl) ?_
        simp only [Act.put, sA, sZ, sS]
        refine tk 12 44 (v := .pointer (some ⟨w.heap.size, 0, none⟩)) rfl rfl (fun W hW => exec_fieldAddr rfl rfl (fa_rel0 _ W)) ?_
        simp only [Act.put, sA, sZ, sS]
        refine tk 13 45 (v := .int .i64 r.id) rfl rfl (fun W hW => exec_load rfl rfl (run_load1 (w := W) Tryz.underlying2 rfl (cellOf (o := 0) hW.2.1 rfl))) ?_
        simp only [Act.put, sA, sZ, sS]
        refine onlyRun 14 46 (v := .slice (some ⟨W8.heap.size, 0, none⟩) 1 1) rfl rfl (by kernel_rfl) rfl (exec_buildSlice1 rfl rfl c1) (.inr (by assumption)) ?_
        simp only [Act.put, sA, sZ, sS]
        refine onlyCall 15 47 rfl rfl (by kernel_rfl) rfl (exec_call [rv, .int .i64 (pp : Int), .slice (some ⟨W8.heap.size, 0, none⟩) 1 1] rfl rfl Tryz.func99 (by kernel_rfl) (by kernel_rfl)) ?_
        refine c3.mono ?_
        rintro e W15 ⟨v15, rfl, m0, W16, m1, m2⟩
        have hS15 : W15.heap[B.gx]? = some (.cells (gBoxV B s) 72 (0, 0)) ∧ W15.heap[w.heap.size]? = some (.cells (relBox r p c) 49 (0, 0)) ∧ IntMap W15 B.ba maj := ⟨(m0 _ (Array.getElem?_eq_some_iff.1 hg8).1 hgn.2).trans hg8, (m0 _ (Array.getElem?_eq_some_iff.1 hr8).1 hrn.2).trans hr8, hA8.map.of_heap (m0 _ hA8.map.lt hA8.ne)⟩
        refine ⟨_, rfl, .inr hS15, ?_⟩
        simp only [Act.put, sA, sZ, sS]
        refine onlySkip 16 rfl rfl (by kernel_rfl) rfl (exec_mapUpdate rfl rfl rfl rfl m1) (.inl (by kernel_rfl)) ?_
        refine done (by kernel_rfl) ?_ _
        rw [← hnx] at m2
        have HN := Lib.hid m2
        clear hlk hS0 hSC c1 c3 hnx hA8 hg8 hr8 hgn hrn hS HY m1 m2 m0 hS15
        go_wp2
        go_roundw
        case rel => exact ⟨j + 1, hlt1, by go_num, HN⟩
        case measure => simp [intOf]; omega
    · obtain rfl : j = 2 := by omega
      go_wp2
      go_end0
      obtain ⟨m, h1, h2, h3⟩ := HJ.out
      have hb := HBC.out
      exact ⟨rfl, m, h1, fun b hb2 hr => h2 b (Nat.lt_of_lt_of_le hb2 hb.size) hr, (Touch.of_below hb fun b h1 h2 => by omega).trans h3⟩
end Go.Proofs.YtihfnegakcghiaaGreatDoor
namespace Go.Proofs.YtihfnegakcghiaaGreatDoor
open Go.RowKit
theorem rel_id {w : World} {n : RelD} {cs : Array Value} (h : RRd w n cs) : cs[0]? = some (.int .i64 n.id) ∧ cs[1]? = some (.int .i64 n.src) ∧ cs[2]? = some (.int .i64 n.dst) := by
  obtain ⟨pp, cp, rfl, _⟩ := h; exact ⟨rfl, rfl, rfl⟩
def okAtR (g : GraphD) (r : RelD) : Bool := okR r && decide (r.id < g.nextRel) && hasN g r.src && hasN g r.dst
theorem okRs_eq (g : GraphD) : okRs g = (g.rels.all (okAtR g) && risesI (g.rels.map RelD.id)) := rfl
theorem okRs_no {g : GraphD} {j : Nat} (hj : j < g.rels.length) (h : okAtR g g.rels[j] = false) : okRs g = false := by
  rw [okRs_eq]
  have : g.rels.all (okAtR g) = false := by
    rw [List.all_eq_false]
    exact ⟨g.rels[j], List.getElem_mem hj, by simp [h]⟩
  rw [this, Bool.false_and]
theorem okRs_fall {g : GraphD} {k j : Nat} (hk : k + 1 = j) (hj : j < g.rels.length) (h : g.rels[j].id ≤ g.rels[k].id) : okRs g = false := by
  rw [okRs_eq]
  cases hr : risesI (g.rels.map RelD.id) with
  | false => rw [Bool.and_false]
  | true =>
    have := risesI_lt hr (a := k) (b := j) (by simpa using hj) (by omega)
    rw [List.getElem_map, List.getElem_map] at this
    omega
def RsInv (g : GraphD) (j : Nat) : Prop := (g.rels.take j).all (okAtR g) = true ∧ risesI ((g.rels.map RelD.id).take j) = true
theorem RsInv.zero (g : GraphD) : RsInv g 0 := ⟨by simp, by simp [risesI]⟩
theorem RsInv.one {g : GraphD} {j : Nat} (h0 : j = 0) (hj : j < g.rels.length) (h : okAtR g g.rels[j] = true) : RsInv g (j + 1) := by
  subst h0
  exact ⟨all_snoc hj (by simp) h, risesI_one _⟩
theorem RsInv.snoc {g : GraphD} {k j : Nat} (hk : k + 1 = j) (hj : j < g.rels.length) (hi : RsInv g j) (h : okAtR g g.rels[j] = true) (hlt : ¬ g.rels[j].id ≤ g.rels[k].id) : RsInv g (j + 1) := by
  subst hk
  refine ⟨all_snoc hj hi.1 h, ?_⟩
  rw [risesI_step (by simpa using hj), hi.2, Bool.true_and]
  simp only [List.getElem_map, decide_eq_true_eq]; omega
theorem RsInv.last {g : GraphD} (h : RsInv g g.rels.length) : okRs g = true := by
  rw [okRs_eq]
  have h1 := h.1
  have h2 := h.2
  rw [List.take_length] at h1
  rw [List.take_of_length_le (by simp)] at h2
  rw [h1, h2]; rfl
theorem grels_any {w : World} (hE : Env w) {g : GraphD} {x : Array Value} (h : GrRd w g x) (hri : risesI (g.nodes.map NodeD.id) = true) (ht : GOk g) : Calls Tryz.prog 78 #[.agg x] w fun e w' => e = .returned (.bool (okRs g)) ∧ Below w.heap.size w w' := by
  have hgr := h
  obtain ⟨pn, cn, pr, cr, rfl, hn, hrl⟩ := h
  have z1 : (g.rels.length : Int) ≤ 140737488355328 := by have := hrl.1.2.1; omega
  have htn : ∀ n ∈ g.rels, ROk n := ht.2.2.2
  have hb := below_new (w := w) (.cells #[.slice pn g.nodes.length cn, .slice pr g.rels.length cr, .int .i64 g.nextNode, .int .i64 g.nextRel] 25)
  have hg := heap_alloc_new w (.cells #[.slice pn g.nodes.length cn, .slice pr g.rels.length cr, .int .i64 g.nextNode, .int .i64 g.nextRel] 25)
  have hn1 := hrl.below (fun h => h.below hb) hb
  have hE1 := hE.b hb
  have hgr1 := hgr.below hb
  have hlt0 := Array.getElem?_eq_some_iff.1 hg |>.1
  have H := Lib.hid (And.intro hn1 (And.intro hE1 (And.intro hg (And.intro hgr1 hlt0))))
  have HB0 := Lib.hid hb
  have HRI := Lib.hid hri
  clear hri
  have HT := Lib.hid htn
  clear hn hrl hb hg hn1 hE1 hE ht htn hgr hgr1 hlt0
  go_enter Tryz.func78, Tryz.ntmps78
  go_wp2
  generalize w.alloc (.cells #[.slice pn g.nodes.length cn, .slice pr g.rels.length cr, .int .i64 g.nextNode, .int .i64 g.nextRel] 25) = w1 at *
  go_loopw [8] (fun i W => ∃ j : Nat, j ≤ g.rels.length ∧ i = .int .i64 (j : Int) ∧ Hid (RsInv g j ∧ Below w1.heap.size w1 W)) (fun i _ => g.rels.length - (intOf i).toNat)
  case atStart => exact ⟨0, Nat.zero_le _, rfl, Lib.hid ⟨RsInv.zero g, Below.refl _ _⟩⟩
  case round =>
    obtain ⟨j, hj, rfl, HI⟩ := hrel
    by_cases hlt : j < g.rels.length
    · have hlt1 : j + 1 ≤ g.rels.length := hlt
      obtain ⟨hn1, hE1, hg, hgr1, hlt0⟩ := H.out
      have hnr := hn1.below (fun h => h.below HI.out.2) HI.out.2
      obtain ⟨b, of, cs, rfl, hs, hc, hv⟩ := hnr.get hlt
      have hones := ef_rel.ones hv
      have hnof : okAtR g g.rels[j] = false → okRs g = false := okRs_no hlt
      have hfaf : ∀ k, k + 1 = j → ∀ hk : k < g.rels.length, g.rels[j].id ≤ g.rels[k].id → okRs g = false := fun k hk _ h => okRs_fall hk hlt h
      have honf : j = 0 → okAtR g g.rels[j] = true → RsInv g (j + 1) := fun h0 h => RsInv.one h0 hlt h
      have hsnf : ∀ k, k + 1 = j → ∀ hk : k < g.rels.length, okAtR g g.rels[j] = true → ¬ g.rels[j].id ≤ g.rels[k].id → RsInv g (j + 1) := fun k hk _ h h' => RsInv.snoc hk hlt HI.out.1 h h'
      have hoaf : okAtR g g.rels[j] = (okR g.rels[j] && !decide (g.nextRel ≤ g.rels[j].id) && hasN g g.rels[j].src && hasN g g.rels[j].dst) := by rw [← dec_lt]; rfl
      have htot : ROk g.rels[j] := HT.out _ (List.getElem_mem hlt)
      generalize g.rels[j] = nj at *
      have hbn := below_new (w := wr) (.cells cs 49)
      have hb2 := below_trans HI.out.2 hbn
      have hB := heap_alloc_new wr (.cells cs 49)
      have HL1 := Lib.hid (st_rel.load hs hc)
      have HS := Lib.hid (st_rel.fresh hs hones (W := wr))
      have hl4 : ∀ W, Below (wr.alloc (.cells cs 49)).heap.size (wr.alloc (.cells cs 49)) W → (loadVar 49 ⟨wr.heap.size, 0, none⟩).run Tryz.prog W = .ok (.agg cs) W := fun W q => st_rel.get hs (belowBlk q (Array.getElem?_eq_some_iff.1 hB).1 hB)
      have hidl : ∀ W, Below (wr.alloc (.cells cs 49)).heap.size (wr.alloc (.cells cs 49)) W → (loadVar 2 ⟨wr.heap.size, 0, none⟩).run Tryz.prog W = .ok (.int .i64 nj.id) W := fun W q => ld_cell Tryz.underlying2 rfl q hB (rel_id hv).1
      have hnx : ∀ W, Below (wr.alloc (.cells cs 49)).heap.size (wr.alloc (.cells cs 49)) W → (loadVar 2 ⟨w.heap.size, 3, none⟩).run Tryz.prog W = .ok (.int .i64 g.nextRel) W := fun W q => ld_cell Tryz.underlying2 rfl (below_trans hb2 q) hg rfl
      have hls : ∀ W, Below (wr.alloc (.cells cs 49)).heap.size (wr.alloc (.cells cs 49)) W → (loadVar 23 ⟨w.heap.size, 1, none⟩).run Tryz.prog W = .ok (.slice (some ⟨b, of, none⟩) g.rels.length cr) W := fun W q => ld_cell Tryz.underlying23 rfl (below_trans hb2 q) hg rfl
      have hia : ∀ W' : World, (Instr.indexAt 23 (.slice (some ⟨b, of, none⟩) g.rels.length cr) (.int .i64 (j : Int))).run Tryz.prog W' = .ok (.pointer (some ⟨b, of + j * 5, none⟩)) W' := by intro W'; simp [go_sem, hlt]
      have hf0 : ∀ W' : World, (Instr.fieldAt 49 (.pointer (some ⟨wr.heap.size, 0, none⟩)) 0).run Tryz.prog W' = .ok (.pointer (some ⟨wr.heap.size, 0, none⟩)) W' := by intro W'; simp [go_sem]
      have hfn : ∀ W' : World, (Instr.fieldAt 25 (.pointer (some ⟨w.heap.size, 0, none⟩)) 3).run Tryz.prog W' = .ok (.pointer (some ⟨w.heap.size, 3, none⟩)) W' := by intro W'; simp [go_sem]
      have hfl : ∀ W' : World, (Instr.fieldAt 25 (.pointer (some ⟨w.heap.size, 0, none⟩)) 1).run Tryz.prog W' = .ok (.pointer (some ⟨w.heap.size, 1, none⟩)) W' := by intro W'; simp [go_sem]
      have hge : ∀ bb, decide (g.nextRel ≤ nj.id) = bb → ∀ W' : World, (binOp .geq 2 (.int .i64 nj.id) (.int .i64 g.nextRel)).run Tryz.prog W' = .ok (.bool bb) W' := by intro bb hbb W'; subst hbb; simp [go_sem]
      have hgt : ∀ bb, decide (0 < j) = bb → ∀ W' : World, (binOp .gtr 3 (.int .i64 (j : Int)) (.int .i64 0)).run Tryz.prog W' = .ok (.bool bb) W' := by intro bb hbb W'; subst hbb; simp [go_sem]
      have hokc : ∀ bb, okR nj = bb → ∀ W', Below (wr.alloc (.cells cs 49)).heap.size (wr.alloc (.cells cs 49)) W' → Calls Tryz.prog 129 #[.agg cs] W' fun e w' => e = .returned (.bool bb) ∧ Below W'.heap.size W' w' := fun bb hbb W' q => hbb ▸ grel_any (hE1.b (below_trans hb2 q)) (hv.below (below_trans hbn q)) htot
      have hgl : ∀ W, Below (wr.alloc (.cells cs 49)).heap.size (wr.alloc (.cells cs 49)) W → (loadVar 25 ⟨w.heap.size, 0, none⟩).run Tryz.prog W = .ok (.agg #[.slice pn g.nodes.length cn, .slice (some ⟨b, of, none⟩) g.rels.length cr, .int .i64 g.nextNode, .int .i64 g.nextRel]) W := fun W q => st_graph.get rfl (belowBlk (below_trans hb2 q) hlt0 hg)
      have hf1 : ∀ W' : World, (Instr.fieldAt 49 (.pointer (some ⟨wr.heap.size, 0, none⟩)) 1).run Tryz.prog W' = .ok (.pointer (some ⟨wr.heap.size, 1, none⟩)) W' := by intro W'; simp [go_sem]
      have hf2 : ∀ W' : World, (Instr.fieldAt 49 (.pointer (some ⟨wr.heap.size, 0, none⟩)) 2).run Tryz.prog W' = .ok (.pointer (some ⟨wr.heap.size, 2, none⟩)) W' := by intro W'; simp [go_sem]
      have hsl : ∀ W, Below (wr.alloc (.cells cs 49)).heap.size (wr.alloc (.cells cs 49)) W → (loadVar 2 ⟨wr.heap.size, 1, none⟩).run Tryz.prog W = .ok (.int .i64 nj.src) W := fun W q => ld_cell Tryz.underlying2 rfl q hB (rel_id hv).2.1
      have hdl : ∀ W, Below (wr.alloc (.cells cs 49)).heap.size (wr.alloc (.cells cs 49)) W → (loadVar 2 ⟨wr.heap.size, 2, none⟩).run Tryz.prog W = .ok (.int .i64 nj.dst) W := fun W q => ld_cell Tryz.underlying2 rfl q hB (rel_id hv).2.2
      have hhs : ∀ bb, hasN g nj.src = bb → ∀ W', Below (wr.alloc (.cells cs 49)).heap.size (wr.alloc (.cells cs 49)) W' → Calls Tryz.prog 130 #[.agg #[.slice pn g.nodes.length cn, .slice (some ⟨b, of, none⟩) g.rels.length cr, .int .i64 g.nextNode, .int .i64 g.nextRel], .int .i64 nj.src] W' fun e w' => e = .returned (.bool bb) ∧ Below W'.heap.size W' w' := fun bb hbb W' q => hbb ▸ has_any (hgr1.below (below_trans hb2 q)) HRI.out _
      have hhd : ∀ bb, hasN g nj.dst = bb → ∀ W', Below (wr.alloc (.cells cs 49)).heap.size (wr.alloc (.cells cs 49)) W' → Calls Tryz.prog 130 #[.agg #[.slice pn g.nodes.length cn, .slice (some ⟨b, of, none⟩) g.rels.length cr, .int .i64 g.nextNode, .int .i64 g.nextRel], .int .i64 nj.dst] W' fun e w' => e = .returned (.bool bb) ∧ Below W'.heap.size W' w' := fun bb hbb W' q => hbb ▸ has_any (hgr1.below (below_trans hb2 q)) HRI.out _
      have HY := Lib.hid (And.intro hgl (And.intro hf1 (And.intro hf2 (And.intro hsl hdl))))
      have HHS0 := Lib.hid hhs
      have HHD0 := Lib.hid hhd
      clear hgl hf1 hf2 hsl hdl hhs hhd
      have hkp : ∀ k, k + 1 = j → ∀ hk : k < g.rels.length, (∀ W' : World, (binOp .sub 3 (.int .i64 (j : Int)) (.int .i64 1)).run Tryz.prog W' = .ok (.int .i64 (k : Int)) W') ∧ (∀ W' : World, (Instr.indexAt 23 (.slice (some ⟨b, of, none⟩) g.rels.length cr) (.int .i64 (k : Int))).run Tryz.prog W' = .ok (.pointer (some ⟨b, of + k * 5, none⟩)) W') ∧
          (∀ W' : World, (Instr.fieldAt 49 (.pointer (some ⟨b, of + k * 5, none⟩)) 0).run Tryz.prog W' = .ok (.pointer (some ⟨b, of + k * 5, none⟩)) W') ∧ (∀ W, Below (wr.alloc (.cells cs 49)).heap.size (wr.alloc (.cells cs 49)) W → (loadVar 2 ⟨b, of + k * 5, none⟩).run Tryz.prog W = .ok (.int .i64 g.rels[k].id) W) ∧
          (∀ bb, decide (nj.id ≤ g.rels[k].id) = bb → ∀ W' : World, (binOp .geq 2 (.int .i64 g.rels[k].id) (.int .i64 nj.id)).run Tryz.prog W' = .ok (.bool bb) W') := by
        intro k hk hkl
        obtain ⟨b', of', cs', e', hs', hc', hv'⟩ := hnr.get hkl
        cases e'
        refine ⟨fun W' => ?_, fun W' => by simp [go_sem, hkl], fun W' => by simp [go_sem], fun W q => ?_, fun bb hbb W' => by subst hbb; simp [go_sem]⟩
        · rw [← hk]
          exact_mod_cast sub_one (j := k) (by omega) W'
        · have hc0 := hc' 0 _ (rel_id hv').1
          exact run_load1 Tryz.underlying2 rfl (belowCell (below_trans hbn q) (ltOf hc0) hc0)
      have HX := Lib.hid (And.intro hl4 (And.intro hidl (And.intro hnx (And.intro hls (And.intro hf0 (And.intro hfn hfl))))))
      have HKP := Lib.hid hkp
      have HBN := Lib.hid (below_trans HB0.out hb2)
      have HSB := Lib.hid ((Below.refl (wr.alloc (.cells cs 49)).heap.size (wr.alloc (.cells cs 49))).drew)
      have HGE0 := Lib.hid hge
      have HGT0 := Lib.hid hgt
      have HOK0 := Lib.hid hokc
      have HLW := Lib.hid (And.intro hnof (And.intro hfaf (And.intro honf (And.intro hsnf hoaf))))
      clear hl4 hidl hnx hls hf0 hfn hfl hge hgt hokc hkp htot hnof hfaf honf hsnf hoaf hb2 hB hones hs hc hv hbn hnr hn1 hE1 hg hgr1 hlt0
      go_wp2_with (first
        | ((with_reducible apply op_load); exact HL1.out; exact rfl)
        | ((with_reducible apply op_store); exact HS.out _ rfl; exact rfl; exact rfl))
      obtain ⟨hl4, hidl, hnx, hls, hf0, hfn, hfl⟩ := HX.out
      obtain ⟨hgl, hf1, hf2, hsl, hdl⟩ := HY.out
      have hS0 := HSB.out
      refine plain_region_draws (fun W => Below (wr.alloc (.cells cs 49)).heap.size (wr.alloc (.cells cs 49)) W) (by kernel_rfl) hS0 (fun hS => ?_)
      refine tk 0 13 (v := .agg cs) rfl rfl (fun W hW => exec_load rfl rfl (hl4 W hW)) ?_
      simp only [Act.put, sA, sZ, sS]
      cases hok : okR nj with
      | false =>
        have HOKC := Lib.hid (HOK0.out _ hok)
        refine onlyCall 1 14 rfl rfl (by kernel_rfl) rfl (exec_call [.agg cs] rfl rfl Tryz.func129 (by kernel_rfl) (by kernel_rfl)) ?_
        refine (HOKC.out _ hS).mono ?_
        rintro e w1 ⟨rfl, hb1⟩
        have hS1 := below_trans hS hb1
        refine ⟨_, rfl, .inr hS1, ?_⟩
        simp only [Act.put, sA, sZ, sS]
        refine tk 2 15 (v := .bool true) rfl rfl (fun W hW => exec_unot (b := false) rfl rfl) ?_
        simp only [Act.put, sA, sZ, sS]
        refine tk 3 16 (v := .bool true) rfl rfl (fun W hW => exec_move rfl rfl) ?_
        simp only [Act.put, sA, sZ, sS]
        refine tn 4 17 rfl rfl ?_
        simp only [Act.put, sA, sZ, sS]
        refine tn 5 18 rfl rfl ?_
        simp only [Act.put, sA, sZ, sS]
        refine tn 6 19 rfl rfl ?_
        simp only [Act.put, sA, sZ, sS]
        refine tn 7 20 rfl rfl ?_
        simp only [Act.put, sA, sZ, sS]
        refine tn 8 21 rfl rfl ?_
        simp only [Act.put, sA, sZ, sS]
        refine tk 9 22 (v := .bool true) rfl rfl (fun W hW => rfl) ?_
        simp only [Act.put, sA, sZ, sS]
        refine tk 10 23 (v := .bool true) rfl rfl (fun W hW => exec_move rfl rfl) ?_
        simp only [Act.put, sA, sZ, sS]
        refine tn 11 24 rfl rfl ?_
        simp only [Act.put, sA, sZ, sS]
        refine tn 12 25 rfl rfl ?_
        simp only [Act.put, sA, sZ, sS]
        refine tn 13 26 rfl rfl ?_
        simp only [Act.put, sA, sZ, sS]
        refine tn 14 27 rfl rfl ?_
        simp only [Act.put, sA, sZ, sS]
        refine tn 15 28 rfl rfl ?_
        simp only [Act.put, sA, sZ, sS]
        refine tn 16 29 rfl rfl ?_
        simp only [Act.put, sA, sZ, sS]
        refine tn 17 30 rfl rfl ?_
        simp only [Act.put, sA, sZ, sS]
        refine tn 18 31 rfl rfl ?_
        simp only [Act.put, sA, sZ, sS]
        refine tn 19 32 rfl rfl ?_
        simp only [Act.put, sA, sZ, sS]
        refine tn 20 33 rfl rfl ?_
        simp only [Act.put, sA, sZ, sS]
        refine tn 21 34 rfl rfl ?_
        simp only [Act.put, sA, sZ, sS]
        refine tn 22 35 rfl rfl ?_
        simp only [Act.put, sA, sZ, sS]
        refine tn 23 36 rfl rfl ?_
        simp only [Act.put, sA, sZ, sS]
        refine tn 24 37 rfl rfl ?_
        simp only [Act.put, sA, sZ, sS]
        refine tk 25 38 (v := .bool true) rfl rfl (fun W hW => rfl) ?_
        simp only [Act.put, sA, sZ, sS]
        refine tk 26 39 (v := .bool true) rfl rfl (fun W hW => exec_move rfl rfl) ?_
        simp only [Act.put, sA, sZ, sS]
        refine tn 27 40 rfl rfl ?_
        simp only [Act.put, sA, sZ, sS]
        refine tn 28 41 rfl rfl ?_
        simp only [Act.put, sA, sZ, sS]
        refine tn 29 42 rfl rfl ?_
        simp only [Act.put, sA, sZ, sS]
        refine onlyNot 30 43 rfl rfl (by kernel_rfl) rfl ?_ (.inr (by assumption))
        simp only [Act.put, sA, sZ, sS]
        refine tn 31 44 rfl rfl ?_
        simp only [Act.put, sA, sZ, sS]
        refine tk 32 45 (v := .bool true) rfl rfl (fun W hW => rfl) ?_
        simp only [Act.put, sA, sZ, sS]
        refine tk 33 46 (v := .bool true) rfl rfl (fun W hW => exec_move rfl rfl) ?_
        simp only [Act.put, sA, sZ, sS]
        refine tn 34 47 rfl rfl ?_
        simp only [Act.put, sA, sZ, sS]
        refine tn 35 48 rfl rfl ?_
        simp only [Act.put, sA, sZ, sS]
        refine tn 36 49 rfl rfl ?_
        simp only [Act.put, sA, sZ, sS]
        refine onlyNot 37 50 rfl rfl (by kernel_rfl) rfl ?_ (.inr (by assumption))
        simp only [Act.put, sA, sZ, sS]
        refine tn 38 51 rfl rfl ?_
        simp only [Act.put, sA, sZ, sS]
        refine tk 39 52 (v := .bool true) rfl rfl (fun W hW => rfl) ?_
        simp only [Act.put, sA, sZ, sS]
        refine done (by kernel_rfl) ?_ _
        obtain ⟨hnof, hfaf, honf, hsnf, hoaf⟩ := HLW.out
        have HFIN := Lib.hid (hnof (by rw [hoaf, hok]; rfl))
        have HBF := Lib.hid (below_trans HBN.out hS1)
        clear hnof hfaf honf hsnf hoaf hl4 hidl hnx hls hf0 hfn hfl hS0 hS hS1 hgl hf1 hf2 hsl hdl hb1 hok
        go_wp2
        go_ret
        exact ⟨by rw [HFIN.out]; rfl, HBF.out⟩
      | true =>
        have HOKC := Lib.hid (HOK0.out _ hok)
        refine onlyCall 1 14 rfl rfl (by kernel_rfl) rfl (exec_call [.agg cs] rfl rfl Tryz.func129 (by kernel_rfl) (by kernel_rfl)) ?_
        refine (HOKC.out _ hS).mono ?_
        rintro e w1 ⟨rfl, hb1⟩
        have hS1 := below_trans hS hb1
        refine ⟨_, rfl, .inr hS1, ?_⟩
        simp only [Act.put, sA, sZ, sS]
        refine tk 2 15 (v := .bool false) rfl rfl (fun W hW => exec_unot (b := true) rfl rfl) ?_
        simp only [Act.put, sA, sZ, sS]
        refine tk 3 16 (v := .bool false) rfl rfl (fun W hW => exec_move rfl rfl) ?_
        simp only [Act.put, sA, sZ, sS]
        refine tk 4 17 (v := .pointer (some ⟨wr.heap.size, 0, none⟩)) rfl rfl (fun W hW => exec_fieldAddr rfl rfl (hf0 W)) ?_
        simp only [Act.put, sA, sZ, sS]
        refine tk 5 18 (v := .int .i64 nj.id) rfl rfl (fun W hW => exec_load rfl rfl (hidl W hW)) ?_
        simp only [Act.put, sA, sZ, sS]
        refine tk 6 19 (v := .pointer (some ⟨w.heap.size, 3, none⟩)) rfl rfl (fun W hW => exec_fieldAddr rfl rfl (hfn W)) ?_
        simp only [Act.put, sA, sZ, sS]
        refine tk 7 20 (v := .int .i64 g.nextRel) rfl rfl (fun W hW => exec_load rfl rfl (hnx W hW)) ?_
        simp only [Act.put, sA, sZ, sS]
        cases hnxd : decide (g.nextRel ≤ nj.id) with
        | false =>
          have HGE := Lib.hid (HGE0.out _ hnxd)
          refine tk 8 21 (v := .bool false) rfl rfl (fun W hW => exec_bini rfl rfl rfl (HGE.out W)) ?_
          simp only [Act.put, sA, sZ, sS]
          refine tk 9 22 (v := .bool false) rfl rfl (fun W hW => rfl) ?_
          simp only [Act.put, sA, sZ, sS]
          refine tk 10 23 (v := .bool false) rfl rfl (fun W hW => exec_move rfl rfl) ?_
          simp only [Act.put, sA, sZ, sS]
          refine tk 11 24 (v := .int .i64 (j : Int)) rfl rfl (fun W hW => exec_move rfl rfl) ?_
          simp only [Act.put, sA, sZ, sS]
          cases hj0 : decide (0 < j) with
          | false =>
            have HGT := Lib.hid (HGT0.out _ hj0)
            refine tk 12 25 (v := .bool false) rfl rfl (fun W hW => exec_bini rfl rfl rfl (HGT.out W)) ?_
            simp only [Act.put, sA, sZ, sS]
            refine tk 13 26 (v := .bool false) rfl rfl (fun W hW => exec_move rfl rfl) ?_
            simp only [Act.put, sA, sZ, sS]
            refine tn 14 27 rfl rfl ?_
            simp only [Act.put, sA, sZ, sS]
            refine tn 15 28 rfl rfl ?_
            simp only [Act.put, sA, sZ, sS]
            refine tn 16 29 rfl rfl ?_
            simp only [Act.put, sA, sZ, sS]
            refine tn 17 30 rfl rfl ?_
            simp only [Act.put, sA, sZ, sS]
            refine tn 18 31 rfl rfl ?_
            simp only [Act.put, sA, sZ, sS]
            refine tn 19 32 rfl rfl ?_
            simp only [Act.put, sA, sZ, sS]
            refine tn 20 33 rfl rfl ?_
            simp only [Act.put, sA, sZ, sS]
            refine tn 21 34 rfl rfl ?_
            simp only [Act.put, sA, sZ, sS]
            refine tn 22 35 rfl rfl ?_
            simp only [Act.put, sA, sZ, sS]
            refine tn 23 36 rfl rfl ?_
            simp only [Act.put, sA, sZ, sS]
            refine tk 24 37 (v := .bool false) rfl rfl (fun W hW => rfl) ?_
            simp only [Act.put, sA, sZ, sS]
            refine tk 25 38 (v := .bool false) rfl rfl (fun W hW => rfl) ?_
            simp only [Act.put, sA, sZ, sS]
            refine tk 26 39 (v := .bool false) rfl rfl (fun W hW => exec_move rfl rfl) ?_
            simp only [Act.put, sA, sZ, sS]
            refine tk 27 40 (v := .agg #[.slice pn g.nodes.length cn, .slice (some ⟨b, of, none⟩) g.rels.length cr, .int .i64 g.nextNode, .int .i64 g.nextRel]) rfl rfl (fun W hW => exec_load rfl rfl (hgl W hW)) ?_
            simp only [Act.put, sA, sZ, sS]
            refine tk 28 41 (v := .pointer (some ⟨wr.heap.size, 1, none⟩)) rfl rfl (fun W hW => exec_fieldAddr rfl rfl (hf1 W)) ?_
            simp only [Act.put, sA, sZ, sS]
            refine tk 29 42 (v := .int .i64 nj.src) rfl rfl (fun W hW => exec_load rfl rfl (hsl W hW)) ?_
            simp only [Act.put, sA, sZ, sS]
            cases hsr : hasN g nj.src with
            | false =>
              have HHS := Lib.hid (HHS0.out _ hsr)
              refine onlyCall 30 43 rfl rfl (by kernel_rfl) rfl (exec_call [.agg #[.slice pn g.nodes.length cn, .slice (some ⟨b, of, none⟩) g.rels.length cr, .int .i64 g.nextNode, .int .i64 g.nextRel], .int .i64 nj.src] rfl rfl Tryz.func130 (by kernel_rfl) (by kernel_rfl)) ?_
              refine (HHS.out _ hS1).mono ?_
              rintro e w30 ⟨rfl, hb30⟩
              have hS30 := below_trans hS1 hb30
              refine ⟨_, rfl, .inr hS30, ?_⟩
              simp only [Act.put, sA, sZ, sS]
              refine tk 31 44 (v := .bool true) rfl rfl (fun W hW => exec_unot (b := false) rfl rfl) ?_
              simp only [Act.put, sA, sZ, sS]
              refine tk 32 45 (v := .bool true) rfl rfl (fun W hW => rfl) ?_
              simp only [Act.put, sA, sZ, sS]
              refine tk 33 46 (v := .bool true) rfl rfl (fun W hW => exec_move rfl rfl) ?_
              simp only [Act.put, sA, sZ, sS]
              refine tn 34 47 rfl rfl ?_
              simp only [Act.put, sA, sZ, sS]
              refine tn 35 48 rfl rfl ?_
              simp only [Act.put, sA, sZ, sS]
              refine tn 36 49 rfl rfl ?_
              simp only [Act.put, sA, sZ, sS]
              refine onlyNot 37 50 rfl rfl (by kernel_rfl) rfl ?_ (.inr (by assumption))
              simp only [Act.put, sA, sZ, sS]
              refine tn 38 51 rfl rfl ?_
              simp only [Act.put, sA, sZ, sS]
              refine tk 39 52 (v := .bool true) rfl rfl (fun W hW => rfl) ?_
              simp only [Act.put, sA, sZ, sS]
              refine done (by kernel_rfl) ?_ _
              obtain ⟨hnof, hfaf, honf, hsnf, hoaf⟩ := HLW.out
              have HFIN := Lib.hid (hnof (by rw [hoaf, hok, hnxd, hsr]; rfl))
              have HBF := Lib.hid (below_trans HBN.out hS30)
              clear hnof hfaf honf hsnf hoaf hl4 hidl hnx hls hf0 hfn hfl hS0 hS hS1 hS30 hgl hf1 hf2 hsl hdl hb1 hb30 hok hnxd hsr hj0
              go_wp2
              go_ret
              exact ⟨by rw [HFIN.out]; rfl, HBF.out⟩
            | true =>
              have HHS := Lib.hid (HHS0.out _ hsr)
              refine onlyCall 30 43 rfl rfl (by kernel_rfl) rfl (exec_call [.agg #[.slice pn g.nodes.length cn, .slice (some ⟨b, of, none⟩) g.rels.length cr, .int .i64 g.nextNode, .int .i64 g.nextRel], .int .i64 nj.src] rfl rfl Tryz.func130 (by kernel_rfl) (by kernel_rfl)) ?_
              refine (HHS.out _ hS1).mono ?_
              rintro e w30 ⟨rfl, hb30⟩
              have hS30 := below_trans hS1 hb30
              refine ⟨_, rfl, .inr hS30, ?_⟩
              simp only [Act.put, sA, sZ, sS]
              refine tk 31 44 (v := .bool false) rfl rfl (fun W hW => exec_unot (b := true) rfl rfl) ?_
              simp only [Act.put, sA, sZ, sS]
              refine tk 32 45 (v := .bool false) rfl rfl (fun W hW => rfl) ?_
              simp only [Act.put, sA, sZ, sS]
              refine tk 33 46 (v := .bool false) rfl rfl (fun W hW => exec_move rfl rfl) ?_
              simp only [Act.put, sA, sZ, sS]
              refine tk 34 47 (v := .agg #[.slice pn g.nodes.length cn, .slice (some ⟨b, of, none⟩) g.rels.length cr, .int .i64 g.nextNode, .int .i64 g.nextRel]) rfl rfl (fun W hW => exec_load rfl rfl (hgl W hW)) ?_
              simp only [Act.put, sA, sZ, sS]
              refine tk 35 48 (v := .pointer (some ⟨wr.heap.size, 2, none⟩)) rfl rfl (fun W hW => exec_fieldAddr rfl rfl (hf2 W)) ?_
              simp only [Act.put, sA, sZ, sS]
              refine tk 36 49 (v := .int .i64 nj.dst) rfl rfl (fun W hW => exec_load rfl rfl (hdl W hW)) ?_
              simp only [Act.put, sA, sZ, sS]
              cases hds : hasN g nj.dst with
              | false =>
                have HHD := Lib.hid (HHD0.out _ hds)
                refine onlyCall 37 50 rfl rfl (by kernel_rfl) rfl (exec_call [.agg #[.slice pn g.nodes.length cn, .slice (some ⟨b, of, none⟩) g.rels.length cr, .int .i64 g.nextNode, .int .i64 g.nextRel], .int .i64 nj.dst] rfl rfl Tryz.func130 (by kernel_rfl) (by kernel_rfl)) ?_
                refine (HHD.out _ hS30).mono ?_
                rintro e w37 ⟨rfl, hb37⟩
                have hS37 := below_trans hS30 hb37
                refine ⟨_, rfl, .inr hS37, ?_⟩
                simp only [Act.put, sA, sZ, sS]
                refine tk 38 51 (v := .bool true) rfl rfl (fun W hW => exec_unot (b := false) rfl rfl) ?_
                simp only [Act.put, sA, sZ, sS]
                refine tk 39 52 (v := .bool true) rfl rfl (fun W hW => rfl) ?_
                simp only [Act.put, sA, sZ, sS]
                refine done (by kernel_rfl) ?_ _
                obtain ⟨hnof, hfaf, honf, hsnf, hoaf⟩ := HLW.out
                have HFIN := Lib.hid (hnof (by rw [hoaf, hok, hnxd, hsr, hds]; rfl))
                have HBF := Lib.hid (below_trans HBN.out hS37)
                clear hnof hfaf honf hsnf hoaf hl4 hidl hnx hls hf0 hfn hfl hS0 hS hS1 hS30 hS37 hgl hf1 hf2 hsl hdl hb1 hb30 hb37 hok hnxd hsr hds hj0
                go_wp2
                go_ret
                exact ⟨by rw [HFIN.out]; rfl, HBF.out⟩
              | true =>
                have HHD := Lib.hid (HHD0.out _ hds)
                refine onlyCall 37 50 rfl rfl (by kernel_rfl) rfl (exec_call [.agg #[.slice pn g.nodes.length cn, .slice (some ⟨b, of, none⟩) g.rels.length cr, .int .i64 g.nextNode, .int .i64 g.nextRel], .int .i64 nj.dst] rfl rfl Tryz.func130 (by kernel_rfl) (by kernel_rfl)) ?_
                refine (HHD.out _ hS30).mono ?_
                rintro e w37 ⟨rfl, hb37⟩
                have hS37 := below_trans hS30 hb37
                refine ⟨_, rfl, .inr hS37, ?_⟩
                simp only [Act.put, sA, sZ, sS]
                refine tk 38 51 (v := .bool false) rfl rfl (fun W hW => exec_unot (b := true) rfl rfl) ?_
                simp only [Act.put, sA, sZ, sS]
                refine tk 39 52 (v := .bool false) rfl rfl (fun W hW => rfl) ?_
                simp only [Act.put, sA, sZ, sS]
                refine done (by kernel_rfl) ?_ _
                obtain ⟨hnof, hfaf, honf, hsnf, hoaf⟩ := HLW.out
                have HFIN := Lib.hid (honf (by simp only [decide_eq_false_iff_not] at hj0; omega) (by rw [hoaf, hok, hnxd, hsr, hds]; rfl))
                have HBX := Lib.hid (below_trans (below_trans HI.out.2 (below_new (w := wr) (.cells cs 49))) hS37)
                clear hnof hfaf honf hsnf hoaf hl4 hidl hnx hls hf0 hfn hfl hS0 hS hS1 hS30 hS37 hgl hf1 hf2 hsl hdl hb1 hb30 hb37 hok hnxd hsr hds hj0
                go_wp2
                go_roundw
                case rel => exact ⟨j + 1, hlt1, by go_num, Lib.hid ⟨HFIN.out, HBX.out⟩⟩
                case measure => simp [intOf]; omega
          | true =>
            have HGT := Lib.hid (HGT0.out _ hj0)
            obtain ⟨k, hke⟩ : ∃ k, k + 1 = j := ⟨j - 1, by simp only [decide_eq_true_eq] at hj0; omega⟩
            have hkl : k < g.rels.length := by omega
            have HK := Lib.hid (HKP.out k hke hkl)
            have hfk := HLW.out.2.1 k hke hkl
            have hsk := HLW.out.2.2.2.1 k hke hkl
            clear hke HKP
            generalize g.rels[k] = nk at *
            obtain ⟨hsb, hix, hfp, hpv, _⟩ := HK.out
            refine tk 12 25 (v := .bool true) rfl rfl (fun W hW => exec_bini rfl rfl rfl (HGT.out W)) ?_
            simp only [Act.put, sA, sZ, sS]
            refine tk 13 26 (v := .bool true) rfl rfl (fun W hW => exec_move rfl rfl) ?_
            simp only [Act.put, sA, sZ, sS]
            refine tk 14 27 (v := .pointer (some ⟨w.heap.size, 1, none⟩)) rfl rfl (fun W hW => exec_fieldAddr rfl rfl (hfl W)) ?_
            simp only [Act.put, sA, sZ, sS]
            refine tk 15 28 (v := .slice (some ⟨b, of, none⟩) g.rels.length cr) rfl rfl (fun W hW => exec_load rfl rfl (hls W hW)) ?_
            simp only [Act.put, sA, sZ, sS]
            refine tk 16 29 (v := .int .i64 (j : Int)) rfl rfl (fun W hW => exec_move rfl rfl) ?_
            simp only [Act.put, sA, sZ, sS]
            refine tk 17 30 (v := .int .i64 (k : Int)) rfl rfl (fun W hW => exec_bini rfl rfl rfl (hsb W)) ?_
            simp only [Act.put, sA, sZ, sS]
            refine tk 18 31 (v := .pointer (some ⟨b, of + k * 5, none⟩)) rfl rfl (fun W hW => exec_indexAddr rfl rfl rfl (hix W)) ?_
            simp only [Act.put, sA, sZ, sS]
            refine tk 19 32 (v := .pointer (some ⟨b, of + k * 5, none⟩)) rfl rfl (fun W hW => exec_fieldAddr rfl rfl (hfp W)) ?_
            simp only [Act.put, sA, sZ, sS]
            refine tk 20 33 (v := .int .i64 nk.id) rfl rfl (fun W hW => exec_load rfl rfl (hpv W hW)) ?_
            simp only [Act.put, sA, sZ, sS]
            refine tk 21 34 (v := .pointer (some ⟨wr.heap.size, 0, none⟩)) rfl rfl (fun W hW => exec_fieldAddr rfl rfl (hf0 W)) ?_
            simp only [Act.put, sA, sZ, sS]
            refine tk 22 35 (v := .int .i64 nj.id) rfl rfl (fun W hW => exec_load rfl rfl (hidl W hW)) ?_
            simp only [Act.put, sA, sZ, sS]
            cases hpd : decide (nj.id ≤ nk.id) with
            | false =>
              have HG2 := Lib.hid (HK.out.2.2.2.2 _ hpd)
              refine tk 23 36 (v := .bool false) rfl rfl (fun W hW => exec_bini rfl rfl rfl (HG2.out W)) ?_
              simp only [Act.put, sA, sZ, sS]
              refine tk 24 37 (v := .bool false) rfl rfl (fun W hW => rfl) ?_
              simp only [Act.put, sA, sZ, sS]
              refine tk 25 38 (v := .bool false) rfl rfl (fun W hW => rfl) ?_
              simp only [Act.put, sA, sZ, sS]
              refine tk 26 39 (v := .bool false) rfl rfl (fun W hW => exec_move rfl rfl) ?_
              simp only [Act.put, sA, sZ, sS]
              refine tk 27 40 (v := .agg #[.slice pn g.nodes.length cn, .slice (some ⟨b, of, none⟩) g.rels.length cr, .int .i64 g.nextNode, .int .i64 g.nextRel]) rfl rfl (fun W hW => exec_load rfl rfl (hgl W hW)) ?_
              simp only [Act.put, sA, sZ, sS]
              refine tk 28 41 (v := .pointer (some ⟨wr.heap.size, 1, none⟩)) rfl rfl (fun W hW => exec_fieldAddr rfl rfl (hf1 W)) ?_
              simp only [Act.put, sA, sZ, sS]
              refine tk 29 42 (v := .int .i64 nj.src) rfl rfl (fun W hW => exec_load rfl rfl (hsl W hW)) ?_
              simp only [Act.put, sA, sZ, sS]
              cases hsr : hasN g nj.src with
              | false =>
                have HHS := Lib.hid (HHS0.out _ hsr)
                refine onlyCall 30 43 rfl rfl (by kernel_rfl) rfl (exec_call [.agg #[.slice pn g.nodes.length cn, .slice (some ⟨b, of, none⟩) g.rels.length cr, .int .i64 g.nextNode, .int .i64 g.nextRel], .int .i64 nj.src] rfl rfl Tryz.func130 (by kernel_rfl) (by kernel_rfl)) ?_
                refine (HHS.out _ hS1).mono ?_
                rintro e w30 ⟨rfl, hb30⟩
                have hS30 := below_trans hS1 hb30
                refine ⟨_, rfl, .inr hS30, ?_⟩
                simp only [Act.put, sA, sZ, sS]
                refine tk 31 44 (v := .bool true) rfl rfl (fun W hW => exec_unot (b := false) rfl rfl) ?_
                simp only [Act.put, sA, sZ, sS]
                refine tk 32 45 (v := .bool true) rfl rfl (fun W hW => rfl) ?_
                simp only [Act.put, sA, sZ, sS]
                refine tk 33 46 (v := .bool true) rfl rfl (fun W hW => exec_move rfl rfl) ?_
                simp only [Act.put, sA, sZ, sS]
                refine tn 34 47 rfl rfl ?_
                simp only [Act.put, sA, sZ, sS]
                refine tn 35 48 rfl rfl ?_
                simp only [Act.put, sA, sZ, sS]
                refine tn 36 49 rfl rfl ?_
                simp only [Act.put, sA, sZ, sS]
                refine onlyNot 37 50 rfl rfl (by kernel_rfl) rfl ?_ (.inr (by assumption))
                simp only [Act.put, sA, sZ, sS]
                refine tn 38 51 rfl rfl ?_
                simp only [Act.put, sA, sZ, sS]
                refine tk 39 52 (v := .bool true) rfl rfl (fun W hW => rfl) ?_
                simp only [Act.put, sA, sZ, sS]
                refine done (by kernel_rfl) ?_ _
                obtain ⟨hnof, hfaf, honf, hsnf, hoaf⟩ := HLW.out
                have HFIN := Lib.hid (hnof (by rw [hoaf, hok, hnxd, hsr]; rfl))
                have HBF := Lib.hid (below_trans HBN.out hS30)
                clear hnof hfaf honf hsnf hoaf hl4 hidl hnx hls hf0 hfn hfl hS0 hS hS1 hS30 hgl hf1 hf2 hsl hdl hsb hix hfp hpv hfk hsk hb1 hb30 hok hnxd hsr hj0 hpd
                go_wp2
                go_ret
                exact ⟨by rw [HFIN.out]; rfl, HBF.out⟩
              | true =>
                have HHS := Lib.hid (HHS0.out _ hsr)
                refine onlyCall 30 43 rfl rfl (by kernel_rfl) rfl (exec_call [.agg #[.slice pn g.nodes.length cn, .slice (some ⟨b, of, none⟩) g.rels.length cr, .int .i64 g.nextNode, .int .i64 g.nextRel], .int .i64 nj.src] rfl rfl Tryz.func130 (by kernel_rfl) (by kernel_rfl)) ?_
                refine (HHS.out _ hS1).mono ?_
                rintro e w30 ⟨rfl, hb30⟩
                have hS30 := below_trans hS1 hb30
                refine ⟨_, rfl, .inr hS30, ?_⟩
                simp only [Act.put, sA, sZ, sS]
                refine tk 31 44 (v := .bool false) rfl rfl (fun W hW => exec_unot (b := true) rfl rfl) ?_
                simp only [Act.put, sA, sZ, sS]
                refine tk 32 45 (v := .bool false) rfl rfl (fun W hW => rfl) ?_
                simp only [Act.put, sA, sZ, sS]
                refine tk 33 46 (v := .bool false) rfl rfl (fun W hW => exec_move rfl rfl) ?_
                simp only [Act.put, sA, sZ, sS]
                refine tk 34 47 (v := .agg #[.slice pn g.nodes.length cn, .slice (some ⟨b, of, none⟩) g.rels.length cr, .int .i64 g.nextNode, .int .i64 g.nextRel]) rfl rfl (fun W hW => exec_load rfl rfl (hgl W hW)) ?_
                simp only [Act.put, sA, sZ, sS]
                refine tk 35 48 (v := .pointer (some ⟨wr.heap.size, 2, none⟩)) rfl rfl (fun W hW => exec_fieldAddr rfl rfl (hf2 W)) ?_
                simp only [Act.put, sA, sZ, sS]
                refine tk 36 49 (v := .int .i64 nj.dst) rfl rfl (fun W hW => exec_load rfl rfl (hdl W hW)) ?_
                simp only [Act.put, sA, sZ, sS]
                cases hds : hasN g nj.dst with
                | false =>
                  have HHD := Lib.hid (HHD0.out _ hds)
                  refine onlyCall 37 50 rfl rfl (by kernel_rfl) rfl (exec_call [.agg #[.slice pn g.nodes.length cn, .slice (some ⟨b, of, none⟩) g.rels.length cr, .int .i64 g.nextNode, .int .i64 g.nextRel], .int .i64 nj.dst] rfl rfl Tryz.func130 (by kernel_rfl) (by kernel_rfl)) ?_
                  refine (HHD.out _ hS30).mono ?_
                  rintro e w37 ⟨rfl, hb37⟩
                  have hS37 := below_trans hS30 hb37
                  refine ⟨_, rfl, .inr hS37, ?_⟩
                  simp only [Act.put, sA, sZ, sS]
                  refine tk 38 51 (v := .bool true) rfl rfl (fun W hW => exec_unot (b := false) rfl rfl) ?_
                  simp only [Act.put, sA, sZ, sS]
                  refine tk 39 52 (v := .bool true) rfl rfl (fun W hW => rfl) ?_
                  simp only [Act.put, sA, sZ, sS]
                  refine done (by kernel_rfl) ?_ _
                  obtain ⟨hnof, hfaf, honf, hsnf, hoaf⟩ := HLW.out
                  have HFIN := Lib.hid (hnof (by rw [hoaf, hok, hnxd, hsr, hds]; rfl))
                  have HBF := Lib.hid (below_trans HBN.out hS37)
                  clear hnof hfaf honf hsnf hoaf hl4 hidl hnx hls hf0 hfn hfl hS0 hS hS1 hS30 hS37 hgl hf1 hf2 hsl hdl hsb hix hfp hpv hfk hsk hb1 hb30 hb37 hok hnxd hsr hds hj0 hpd
                  go_wp2
                  go_ret
                  exact ⟨by rw [HFIN.out]; rfl, HBF.out⟩
                | true =>
                  have HHD := Lib.hid (HHD0.out _ hds)
                  refine onlyCall 37 50 rfl rfl (by kernel_rfl) rfl (exec_call [.agg #[.slice pn g.nodes.length cn, .slice (some ⟨b, of, none⟩) g.rels.length cr, .int .i64 g.nextNode, .int .i64 g.nextRel], .int .i64 nj.dst] rfl rfl Tryz.func130 (by kernel_rfl) (by kernel_rfl)) ?_
                  refine (HHD.out _ hS30).mono ?_
                  rintro e w37 ⟨rfl, hb37⟩
                  have hS37 := below_trans hS30 hb37
                  refine ⟨_, rfl, .inr hS37, ?_⟩
                  simp only [Act.put, sA, sZ, sS]
                  refine tk 38 51 (v := .bool false) rfl rfl (fun W hW => exec_unot (b := true) rfl rfl) ?_
                  simp only [Act.put, sA, sZ, sS]
                  refine tk 39 52 (v := .bool false) rfl rfl (fun W hW => rfl) ?_
                  simp only [Act.put, sA, sZ, sS]
                  refine done (by kernel_rfl) ?_ _
                  obtain ⟨hnof, hfaf, honf, hsnf, hoaf⟩ := HLW.out
                  have HFIN := Lib.hid (hsk (by rw [hoaf, hok, hnxd, hsr, hds]; rfl) (by simpa using hpd))
                  have HBX := Lib.hid (below_trans (below_trans HI.out.2 (below_new (w := wr) (.cells cs 49))) hS37)
                  clear hnof hfaf honf hsnf hoaf hl4 hidl hnx hls hf0 hfn hfl hS0 hS hS1 hS30 hS37 hgl hf1 hf2 hsl hdl hsb hix hfp hpv hfk hsk hb1 hb30 hb37 hok hnxd hsr hds hj0 hpd
                  go_wp2
                  go_roundw
                  case rel => exact ⟨j + 1, hlt1, by go_num, Lib.hid ⟨HFIN.out, HBX.out⟩⟩
                  case measure => simp [intOf]; omega
            | true =>
              have HG2 := Lib.hid (HK.out.2.2.2.2 _ hpd)
              refine tk 23 36 (v := .bool true) rfl rfl (fun W hW => exec_bini rfl rfl rfl (HG2.out W)) ?_
              simp only [Act.put, sA, sZ, sS]
              refine tk 24 37 (v := .bool true) rfl rfl (fun W hW => rfl) ?_
              simp only [Act.put, sA, sZ, sS]
              refine tk 25 38 (v := .bool true) rfl rfl (fun W hW => rfl) ?_
              simp only [Act.put, sA, sZ, sS]
              refine tk 26 39 (v := .bool true) rfl rfl (fun W hW => exec_move rfl rfl) ?_
              simp only [Act.put, sA, sZ, sS]
              refine tn 27 40 rfl rfl ?_
              simp only [Act.put, sA, sZ, sS]
              refine tn 28 41 rfl rfl ?_
              simp only [Act.put, sA, sZ, sS]
              refine tn 29 42 rfl rfl ?_
              simp only [Act.put, sA, sZ, sS]
              refine onlyNot 30 43 rfl rfl (by kernel_rfl) rfl ?_ (.inr (by assumption))
              simp only [Act.put, sA, sZ, sS]
              refine tn 31 44 rfl rfl ?_
              simp only [Act.put, sA, sZ, sS]
              refine tk 32 45 (v := .bool true) rfl rfl (fun W hW => rfl) ?_
              simp only [Act.put, sA, sZ, sS]
              refine tk 33 46 (v := .bool true) rfl rfl (fun W hW => exec_move rfl rfl) ?_
              simp only [Act.put, sA, sZ, sS]
              refine tn 34 47 rfl rfl ?_
              simp only [Act.put, sA, sZ, sS]
              refine tn 35 48 rfl rfl ?_
              simp only [Act.put, sA, sZ, sS]
              refine tn 36 49 rfl rfl ?_
              simp only [Act.put, sA, sZ, sS]
              refine onlyNot 37 50 rfl rfl (by kernel_rfl) rfl ?_ (.inr (by assumption))
              simp only [Act.put, sA, sZ, sS]
              refine tn 38 51 rfl rfl ?_
              simp only [Act.put, sA, sZ, sS]
              refine tk 39 52 (v := .bool true) rfl rfl (fun W hW => rfl) ?_
              simp only [Act.put, sA, sZ, sS]
              refine done (by kernel_rfl) ?_ _
              obtain ⟨hnof, hfaf, honf, hsnf, hoaf⟩ := HLW.out
              have HFIN := Lib.hid (hfk (by simpa using hpd))
              have HBF := Lib.hid (below_trans HBN.out hS1)
              clear hnof hfaf honf hsnf hoaf hl4 hidl hnx hls hf0 hfn hfl hS0 hS hS1 hgl hf1 hf2 hsl hdl hsb hix hfp hpv hfk hsk hb1 hok hnxd hj0 hpd
              go_wp2
              go_ret
              exact ⟨by rw [HFIN.out]; rfl, HBF.out⟩
        | true =>
          have HGE := Lib.hid (HGE0.out _ hnxd)
          refine tk 8 21 (v := .bool true) rfl rfl (fun W hW => exec_bini rfl rfl rfl (HGE.out W)) ?_
          simp only [Act.put, sA, sZ, sS]
          refine tk 9 22 (v := .bool true) rfl rfl (fun W hW => rfl) ?_
          simp only [Act.put, sA, sZ, sS]
          refine tk 10 23 (v := .bool true) rfl rfl (fun W hW => exec_move rfl rfl) ?_
          simp only [Act.put, sA, sZ, sS]
          refine tn 11 24 rfl rfl ?_
          simp only [Act.put, sA, sZ, sS]
          refine tn 12 25 rfl rfl ?_
          simp only [Act.put, sA, sZ, sS]
          refine tn 13 26 rfl rfl ?_
          simp only [Act.put, sA, sZ, sS]
          refine tn 14 27 rfl rfl ?_
          simp only [Act.put, sA, sZ, sS]
          refine tn 15 28 rfl rfl ?_
          simp only [Act.put, sA, sZ, sS]
          refine tn 16 29 rfl rfl ?_
          simp only [Act.put, sA, sZ, sS]
          refine tn 17 30 rfl rfl ?_
          simp only [Act.put, sA, sZ, sS]
          refine tn 18 31 rfl rfl ?_
          simp only [Act.put, sA, sZ, sS]
          refine tn 19 32 rfl rfl ?_
          simp only [Act.put, sA, sZ, sS]
          refine tn 20 33 rfl rfl ?_
          simp only [Act.put, sA, sZ, sS]
          refine tn 21 34 rfl rfl ?_
          simp only [Act.put, sA, sZ, sS]
          refine tn 22 35 rfl rfl ?_
          simp only [Act.put, sA, sZ, sS]
          refine tn 23 36 rfl rfl ?_
          simp only [Act.put, sA, sZ, sS]
          refine tn 24 37 rfl rfl ?_
          simp only [Act.put, sA, sZ, sS]
          refine tk 25 38 (v := .bool true) rfl rfl (fun W hW => rfl) ?_
          simp only [Act.put, sA, sZ, sS]
          refine tk 26 39 (v := .bool true) rfl rfl (fun W hW => exec_move rfl rfl) ?_
          simp only [Act.put, sA, sZ, sS]
          refine tn 27 40 rfl rfl ?_
          simp only [Act.put, sA, sZ, sS]
          refine tn 28 41 rfl rfl ?_
          simp only [Act.put, sA, sZ, sS]
          refine tn 29 42 rfl rfl ?_
          simp only [Act.put, sA, sZ, sS]
          refine onlyNot 30 43 rfl rfl (by kernel_rfl) rfl ?_ (.inr (by assumption))
          simp only [Act.put, sA, sZ, sS]
          refine tn 31 44 rfl rfl ?_
          simp only [Act.put, sA, sZ, sS]
          refine tk 32 45 (v := .bool true) rfl rfl (fun W hW => rfl) ?_
          simp only [Act.put, sA, sZ, sS]
          refine tk 33 46 (v := .bool true) rfl rfl (fun W hW => exec_move rfl rfl) ?_
          simp only [Act.put, sA, sZ, sS]
          refine tn 34 47 rfl rfl ?_
          simp only [Act.put, sA, sZ, sS]
          refine tn 35 48 rfl rfl ?_
          simp only [Act.put, sA, sZ, sS]
          refine tn 36 49 rfl rfl ?_
          simp only [Act.put, sA, sZ, sS]
          refine onlyNot 37 50 rfl rfl (by kernel_rfl) rfl ?_ (.inr (by assumption))
          simp only [Act.put, sA, sZ, sS]
          refine tn 38 51 rfl rfl ?_
          simp only [Act.put, sA, sZ, sS]
          refine tk 39 52 (v := .bool true) rfl rfl (fun W hW => rfl) ?_
          simp only [Act.put, sA, sZ, sS]
          refine done (by kernel_rfl) ?_ _
          obtain ⟨hnof, hfaf, honf, hsnf, hoaf⟩ := HLW.out
          have HFIN := Lib.hid (hnof (by rw [hoaf, hok, hnxd]; rfl))
          have HBF := Lib.hid (below_trans HBN.out hS1)
          clear hnof hfaf honf hsnf hoaf hl4 hidl hnx hls hf0 hfn hfl hS0 hS hS1 hgl hf1 hf2 hsl hdl hb1 hok hnxd
          go_wp2
          go_ret
          exact ⟨by rw [HFIN.out]; rfl, HBF.out⟩
    · obtain rfl : j = g.rels.length := by omega
      have HF := Lib.hid (And.intro HI.out.1.last (below_trans HB0.out HI.out.2))
      clear HI
      go_wp2
      go_ret
      exact ⟨by rw [HF.out.1]; rfl, HF.out.2⟩
end Go.Proofs.YtihfnegakcghiaaGreatDoor
namespace Go.Proofs.YtihfnegakcghiaaGreatDoor
open Go.RowKit
theorem gsizes_any {w : World} {g : GraphD} {x : Array Value} (h : GrRd w g x) : Calls Tryz.prog 76 #[.agg x] w fun e w' => e = .returned (.bool (okSz g)) ∧ Below w.heap.size w w' := by
  obtain ⟨pn, cn, pr, cr, rfl, hn, hrl⟩ := h
  have z1 : (g.nodes.length : Int) ≤ 140737488355328 := by have := hn.1.2.1; omega
  have z2 : (g.rels.length : Int) ≤ 140737488355328 := by have := hrl.1.2.1; omega
  have hadd := fun W => add_int (i := g.nodes.length) (j := g.rels.length) (by omega) W
  have hle : ∀ W' : World, (binOp .leq 3 (.int .i64 ((g.nodes.length + g.rels.length : Nat) : Int)) (.int .i64 65536)).run Tryz.prog W' = .ok (.bool (decide (g.nodes.length + g.rels.length ≤ 65536))) W' := by
    intro W'
    have e : decide (g.nodes.length + g.rels.length ≤ 65536) = decide (((g.nodes.length + g.rels.length : Nat) : Int) ≤ 65536) := by
      rw [Bool.eq_iff_iff]; simp only [decide_eq_true_eq]; omega
    rw [e]; simp [go_sem]
  have hok : okSz g = (decide (g.nodes.length + g.rels.length ≤ 65536) && decide (0 ≤ g.nextNode) && decide (g.nextNode ≤ 4611686018427387904) && decide (0 ≤ g.nextRel) && decide (g.nextRel ≤ 4611686018427387904)) := rfl
  have HB := Lib.hid (below_new (w := w) (.cells #[.slice pn g.nodes.length cn, .slice pr g.rels.length cr, .int .i64 g.nextNode, .int .i64 g.nextRel] 25))
  have HA := Lib.hid hadd
  rw [hok]
  clear hn hrl hadd hok z1 z2
  cases h1 : decide (g.nodes.length + g.rels.length ≤ 65536) <;> cases h2 : decide (0 ≤ g.nextNode) <;> cases h3 : decide (g.nextNode ≤ 4611686018427387904) <;> cases h4 : decide (0 ≤ g.nextRel) <;> cases h5 : decide (g.nextRel ≤ 4611686018427387904)
  all_goals
    rw [h1] at hle
    have HL := Lib.hid hle
    clear hle h1
    go_enter Tryz.func76, Tryz.ntmps76
    go_wp2_with (first
      | ((with_reducible apply op_binu); exact HA.out _; exact rfl; exact rfl)
      | ((with_reducible apply op_binu); exact HL.out _; exact rfl; exact rfl))
    go_ret
    exact ⟨by simp, HB.out⟩
end Go.Proofs.YtihfnegakcghiaaGreatDoor
namespace Go.Proofs.YtihfnegakcghiaaGreatDoor
open Go.RowKit
def errG (b : Bool) : Int := if b then 0 else 2
theorem checkO_any {w : World} (hE : Env w) {g : GraphD} {x : Array Value} (h : GrRd w g x) (ht : GOk g) : Calls Tryz.prog 24 #[.agg x] w fun e w' => e = .returned (.int .i64 (errG (okG g))) ∧ Below w.heap.size w w' := by
  have hx := h
  obtain ⟨pn, cn, pr, cr, rfl, hn, hrl⟩ := h
  have hb := below_new (w := w) (.cells #[.slice pn g.nodes.length cn, .slice pr g.rels.length cr, .int .i64 g.nextNode, .int .i64 g.nextRel] 25)
  have hb2 : Below w.heap.size w ((w.alloc (.cells #[.slice pn g.nodes.length cn, .slice pr g.rels.length cr, .int .i64 g.nextNode, .int .i64 g.nextRel] 25)).alloc (.cells #[.func (.func 76) #[] #[], .func (.func 77) #[] #[], .func (.func 78) #[] #[]] 34)) := hb.alloc (by simp) _
  have hg : ((w.alloc (.cells #[.slice pn g.nodes.length cn, .slice pr g.rels.length cr, .int .i64 g.nextNode, .int .i64 g.nextRel] 25)).alloc (.cells #[.func (.func 76) #[] #[], .func (.func 77) #[] #[], .func (.func 78) #[] #[]] 34)).heap[w.heap.size]? = some (.cells #[.slice pn g.nodes.length cn, .slice pr g.rels.length cr, .int .i64 g.nextNode, .int .i64 g.nextRel] 25 (0, 0)) := by
    simp only [heap_get_alloc, World.size_alloc]; rw [if_neg (by omega), if_pos trivial]
  have hf : ((w.alloc (.cells #[.slice pn g.nodes.length cn, .slice pr g.rels.length cr, .int .i64 g.nextNode, .int .i64 g.nextRel] 25)).alloc (.cells #[.func (.func 76) #[] #[], .func (.func 77) #[] #[], .func (.func 78) #[] #[]] 34)).heap[w.heap.size + 1]? = some (.cells #[.func (.func 76) #[] #[], .func (.func 77) #[] #[], .func (.func 78) #[] #[]] 34 (0, 0)) := by
    simp only [heap_get_alloc, World.size_alloc]; rw [if_pos trivial]
  have hsz : ((w.alloc (.cells #[.slice pn g.nodes.length cn, .slice pr g.rels.length cr, .int .i64 g.nextNode, .int .i64 g.nextRel] 25)).alloc (.cells #[.func (.func 76) #[] #[], .func (.func 77) #[] #[], .func (.func 78) #[] #[]] 34)).heap.size = w.heap.size + 2 := by simp
  have HH := Lib.hid (And.intro hE (And.intro hx (And.intro hb2 (And.intro hg (And.intro hf hsz)))))
  have HT := Lib.hid ht
  have HOK := Lib.hid (show okG g = (okSz g && okNs g && okRs g) from rfl)
  clear hE hx hn hrl hb hb2 hg hf hsz ht
  go_enter Tryz.func24, Tryz.ntmps24
  go_wp2
  generalize ((w.alloc (.cells #[.slice pn g.nodes.length cn, .slice pr g.rels.length cr, .int .i64 g.nextNode, .int .i64 g.nextRel] 25)).alloc (.cells #[.func (.func 76) #[] #[], .func (.func 77) #[] #[], .func (.func 78) #[] #[]] 34)) = w1 at *
  go_loopw [7] (fun i W => ∃ j : Nat, j ≤ 3 ∧ i = .int .i64 (j : Int) ∧ Hid ((1 ≤ j → okSz g = true) ∧ (2 ≤ j → okNs g = true) ∧ (3 ≤ j → okRs g = true) ∧ Below w1.heap.size w1 W)) (fun i _ => 3 - (intOf i).toNat)
  case atStart => exact ⟨0, by omega, rfl, Lib.hid ⟨by omega, by omega, by omega, Below.refl _ _⟩⟩
  case round =>
    obtain ⟨j, hj, rfl, HI⟩ := hrel
    obtain ⟨hE, hx, hb2, hg, hf, hsz⟩ := HH.out
    obtain ⟨k1, k2, k3, hB⟩ := HI.out
    have hE3 := (hE.b hb2).b hB
    have hx3 := (hx.below hb2).below hB
    have hgl := st_graph.get (P := Tryz.prog) (W := wr) rfl (belowBlk hB (by omega) hg)
    have hfc := belowBlk hB (by omega) hf
    have HG := Lib.hid hgl
    have HBX := Lib.hid hB
    have HBW := Lib.hid (below_trans hb2 hB)
    obtain h0 | h1 | h2 | h3 : j = 0 ∨ j = 1 ∨ j = 2 ∨ j = 3 := by omega
    · subst h0
      have hfn := cellOf (o := 0) hfc rfl
      have HC := Lib.hid (gsizes_any hx3)
      have HK := Lib.hid (And.intro k1 (And.intro k2 k3))
      cases hok : okSz g with
      | false =>
        rw [hok] at HC
        have HFIN := Lib.hid (show okG g = false by rw [HOK.out, hok]; simp)
        clear hok hE hx hb2 hg hf hsz k1 k2 k3 hB hE3 hx3 hgl hfc HH HI HT HOK
        go_wp2_with (first
          | ((with_reducible apply op_load); exact HG.out; exact rfl)
          | (go_at_call 76; refine HC.out.mono ?_; rintro e W2 ⟨rfl, hb⟩; have HB2 := Lib.hid (below_trans HBW.out hb); clear hb))
        go_ret
        exact ⟨by rw [HFIN.out]; rfl, HB2.out⟩
      | true =>
        rw [hok] at HC
        have HOKT := Lib.hid hok
        clear hok hE hx hb2 hg hf hsz k1 k2 k3 hB hE3 hx3 hgl hfc HH HI HT HOK
        go_wp2_with (first
          | ((with_reducible apply op_load); exact HG.out; exact rfl)
          | (go_at_call 76; refine HC.out.mono ?_; rintro e W2 ⟨rfl, hb⟩; have HB2 := Lib.hid (below_trans HBX.out hb); clear hb))
        go_roundw
        case rel => exact ⟨1, by omega, by go_num, Lib.hid ⟨fun _ => (by first | exact HOKT.out | trivial), by omega, by omega, HB2.out⟩⟩
        case measure => simp [intOf]
    · subst h1
      have hfn := cellOf (o := 1) hfc rfl
      have HC := Lib.hid (gnodes_any hE3 hx3 HT.out)
      have HK := Lib.hid (And.intro k1 (And.intro k2 k3))
      cases hok : okNs g with
      | false =>
        rw [hok] at HC
        have HFIN := Lib.hid (show okG g = false by rw [HOK.out, hok]; simp)
        clear hok hE hx hb2 hg hf hsz k1 k2 k3 hB hE3 hx3 hgl hfc HH HI HT HOK
        go_wp2_with (first
          | ((with_reducible apply op_load); exact HG.out; exact rfl)
          | (go_at_call 77; refine HC.out.mono ?_; rintro e W2 ⟨rfl, hb⟩; have HB2 := Lib.hid (below_trans HBW.out hb); clear hb))
        go_ret
        exact ⟨by rw [HFIN.out]; rfl, HB2.out⟩
      | true =>
        rw [hok] at HC
        have HOKT := Lib.hid hok
        clear hok hE hx hb2 hg hf hsz k1 k2 k3 hB hE3 hx3 hgl hfc HH HI HT HOK
        go_wp2_with (first
          | ((with_reducible apply op_load); exact HG.out; exact rfl)
          | (go_at_call 77; refine HC.out.mono ?_; rintro e W2 ⟨rfl, hb⟩; have HB2 := Lib.hid (below_trans HBX.out hb); clear hb))
        go_roundw
        case rel => exact ⟨2, by omega, by go_num, Lib.hid ⟨fun _ => HK.out.1 (by omega), fun _ => (by first | exact HOKT.out | trivial), by omega, HB2.out⟩⟩
        case measure => simp [intOf]
    · subst h2
      have hfn := cellOf (o := 2) hfc rfl
      have HC := Lib.hid (grels_any hE3 hx3 (by have h := k2 (by omega); rw [okNs_eq, Bool.and_eq_true] at h; exact h.2) HT.out)
      have HK := Lib.hid (And.intro k1 (And.intro k2 k3))
      cases hok : okRs g with
      | false =>
        rw [hok] at HC
        have HFIN := Lib.hid (show okG g = false by rw [HOK.out, hok]; simp)
        clear hok hE hx hb2 hg hf hsz k1 k2 k3 hB hE3 hx3 hgl hfc HH HI HT HOK
        go_wp2_with (first
          | ((with_reducible apply op_load); exact HG.out; exact rfl)
          | (go_at_call 78; refine HC.out.mono ?_; rintro e W2 ⟨rfl, hb⟩; have HB2 := Lib.hid (below_trans HBW.out hb); clear hb))
        go_ret
        exact ⟨by rw [HFIN.out]; rfl, HB2.out⟩
      | true =>
        rw [hok] at HC
        have HOKT := Lib.hid hok
        clear hok hE hx hb2 hg hf hsz k1 k2 k3 hB hE3 hx3 hgl hfc HH HI HT HOK
        go_wp2_with (first
          | ((with_reducible apply op_load); exact HG.out; exact rfl)
          | (go_at_call 78; refine HC.out.mono ?_; rintro e W2 ⟨rfl, hb⟩; have HB2 := Lib.hid (below_trans HBX.out hb); clear hb))
        go_roundw
        case rel => exact ⟨3, by omega, by go_num, Lib.hid ⟨fun _ => HK.out.1 (by omega), fun _ => HK.out.2.1 (by omega), fun _ => (by first | exact HOKT.out | trivial), HB2.out⟩⟩
        case measure => simp [intOf]
    · subst h3
      have HFIN := Lib.hid (And.intro (show okG g = true by rw [HOK.out, k1 (by omega), k2 (by omega), k3 (by omega)]; rfl) (below_trans hb2 hB))
      clear hE hx hb2 hg hf hsz k1 k2 k3 hB hE3 hx3 hgl hfc HH HI HT HOK
      go_wp2
      go_ret
      exact ⟨by rw [HFIN.out.1]; rfl, HFIN.out.2⟩
end Go.Proofs.YtihfnegakcghiaaGreatDoor
namespace Go.Proofs.YtihfnegakcghiaaGreatDoor
open Go.RowKit
def linkAll (f : Int → List Int) (l : List RelD) : Int → List Int := l.foldl (fun f r => linkK (linkK f r.src r.id) r.dst r.id) f
theorem linkAll_snoc (f : Int → List Int) (l : List RelD) (r : RelD) : linkAll f (l ++ [r]) = linkK (linkK (linkAll f l) r.src r.id) r.dst r.id := by unfold linkAll; rw [List.foldl_append]; rfl
theorem linkAll_len (f : Int → List Int) : ∀ (l : List RelD) (k : Int), (linkAll f l k).length ≤ (f k).length + 2 * l.length
  | [], k => by simp [linkAll]
  | r :: l, k => by
    have := linkAll_len (linkK (linkK f r.src r.id) r.dst r.id) l k
    have h1 := linkK_len f r.src r.id k
    have h2 := linkK_len (linkK f r.src r.id) r.dst r.id k
    unfold linkAll at this ⊢
    rw [List.foldl_cons, List.length_cons]
    omega
def madeG (g : GraphD) : GS := ⟨g.nodes, g.rels, linkAll (fun _ => []) g.rels, g.nextNode, g.nextRel⟩
def madeJ (g : GraphD) (i j : Nat) : GS := ⟨g.nodes.take i, g.rels.take j, linkAll (fun _ => []) (g.rels.take j), g.nextNode, g.nextRel⟩
theorem rises_rise {α : Type} (id : α → Int) : ∀ {l : List α}, risesI (l.map id) = true → Rise id l
  | [], _ => List.Pairwise.nil
  | [a], _ => List.pairwise_singleton _ _
  | a :: b :: l, h => by
    simp only [List.map_cons, risesI, Bool.and_eq_true, decide_eq_true_eq] at h
    have ih := rises_rise id (l := b :: l) (by simpa using h.2)
    refine List.pairwise_cons.2 ⟨fun x hx => ?_, ih⟩
    rcases List.mem_cons.1 hx with rfl | hx
    · exact h.1
    · exact Int.lt_trans h.1 ((List.pairwise_cons.1 ih).1 x hx)
theorem ok_parts {g : GraphD} (h : okG g = true) : Rise NodeD.id g.nodes ∧ Rise RelD.id g.rels ∧ (∀ n ∈ g.nodes, i64R n.id) ∧ (∀ r ∈ g.rels, i64R r.id) ∧ g.nodes.length + g.rels.length ≤ 65536 := by
  unfold okG okSz okNs okRs at h
  simp only [Bool.and_eq_true, decide_eq_true_eq, List.all_eq_true] at h
  obtain ⟨⟨⟨⟨⟨⟨h1, h2⟩, h3⟩, h4⟩, h5⟩, h6, h7⟩, h8, h9⟩ := h
  refine ⟨rises_rise _ h7, rises_rise _ h9, fun n hn => ?_, fun r hr => ?_, h1⟩
  · have := h6 n hn
    unfold okN at this
    simp only [Bool.and_eq_true, decide_eq_true_eq] at this
    unfold i64R
    omega
  · have := h8 r hr
    unfold okR at this
    simp only [Bool.and_eq_true, decide_eq_true_eq] at this
    unfold i64R
    omega
def KInv (w W : World) (B : GB) (ma : Int → Option Value) (s : GS) : Prop := GM (fun b => w.heap.size ≤ b) W B ma s ∧ Below w.heap.size w W
section
variable {w W W' : World} {B : GB} {ma : Int → Option Value} {s : GS}
theorem KInv.below (h : KInv w W B ma s) (g : Below W.heap.size W W') : KInv w W' B ma s := ⟨h.1.below g, below_trans h.2 g⟩
theorem KInv.new (h : KInv w W B ma s) {b : Nat} (h1 : W.heap.size ≤ b) : w.heap.size ≤ b ∧ ¬ GSp B ma b := ⟨Nat.le_trans h.2.size h1, fun e => by have := (h.1.sp_lt e).1; omega⟩
theorem KInv.touch (h : KInv w W B ma s) {S : Nat → Prop} (g : Touch S W W') (hs : ∀ b, S b → w.heap.size ≤ b) : Below w.heap.size w W' := g.below h.2 (fun b hb e => by have := hs b e; omega) h.2.size
theorem KInv.node (h : KInv w W B ma s) (g : Below W.heap.size W W') {n : NodeD} {x : Array Value} (hx : NOwn W' (fun b => W.heap.size ≤ b) n x) (hr : i64R n.id) :
    ∃ W2, (Instr.mapUpdate 68 (.map (some B.bn)) (.int .i64 n.id) (.agg x)).run Tryz.prog W' = .ok () W2 ∧ KInv w W2 B ma { s with nodes := putBy NodeD.id n s.nodes } ∧ Touch (fun b => b = B.bn) W' W2 := by
  have h2 := h.below g
  obtain ⟨W2, r1, r2, r3, r4⟩ := h2.1.nodes.put (P := Tryz.prog) el_node Tryz.underlying68 Tryz.underlying2 (el_node.imp (fun b _ hb => h.new hb) hx) hr (fun e => e.2 (.inr (.inl rfl)))
  exact ⟨W2, r1, ⟨h2.1.noded r2 r3, h2.touch r3 fun b e => by rw [e]; exact h2.1.own.2.1⟩, r3⟩
theorem KInv.rel (h : KInv w W B ma s) (g : Below W.heap.size W W') {n : RelD} {x : Array Value} (hx : ROwn W' (fun b => W.heap.size ≤ b) n x) (hr : i64R n.id) :
    ∃ W2, (Instr.mapUpdate 69 (.map (some B.br)) (.int .i64 n.id) (.agg x)).run Tryz.prog W' = .ok () W2 ∧ KInv w W2 B ma { s with rels := putBy RelD.id n s.rels } ∧ Touch (fun b => b = B.br) W' W2 := by
  have h2 := h.below g
  obtain ⟨W2, r1, r2, r3, r4⟩ := h2.1.rels.put (P := Tryz.prog) el_rel Tryz.underlying69 Tryz.underlying2 (el_rel.imp (fun b _ hb => h.new hb) hx) hr (fun e => e.2 (.inr (.inr (.inl rfl))))
  exact ⟨W2, r1, ⟨h2.1.reled r2 r3, h2.touch r3 fun b e => by rw [e]; exact h2.1.own.2.2⟩, r3⟩
theorem KInv.link (h : KInv w W B ma s) {f : Int → List Int} (hl : LInv (fun b => w.heap.size ≤ b) W W' B.ba ma f) : ∃ ma', KInv w W' B ma' { s with adj := f } := by
  obtain ⟨m, h1, h2, h3⟩ := hl
  exact ⟨m, h.1.linked h1 h2 h3, h.touch h3 fun b e => e.elim (fun e => by rw [e]; exact h.1.adj.own) fun e => (h.1.adj.block e).2.1⟩
end
theorem take_put {α : Type} (id : α → Int) {l : List α} (h : Rise id l) {j : Nat} (hj : j < l.length) : putBy id l[j] (l.take j) = l.take (j + 1) := by
  rw [List.take_succ_eq_append_getElem hj]
  refine putBy_end id fun a ha => ?_
  obtain ⟨i, hi, rfl⟩ := List.getElem_of_mem ha
  rw [List.length_take] at hi
  rw [List.getElem_take]
  exact List.pairwise_iff_getElem.1 h i j (by omega) hj (by omega)
theorem node_ok {g : GraphD} (h : GOk g) {n : NodeD} (hn : n ∈ g.nodes) : n.labels.length ≤ 1100000 ∧ PsOk n.props := ⟨(h.2.2.1 n hn).1, (h.2.2.1 n hn).2.2⟩
theorem rel_ok {g : GraphD} (h : GOk g) {n : RelD} (hn : n ∈ g.rels) : PsOk n.props := (h.2.2.2 n hn).2
theorem make_start {S : Nat → Prop} {W : World} (hS : ∀ b, W.heap.size ≤ b → S b) (g : GraphD) :
    GM S ((((W.alloc (.map #[] 0)).alloc (.map #[] 0)).alloc (.map #[] 0)).alloc (.cells #[.map (some W.heap.size), .map (some (W.heap.size + 1)), .map (some (W.heap.size + 2)), .int .i64 g.nextNode, .int .i64 g.nextRel] 72)) ⟨W.heap.size + 3, W.heap.size, W.heap.size + 1, W.heap.size + 2⟩ (fun _ => none) (madeJ g 0 0) := by
  have b1 := below_new (w := W) (.map #[] 0)
  have b2 := below_new (w := W.alloc (.map #[] 0)) (.map #[] 0)
  have b3 := below_new (w := (W.alloc (.map #[] 0)).alloc (.map #[] 0)) (.map #[] 0)
  have b4 := below_new (w := ((W.alloc (.map #[] 0)).alloc (.map #[] 0)).alloc (.map #[] 0)) (.cells #[.map (some W.heap.size), .map (some (W.heap.size + 1)), .map (some (W.heap.size + 2)), .int .i64 g.nextNode, .int .i64 g.nextRel] 72)
  have n1 := heap_alloc_new W (.map #[] 0)
  have n2 := heap_alloc_new (W.alloc (.map #[] 0)) (.map #[] 0)
  have n3 := heap_alloc_new ((W.alloc (.map #[] 0)).alloc (.map #[] 0)) (.map #[] 0)
  have n4 := heap_alloc_new (((W.alloc (.map #[] 0)).alloc (.map #[] 0)).alloc (.map #[] 0)) (.cells #[.map (some W.heap.size), .map (some (W.heap.size + 1)), .map (some (W.heap.size + 2)), .int .i64 g.nextNode, .int .i64 g.nextRel] 72)
  simp only [World.size_alloc] at n2 n3 n4
  have e1 := (b4.block _ (by simp; omega)).trans ((b3.block _ (by simp; omega)).trans ((b2.block _ (by simp)).trans n1))
  have e2 := (b4.block _ (by simp)).trans ((b3.block _ (by simp)).trans n2)
  have e3 := (b4.block _ (by simp)).trans n3
  exact ⟨n4, MapOf.fresh e1, MapOf.fresh e2, AtM.made e3 (hS _ (by simp)), ⟨hS _ (by simp), hS _ (Nat.le_refl _), hS _ (by simp)⟩, by simp⟩
theorem make_any {w : World} (hE : Env w) {g : GraphD} {x : Array Value} (h : GrRd w g x) (ht : GOk g) : Calls Tryz.prog 14 #[.agg x] w fun e w' => Below w.heap.size w w' ∧ (okG g = false → e = .returned (.tuple #[.pointer none, .int .i64 2])) ∧
    (okG g = true → ∃ B ma, e = .returned (.tuple #[.pointer (some ⟨B.gx, 0, none⟩), .int .i64 0]) ∧ GM (fun b => w.heap.size ≤ b) w' B ma (madeG g)) := by
  have hxs := h
  obtain ⟨pn, cn, pr, cr, rfl, hn, hr⟩ := h
  have hb1 := below_new (w := w) (.cells #[.slice pn g.nodes.length cn, .slice pr g.rels.length cr, .int .i64 g.nextNode, .int .i64 g.nextRel] 25)
  have hx8 := heap_alloc_new w (.cells #[.slice pn g.nodes.length cn, .slice pr g.rels.length cr, .int .i64 g.nextNode, .int .i64 g.nextRel] 25)
  have hsz : (w.alloc (.cells #[.slice pn g.nodes.length cn, .slice pr g.rels.length cr, .int .i64 g.nextNode, .int .i64 g.nextRel] 25)).heap.size = w.heap.size + 1 := by simp
  have HLG := Lib.hid (st_graph.get (P := Tryz.prog) rfl hx8)
  have HCK := Lib.hid (checkO_any (hE.b hb1) (hxs.below hb1) ht)
  have z1 : (g.nodes.length : Int) ≤ 140737488355328 := by have := hn.1.2.1; omega
  have z2 : (g.rels.length : Int) ≤ 140737488355328 := by have := hr.1.2.1; omega
  have HX := Lib.hid (And.intro hb1 (And.intro hx8 (And.intro hsz (And.intro hn (And.intro hr ht)))))
  cases hok : okG g with
  | false =>
    rw [hok] at HCK
    clear hb1 hx8 hsz hn hr ht hE hxs
    go_enter Tryz.func14, Tryz.ntmps14
    go_wp2_with (first
      | ((with_reducible apply op_load); exact HLG.out; exact rfl; clear HLG)
      | (go_at_call 24; refine HCK.out.mono ?_; rintro e W2 ⟨rfl, hb2⟩; have HB2 := Lib.hid hb2; clear hb2 HCK; simp only [errG, if_false, Bool.false_eq_true]))
    go_ret2
    obtain ⟨hb1, hx8, hsz, hn, hr, ht⟩ := HX.out
    exact ⟨below_trans hb1 HB2.out, fun _ => rfl, fun h => (Bool.false_ne_true h).elim⟩
  | true =>
    rw [hok] at HCK
    have hokp := ok_parts hok
    have HOK := Lib.hid hokp
    clear hb1 hx8 hsz hn hr ht hE hxs hokp
    have hmm := @run_makeMap Tryz.prog
    go_enter Tryz.func14, Tryz.ntmps14
    go_wp2_with (first
      | ((with_reducible apply op_load); exact HLG.out; exact rfl; clear HLG)
      | (go_at_call 24
         (
          refine HCK.out.mono ?_
          rintro e W2 ⟨rfl, hb2⟩
          have hx2 := belowBlk hb2 (by rw [HX.out.2.2.1]; omega) HX.out.2.1
          have b3 : Below W2.heap.size W2 (((W2.alloc (.map #[] 0)).alloc (.map #[] 0)).alloc (.map #[] 0)) := ((Below.refl _ W2).alloc (Nat.le_refl _) _).alloc (by simp) _ |>.alloc (by simp; omega) _
          have p2 := cellOf (o := 2) (belowBlk b3 (Array.getElem?_eq_some_iff.1 hx2).1 hx2) rfl
          have p3 := cellOf (o := 3) (belowBlk b3 (Array.getElem?_eq_some_iff.1 hx2).1 hx2) rfl
          have hm4 := make_start (S := fun b => w.heap.size + 1 ≤ b) (W := W2) (fun b hb => by have := hb2.size; have := HX.out.2.2.1; omega) g
          have b4 : Below W2.heap.size W2 ((((W2.alloc (.map #[] 0)).alloc (.map #[] 0)).alloc (.map #[] 0)).alloc (.cells #[.map (some W2.heap.size), .map (some (W2.heap.size + 1)), .map (some (W2.heap.size + 2)), .int .i64 g.nextNode, .int .i64 g.nextRel] 72)) := b3.alloc (by simp; omega) _
          have hx4 := belowBlk b4 (Array.getElem?_eq_some_iff.1 hx2).1 hx2
          have HB4 := Lib.hid (below_trans hb2 b4)
          have p0 := cellOf (o := 0) hx4 rfl
          have HX4 := Lib.hid hx4
          have HM := Lib.hid hm4
          clear hb2 HCK hx2 b3 hm4 b4 hx4
          simp only [errG, if_true])))
    generalize hw4 : ((((W2.alloc (.map #[] 0)).alloc (.map #[] 0)).alloc (.map #[] 0)).alloc (.cells #[.map (some W2.heap.size), .map (some (W2.heap.size + 1)), .map (some (W2.heap.size + 2)), .int .i64 g.nextNode, .int .i64 g.nextRel] 72)) = w4 at *
    obtain ⟨B, hB⟩ : ∃ B, B = GB.mk (W2.heap.size + 3) W2.heap.size (W2.heap.size + 1) (W2.heap.size + 2) := ⟨_, rfl⟩
    rw [← hB] at HM
    rw [show W2.heap.size + 1 + 1 + 1 = B.gx by rw [hB]]
    have HK0 := Lib.hid (show KInv (w.alloc (.cells #[.slice pn g.nodes.length cn, .slice pr g.rels.length cr, .int .i64 g.nextNode, .int .i64 g.nextRel] 25)) w4 B (fun _ => none) (madeJ g 0 0) from ⟨by rw [HX.out.2.2.1]; exact HM.out, HB4.out⟩)
    clear hw4 hB HM HX4 HB4 p0 p2 p3
    generalize hwA : w.alloc (.cells #[.slice pn g.nodes.length cn, .slice pr g.rels.length cr, .int .i64 g.nextNode, .int .i64 g.nextRel] 25) = wA at *
    clear hwA
    go_loopw [27] (fun i wr => ∃ j : Nat, j ≤ g.nodes.length ∧ i = .int .i64 (j : Int) ∧ Hid (KInv wA wr B (fun _ => none) (madeJ g j 0))) (fun i _ => g.nodes.length - (intOf i).toNat)
    case atStart => exact ⟨0, Nat.zero_le _, rfl, HK0⟩
    case round =>
      obtain ⟨j, hj, rfl, HJ⟩ := hrel
      by_cases hlt : j < g.nodes.length
      · have hlt1 := Nat.succ_le_of_lt hlt
        obtain ⟨hb1, hx8, hsz, hn, hr, ht⟩ := HX.out
        have hbw : Below w.heap.size w wr := below_trans hb1 HJ.out.2
        obtain ⟨b, of, cs, rfl, hs, hc, hv⟩ := hn.get hlt
        have HL1 := Lib.hid (StT.load (P := Tryz.prog) (g := b) (o := of + j * 3) (W := wr) st_node hs fun i u hu => belowCell hbw (ltOf (hc i u hu)) (hc i u hu))
        have HS1 := Lib.hid (StT.fresh st_node hs (ef_node.ones hv) (W := wr))
        have hbn := below_new (w := wr) (.cells cs 45)
        have hbx := heap_alloc_new wr (.cells cs 45)
        have hgx := belowBlk hbn HJ.out.1.lts.1 HJ.out.1.box
        have hok2 := node_ok ht (List.getElem_mem hlt)
        have hcall := copyNode_any ((hv.below hbw).below hbn.drew) hok2.1 hok2.2
        have hid : i64R g.nodes[j].id := HOK.out.2.2.1 _ (List.getElem_mem hlt)
        have hput : putBy NodeD.id g.nodes[j] (g.nodes.take j) = g.nodes.take (j + 1) := take_put NodeD.id HOK.out.1 hlt
        have hS0 : (wr.alloc (.cells cs 45)).drew.heap[B.gx]? = some (.cells (gBoxV B (madeJ g j 0)) 72 (0, 0)) ∧ (wr.alloc (.cells cs 45)).drew.heap[wr.heap.size]? = some (.cells cs 45 (0, 0)) := ⟨hgx, hbx⟩
        have k0 : cs[0]? = some (.int .i64 g.nodes[j].id) := by obtain ⟨_, _, _, _, e, _⟩ := hv; rw [e]; rfl
        have HY := Lib.hid (And.intro hbn.drew (And.intro hs (And.intro hcall (And.intro hid (And.intro hput (And.intro hS0 k0))))))
        generalize g.nodes[j] = nj at *
        clear hb1 hx8 hsz hn hr ht hbw hs hc hv hbn hbx hgx hok2 hcall hid hput hS0 k0
        go_wp2_with (first
          | ((with_reducible apply op_load); exact HL1.out; exact rfl; clear HL1)
          | ((with_reducible apply op_store); exact HS1.out _ rfl; exact rfl; exact rfl; clear HS1))
        obtain ⟨hbn, hs, hcall, hid, hput, hS0, k0⟩ := HY.out
        refine plain_region_draws (fun W => W.heap[B.gx]? = some (.cells (gBoxV B (madeJ g j 0)) 72 (0, 0)) ∧ W.heap[wr.heap.size]? = some (.cells cs 45 (0, 0))) (by kernel_rfl) hS0 (fun hS => ?_)
        refine tk 0 31 (v := .pointer (some ⟨B.gx, 0, none⟩)) rfl rfl (fun W hW => exec_move rfl rfl) ?_
        simp only [Act.put, sA, sZ, sS]
        refine tk 1 32 (v := .pointer (some ⟨B.gx, 0, none⟩)) rfl rfl (fun W hW => rfl) ?_
        simp only [Act.put, sA, sZ, sS]
        refine tk 2 33 (v := .pointer (some ⟨B.gx, 0, none⟩)) rfl rfl (fun W hW => exec_fieldAddr rfl rfl (fa_graph 0 (by omega) _ W)) ?_
        simp only [Act.put, sA, sZ, sS]
        refine tk 3 34 (v := .map (some B.bn)) rfl rfl (fun W hW => exec_load rfl rfl (run_load1 (w := W) Tryz.underlying68 rfl (cellOf (o := 0) hW.1 rfl))) ?_
        simp only [Act.put, sA, sZ, sS]
        refine tk 4 35 (v := .pointer (some ⟨wr.heap.size, 0, none⟩)) rfl rfl (fun W hW => exec_fieldAddr rfl rfl (fa_node 0 (by omega) _ W)) ?_
        simp only [Act.put, sA, sZ, sS]
        refine tk 5 36 (v := .int .i64 nj.id) rfl rfl (fun W hW => exec_load rfl rfl (run_load1 (w := W) Tryz.underlying2 rfl (cellOf (o := 0) hW.2 k0))) ?_
        simp only [Act.put, sA, sZ, sS]
        refine tk 6 37 (v := .agg cs) rfl rfl (fun W hW => exec_load rfl rfl (st_node.get (P := Tryz.prog) hs hW.2)) ?_
        simp only [Act.put, sA, sZ, sS]
        refine onlyCall 7 38 rfl rfl (by kernel_rfl) rfl (exec_call [.agg cs] rfl rfl Tryz.func39 (by kernel_rfl) (by kernel_rfl)) ?_
        refine hcall.mono ?_
        rintro e W7 ⟨x7, rfl, hx7, hb7⟩
        have hb8 := below_trans hbn hb7
        obtain ⟨W8, m1, m2, _⟩ := HJ.out.node hb8 (el_node.imp (fun b _ hb => by have := hbn.size; exact Nat.le_trans this hb) hx7) hid
        rw [show ({ madeJ g j 0 with nodes := putBy NodeD.id nj (madeJ g j 0).nodes } : GS) = madeJ g (j + 1) 0 from by unfold madeJ; rw [hput]] at m2
        have hS7 : W7.heap[B.gx]? = some (.cells (gBoxV B (madeJ g j 0)) 72 (0, 0)) ∧ W7.heap[wr.heap.size]? = some (.cells cs 45 (0, 0)) := ⟨belowBlk hb7 (Array.getElem?_eq_some_iff.1 hS0.1).1 hS0.1, belowBlk hb7 (Array.getElem?_eq_some_iff.1 hS0.2).1 hS0.2⟩
        refine ⟨_, rfl, .inr hS7, ?_⟩
        simp only [Act.put, sA, sZ, sS]
        refine onlySkip 8 rfl rfl (by kernel_rfl) rfl (exec_mapUpdate rfl rfl rfl rfl m1) (.inl (by kernel_rfl)) ?_
        refine done (by kernel_rfl) ?_ _
        have HN := Lib.hid m2
        clear hbn hs hcall hid hput hS0 k0 hS HY HJ m1 m2
        go_wp2
        go_roundw
        case rel => exact ⟨j + 1, hlt1, by go_num, HN⟩
        case measure => simp [intOf]; omega
      · obtain rfl : j = g.nodes.length := by omega
        have p1 := cellOf (o := 1) (belowBlk HJ.out.2 (Array.getElem?_eq_some_iff.1 HX.out.2.1).1 HX.out.2.1) rfl
        have HJ2 := Lib.hid (show ∃ ma, KInv wA wr B ma (madeJ g g.nodes.length 0) from ⟨_, HJ.out⟩)
        clear HJ HK0
        go_wp2
        clear p1
        go_loopw [43] (fun i wr => ∃ j : Nat, j ≤ g.rels.length ∧ i = .int .i64 (j : Int) ∧ Hid (∃ ma, KInv wA wr B ma (madeJ g g.nodes.length j))) (fun i _ => g.rels.length - (intOf i).toNat)
        case atStart => exact ⟨0, Nat.zero_le _, rfl, HJ2⟩
        case round =>
          obtain ⟨j, hj, rfl, HJ⟩ := hrel
          by_cases hlt : j < g.rels.length
          · have hlt1 := Nat.succ_le_of_lt hlt
            obtain ⟨ma, hK⟩ := HJ.out
            obtain ⟨hb1, hx8, hsz, hn, hr, ht⟩ := HX.out
            rename_i wr0 wr
            have hbw : Below w.heap.size w wr := below_trans hb1 hK.2
            obtain ⟨b, of, cs, rfl, hs, hc, hv⟩ := hr.get hlt
            have HL1 := Lib.hid (StT.load (P := Tryz.prog) (g := b) (o := of + j * 5) (W := wr) st_rel hs fun i u hu => belowCell hbw (ltOf (hc i u hu)) (hc i u hu))
            have HS1 := Lib.hid (StT.fresh st_rel hs (ef_rel.ones hv) (W := wr))
            have hbn := below_new (w := wr) (.cells cs 49)
            have hbx := heap_alloc_new wr (.cells cs 49)
            have hgx := belowBlk hbn hK.1.lts.1 hK.1.box
            have hcall := copyRel_any ((hv.below hbw).below hbn.drew) (rel_ok ht (List.getElem_mem hlt))
            have hid : i64R g.rels[j].id := HOK.out.2.2.2.1 _ (List.getElem_mem hlt)
            have hput : putBy RelD.id g.rels[j] (g.rels.take j) = g.rels.take (j + 1) := take_put RelD.id HOK.out.2.1 hlt
            have hlk : linkAll (fun _ => []) (g.rels.take (j + 1)) = linkK (linkK (linkAll (fun _ => []) (g.rels.take j)) g.rels[j].src g.rels[j].id) g.rels[j].dst g.rels[j].id := by rw [List.take_succ_eq_append_getElem hlt, linkAll_snoc]
            have hS0 : (wr.alloc (.cells cs 49)).drew.heap[B.gx]? = some (.cells (gBoxV B (madeJ g g.nodes.length j)) 72 (0, 0)) ∧ (wr.alloc (.cells cs 49)).drew.heap[wr.heap.size]? = some (.cells cs 49 (0, 0)) := ⟨hgx, hbx⟩
            have hfl : ∀ k, (linkAll (fun _ => []) (g.rels.take j) k).length + 3 ≤ 1100000 := fun k => by
              have := linkAll_len (fun _ => []) (g.rels.take j) k
              rw [List.length_take] at this
              have h3 := HOK.out.2.2.2.2
              simp only [List.length_nil] at this
              omega
            obtain ⟨pp, cp, ecs⟩ : ∃ pp cp, cs = relBox g.rels[j] pp cp := by obtain ⟨pp, cp, e, _⟩ := hv; exact ⟨pp, cp, e⟩
            have k0 : cs[0]? = some (.int .i64 g.rels[j].id) := by rw [ecs]; rfl
            have HY := Lib.hid (And.intro hK (And.intro hbn (And.intro hs (And.intro hcall (And.intro hid (And.intro hput (And.intro hlk (And.intro hS0 (And.intro hfl (And.intro ecs k0))))))))))
            generalize g.rels[j] = rj at *
            clear hK hb1 hx8 hsz hn hr ht hbw hs hc hv hbn hbx hgx hcall hid hput hlk hS0 hfl k0 ecs
            go_wp2_with (first
              | ((with_reducible apply op_load); exact HL1.out; exact rfl; clear HL1)
              | ((with_reducible apply op_store); exact HS1.out _ rfl; exact rfl; exact rfl; clear HS1))
            obtain ⟨hK, hbn, hs, hcall, hid, hput, hlk, hS0, hfl, ecs, k0⟩ := HY.out
            refine plain_region_draws (fun W => W.heap[B.gx]? = some (.cells (gBoxV B (madeJ g g.nodes.length j)) 72 (0, 0)) ∧ W.heap[wr.heap.size]? = some (.cells cs 49 (0, 0))) (by kernel_rfl) hS0 (fun hS => ?_)
            refine tk 0 47 (v := .pointer (some ⟨B.gx, 0, none⟩)) rfl rfl (fun W hW => exec_move rfl rfl) ?_
            simp only [Act.put, sA, sZ, sS]
            refine tk 1 48 (v := .pointer (some ⟨B.gx, 0, none⟩)) rfl rfl (fun W hW => rfl) ?_
            simp only [Act.put, sA, sZ, sS]
            refine tk 2 49 (v := .pointer (some ⟨B.gx, 1, none⟩)) rfl rfl (fun W hW => exec_fieldAddr rfl rfl (fa_graph 1 (by omega) _ W)) ?_
            simp only [Act.put, sA, sZ, sS]
            refine tk 3 50 (v := .map (some B.br)) rfl rfl (fun W hW => exec_load rfl rfl (run_load1 (w := W) Tryz.underlying69 rfl (cellOf (o := 1) hW.1 rfl))) ?_
            simp only [Act.put, sA, sZ, sS]
            refine tk 4 51 (v := .pointer (some ⟨wr.heap.size, 0, none⟩)) rfl rfl (fun W hW => exec_fieldAddr rfl rfl (fa_rel0 _ W)) ?_
            simp only [Act.put, sA, sZ, sS]
            refine tk 5 52 (v := .int .i64 rj.id) rfl rfl (fun W hW => exec_load rfl rfl (run_load1 (w := W) Tryz.underlying2 rfl (cellOf (o := 0) hW.2 k0))) ?_
            simp only [Act.put, sA, sZ, sS]
            refine tk 6 53 (v := .agg cs) rfl rfl (fun W hW => exec_load rfl rfl (st_rel.get (P := Tryz.prog) hs hW.2)) ?_
            simp only [Act.put, sA, sZ, sS]
            refine onlyCall 7 54 rfl rfl (by kernel_rfl) rfl (exec_call [.agg cs] rfl rfl Tryz.func40 (by kernel_rfl) (by kernel_rfl)) ?_
            refine hcall.mono ?_
            rintro e W7 ⟨x7, rfl, hx7, hb7⟩
            have hb8 := below_trans hbn.drew hb7
            obtain ⟨W8, m1, m2, m3⟩ := hK.rel hb8 (el_rel.imp (fun b _ hb => by have := hbn.size; exact Nat.le_trans this hb) hx7) hid
            rw [show ({ madeJ g g.nodes.length j with rels := putBy RelD.id rj (madeJ g g.nodes.length j).rels } : GS) = ⟨g.nodes.take g.nodes.length, g.rels.take (j + 1), linkAll (fun _ => []) (g.rels.take j), g.nextNode, g.nextRel⟩ from by unfold madeJ; rw [hput]] at m2
            have hS7 : W7.heap[B.gx]? = some (.cells (gBoxV B (madeJ g g.nodes.length j)) 72 (0, 0)) ∧ W7.heap[wr.heap.size]? = some (.cells cs 49 (0, 0)) := ⟨belowBlk hb7 (Array.getElem?_eq_some_iff.1 hS0.1).1 hS0.1, belowBlk hb7 (Array.getElem?_eq_some_iff.1 hS0.2).1 hS0.2⟩
            refine ⟨_, rfl, .inr hS7, ?_⟩
            simp only [Act.put, sA, sZ, sS]
            refine onlySkip 8 rfl rfl (by kernel_rfl) rfl (exec_mapUpdate rfl rfl rfl rfl m1) (.inl (by kernel_rfl)) ?_
            refine done (by kernel_rfl) ?_ _
            have hs8 : W8.heap[wr.heap.size]? = some (.cells cs 49 (0, 0)) := (m3.block _ (Array.getElem?_eq_some_iff.1 hS7.2).1 (by have := hK.1.lts.2.2.1; omega)).trans hS7.2
            have HLD := Lib.hid (st_rel.get (P := Tryz.prog) hs hs8)
            have hlink := link_any m2.1.box m2.1.adj (fun b hb => Nat.le_trans m2.2.size hb) rj pp cp hfl
            rw [← ecs] at hlink
            have HLK := Lib.hid hlink
            have HN := Lib.hid (And.intro m2 hlk)
            clear hK hbn hs hcall hid hput hlk hS0 hfl k0 ecs hS HY HJ m1 m2 m3 hS7 hb7 hb8 hx7 hs8 hlink
            go_wp2_with (first
              | ((with_reducible apply op_load); exact HLD.out; exact rfl; clear HLD)
              | (go_at_call 41
                 (
                  refine HLK.out.mono ?_
                  rintro e W9 ⟨rfl, hl9⟩
                  obtain ⟨ma9, hk9⟩ := HN.out.1.link hl9
                  have HN9 := Lib.hid (show ∃ ma, KInv wA W9 B ma (madeJ g g.nodes.length (j + 1)) from ⟨ma9, by unfold madeJ; rw [HN.out.2]; exact hk9⟩)
                  clear hl9 hk9 HLK HN)))
            go_roundw
            case rel => exact ⟨j + 1, hlt1, by go_num, HN9⟩
            case measure => simp [intOf]; omega
          · obtain rfl : j = g.rels.length := by omega
            go_wp2
            go_ret2
            obtain ⟨ma, h1, h2⟩ := HJ.out
            obtain ⟨hb1, hx8, hsz, hn, hr, ht⟩ := HX.out
            refine ⟨below_trans hb1 h2, fun h => (Bool.false_ne_true h.symm).elim, fun _ => ⟨B, ma, rfl, ?_⟩⟩
            have e : madeJ g g.nodes.length g.rels.length = madeG g := by unfold madeJ madeG; rw [List.take_length, List.take_length]
            rw [e] at h1
            exact h1.imp fun b _ hb => by have := hb1.size; omega
end Go.Proofs.YtihfnegakcghiaaGreatDoor
namespace Go.Proofs.YtihfnegakcghiaaGreatDoor
open Go.RowKit
theorem none_no {w : World} {B : GB} {s : GS} (h : w.heap[B.gx]? = some (.cells (gBoxV B s) 72 (0, 0))) : Calls Tryz.prog 42 #[.pointer (some ⟨B.gx, 0, none⟩)] w fun e w' => e = .returned (.bool false) ∧ w' = w := by
  have p0 : w.cell? ⟨B.gx, 0, none⟩ = some (.map (some B.bn)) := cellOf (o := 0) h rfl
  clear h
  have hq : ∀ W : World, (binOp .eql 68 (.map (some B.bn)) (.map none)).run Tryz.prog W = .ok (.bool false) W := fun W => by
    have he := run_equal_map_nil (P := Tryz.prog) (w := W) 68 _ _ (some B.bn) Tryz.underlying68
    simp [binOp, go_sem, he]
  go_enter Tryz.func42, Tryz.ntmps42
  go_wp2
  go_ret
  exact ⟨rfl, rfl⟩
def grZ : Array Value := #[.slice none 0 0, .slice none 0 0, .int .i64 0, .int .i64 0]
theorem exec_allocGr {a : Act} {w : World} {o : Oper} (ho : o.op = .alloc 25) : (execOp a.eval o).run Tryz.prog w = .ok (.value (.pointer (some ⟨w.heap.size, 0, none⟩))) (w.alloc (.cells grZ 25)) := by
  unfold execOp
  simp [ho, go_sem, grZ]
theorem exec_buildGr {a : Act} {w : World} {o : Oper} {x0 x1 : Operand} {n m : Int} (ho : o.op = .build 25 #[(2, x0), (3, x1)]) (h0 : a.eval x0 = .int .i64 n) (h1 : a.eval x1 = .int .i64 m) : (execOp a.eval o).run Tryz.prog w = .ok (.value (.agg #[.slice none 0 0, .slice none 0 0, .int .i64 n, .int .i64 m])) w := by
  unfold execOp; simp [ho, go_sem, h0, h1, Act.eval] at h0 h1 ⊢; simp [h0, h1]
theorem tell_push {α : Type} {E : World → (Nat → Prop) → α → Array Value → Prop} {K : Nat} {t T : TypeId} (hE : EL E K) (hG : GT Tryz.prog t T K) (hV : ∀ {W : World} {ad : Addr} {p : Option Addr} {n c : Nat} {u : Value}, W.cell? ad = some u → W.frozen? ad = false → (storeVar T ad (.slice p n c)).run Tryz.prog W = .ok () (W.setCell ad (.slice p n c))) {w2 W W2 : World} {c i : Nat} {cs : Array Value} {ov : Value} {l : List α} {v : α} {x : Array Value}
    (hI : GIn E t K (fun b => w2.heap.size ≤ b) W ov l) (hT : Touch (fun b => b = c) w2 W) (hc : W.heap[c]? = some (.cells cs 25 (0, 0))) (hcl : c < w2.heap.size) (hi : i < cs.size) (hb : Below W.heap.size W W2) (hx : E W2 (fun b => W.heap.size ≤ b) v x) (hm : l.length ≤ 1100000) :
    ∃ p cc W3, (Builtin.append_ #[T, T] T #[ov, .slice (some ⟨W2.heap.size, 0, none⟩) 1 1]).run Tryz.prog (W2.alloc (.cells x t)) = .ok (.slice p (l.length + 1) cc) W3 ∧ W3.heap[c]? = some (.cells cs 25 (0, 0)) ∧ (∀ b, b < W.heap.size → ov.ownBlock ≠ some b → W3.heap[b]? = W.heap[b]?) ∧
      (storeVar T ⟨c, i, none⟩ (.slice p (l.length + 1) cc)).run Tryz.prog W3 = .ok () (W3.setCell ⟨c, i, none⟩ (.slice p (l.length + 1) cc)) ∧
      GIn E t K (fun b => w2.heap.size ≤ b) (W3.setCell ⟨c, i, none⟩ (.slice p (l.length + 1) cc)) (.slice p (l.length + 1) cc) (l ++ [v]) ∧ Touch (fun b => b = c) w2 (W3.setCell ⟨c, i, none⟩ (.slice p (l.length + 1) cc)) ∧
      (W3.setCell ⟨c, i, none⟩ (.slice p (l.length + 1) cc)).heap[c]? = some (.cells (cs.setIfInBounds i (.slice p (l.length + 1) cc)) 25 (0, 0)) := by
  have hlt := hI.lt
  have hcW := (Array.getElem?_eq_some_iff.1 hc).1
  have hws : w2.heap.size ≤ W.heap.size := hT.size
  obtain ⟨v', W3, a1, a2, a3⟩ := hI.step (W1 := W2) (P' := fun b => w2.heap.size ≤ b) hE hG (fun b _ h => hb.block b h) hb.size (fun b _ h => h) (fun b h => by have := hb.size; omega) (hE.imp (fun b _ h => ⟨h, by omega⟩) hx) hm T
  obtain ⟨p, cc, rfl⟩ := a2.slice
  rw [List.length_append, List.length_cons, List.length_nil, Nat.zero_add] at a1 a2
  have hnew : Below W2.heap.size W2 (W2.alloc (.cells x t)) := below_new _
  have hold : ∀ b, b < W.heap.size → ov.ownBlock ≠ some b → W3.heap[b]? = W.heap[b]? := fun b h1 h2 => by
    have h3 := hb.size
    rw [a3.block b (by simp; omega) h2, hnew.block b (by omega), hb.block b h1]
  have hc3 : W3.heap[c]? = some (.cells cs 25 (0, 0)) := (hold c hcW fun e => by have := (hlt c e).2; omega).trans hc
  have hst := hV (W := W3) (ad := ⟨c, i, none⟩) (p := p) (n := l.length + 1) (c := cc) (cellOf (o := i) hc3 (Array.getElem?_eq_getElem hi)) (freeOf (o := i) hc3)
  have ho : ∀ b, b ≠ c → (W3.setCell ⟨c, i, none⟩ (.slice p (l.length + 1) cc)).heap[b]? = W3.heap[b]? := fun b hb => Below.heap_setCell _ ⟨c, i, none⟩ _ b hb
  refine ⟨p, cc, W3, a1, hc3, hold, hst, a2.kept hE (fun b h1 _ => ho b (by omega)) (fun b _ h => h), ?_, ?_⟩
  · have hT3 : Touch (fun b => b = c) w2 W3 := by
      have h1 : Touch (fun b => b = c) w2 (W2.alloc (.cells x t)) := (hT.grow hb).grow hnew
      exact h1.step a3 fun b h2 e => by have := (hlt b e).2; omega
    exact hT3.setCell (.inl (by exact rfl)) _
  · exact box_set _ hc3
theorem put_nodesT {w : World} {ad : Addr} {p : Option Addr} {n c : Nat} {u : Value} (hc : w.cell? ad = some u) (hf : w.frozen? ad = false) : (storeVar 22 ad (.slice p n c)).run Tryz.prog w = .ok () (w.setCell ad (.slice p n c)) := by
  simp [storeVar, go_sem, hc, hf]
theorem put_relsT {w : World} {ad : Addr} {p : Option Addr} {n c : Nat} {u : Value} (hc : w.cell? ad = some u) (hf : w.frozen? ad = false) : (storeVar 23 ad (.slice p n c)).run Tryz.prog w = .ok () (w.setCell ad (.slice p n c)) := by
  simp [storeVar, go_sem, hc, hf]
theorem fa_api (i : Nat) (h : i < 2) (b : Nat) (W : World) : (Instr.fieldAt 25 (.pointer (some ⟨b, 0, none⟩)) i).run Tryz.prog W = .ok (.pointer (some ⟨b, i, none⟩)) W := by
  match i, h with
  | 0, _ => simp [go_sem]
  | 1, _ => simp [go_sem]
theorem exec_allocGr9 {a : Act} {w : World} {o : Oper} {n : Nat} (ho : o.op = .alloc 25) (h : w.heap.size = n) : (execOp a.eval o).run Tryz.prog w = .ok (.value (.pointer (some ⟨n, 0, none⟩))) (w.alloc (.cells grZ 25)) := by subst h; exact exec_allocGr ho
def tellBox (ov rv : Value) (n m : Int) : Array Value := #[ov, rv, .int .i64 n, .int .i64 m]
theorem one_below {w w5 W : World} {c : Nat} (h : Below w.heap.size w w5) (hT : Touch (fun b => b = c) w5 W) (hc : w.heap.size ≤ c) : Below w.heap.size w W := hT.below h (fun b hb e => by omega) h.size
theorem tell_end {w W : World} {s : GS} {ov rv : Value} (h1 : GOwn NOwn 45 3 W (fun b => w.heap.size ≤ b ∧ b ≠ w.heap.size ∧ b ≠ w.heap.size + 1) ov s.nodes) (h2 : GOwn ROwn 49 5 W (fun b => w.heap.size ≤ b ∧ b ≠ w.heap.size ∧ b ≠ w.heap.size + 1) rv s.rels)
    (hx : W.heap[w.heap.size]? = some (.cells grZ 25 (0, 0))) (hc : W.heap[w.heap.size + 1]? = some (.cells (tellBox ov rv s.nn s.nr) 25 (0, 0))) (hb : Below w.heap.size w W) :
    (loadVar 25 ⟨w.heap.size + 1, 0, none⟩).run Tryz.prog W = .ok (.agg (tellBox ov rv s.nn s.nr)) W ∧ ∃ W9, (storeVar 25 ⟨w.heap.size, 0, none⟩ (.agg (tellBox ov rv s.nn s.nr))).run Tryz.prog W = .ok () W9 ∧ (loadVar 25 ⟨w.heap.size, 0, none⟩).run Tryz.prog W9 = .ok (.agg (tellBox ov rv s.nn s.nr)) W9 ∧
      GrOwn W9 (fun b => w.heap.size ≤ b) s.graph (tellBox ov rv s.nn s.nr) ∧ Below w.heap.size w W9 := by
  have o1 : ov.oneCell' = true := by obtain ⟨xs, h, _⟩ := h1; exact own_one h
  have o2 : rv.oneCell' = true := by obtain ⟨xs, h, _⟩ := h2; exact own_one h
  have h1c : ∀ u ∈ (tellBox ov rv s.nn s.nr).toList, u.oneCell' = true := fun u hu => by
    simp only [tellBox, List.mem_cons, List.not_mem_nil, or_false] at hu
    rcases hu with rfl | rfl | rfl | rfl <;> first | assumption | rfl
  have hk : ∀ b, b ≠ w.heap.size → (W.setRow w.heap.size (tellBox ov rv s.nn s.nr)).heap[b]? = W.heap[b]? := fun b hb => setRow_other W _ b _ hb
  exact ⟨StT.get (P := Tryz.prog) st_graph rfl hc, _, StT.put (P := Tryz.prog) st_graph rfl h1c hx rfl, StT.get (P := Tryz.prog) st_graph rfl (setRow_heap W _ _ _ _ _ hx),
    ⟨_, _, rfl, (h1.keep el_node fun b hb _ => hk b hb.2.1).imp el_node fun b _ hb => hb.1, (h2.keep el_rel fun b hb _ => hk b hb.2.1).imp el_rel fun b _ hb => hb.1⟩, below_row hb (Nat.le_refl _) _⟩
theorem node_okT {n : NodeD} (h : NOk n) : n.labels.length ≤ 1100000 ∧ PsOk n.props := ⟨h.1, h.2.2⟩
theorem rel_okT {n : RelD} (h : ROk n) : PsOk n.props := h.2
theorem ids_at {α : Type} (id : α → Int) {w : World} {base : Nat} {v : Value} {l : List α} (h : w.ownsRow base 2 1 v l.length ((l.map id).map (Value.int .i64))) : ∃ p c, v = .slice p l.length c ∧ l.length ≤ c ∧ c ≤ 9223372036854775807 ∧ ∀ j (hj : j < l.length), ∃ g, p = some ⟨g, 0, none⟩ ∧ g < w.heap.size ∧ base ≤ g ∧ ∃ cs, w.heap[g]? = some (.cells cs 2 (0, 0)) ∧ cs[j]? = some (.int .i64 (id l[j])) := by
  rcases h.2 with ⟨rfl, h0⟩ | ⟨g, c, cur, rfl, hb, hg, hnc, hcm, hs, ht⟩
  · refine ⟨none, 0, by rw [h0], by omega, by omega, fun j hj => by omega⟩
  · refine ⟨_, c, rfl, hnc, by unfold maxLen at hcm; omega, fun j hj => ⟨g, rfl, (Array.getElem?_eq_some_iff.1 hg).1, hb, cur, hg, ?_⟩⟩
    rw [Nat.mul_one] at ht
    have h1 : ((l.map id).map (Value.int .i64))[j]? = cur.toList[j]? := by rw [← ht, List.getElem?_take, if_pos hj]
    rw [← Array.getElem?_toList, ← h1, List.getElem?_map, List.getElem?_map, List.getElem?_eq_getElem hj]
    rfl
theorem tellG_any {S : Nat → Prop} {w : World} {B : GB} {ma : Int → Option Value} {s : GS} (h : GM S w B ma s) (hn : ∀ n ∈ s.nodes, NOk n) (hr : ∀ n ∈ s.rels, ROk n) (hl1 : s.nodes.length ≤ 900000) (hl2 : s.rels.length ≤ 900000) :
    Calls Tryz.prog 16 #[.pointer (some ⟨B.gx, 0, none⟩)] w fun e w' => ∃ x, e = .returned (.agg x) ∧ GrOwn w' (fun b => w.heap.size ≤ b) s.graph x ∧ Below w.heap.size w w' := by
  have hb1 := below_new (w := w) (.cells grZ 25)
  have hx1 := heap_alloc_new w (.cells grZ 25)
  have hH1 := h.below hb1
  have HN0 := Lib.hid (none_no hH1.box)
  have hS0 : (w.alloc (.cells grZ 25)).drew.heap[B.gx]? = some (.cells (gBoxV B s) 72 (0, 0)) := hH1.box
  have HST := Lib.hid (StT.fresh (P := Tryz.prog) (cs := #[.slice none 0 0, .slice none 0 0, .int .i64 s.nn, .int .i64 s.nr]) st_graph rfl (by simp [Value.oneCell']) (W := (w.alloc (.cells grZ 25)).drew))
  have hb3 := below_new (w := (w.alloc (.cells grZ 25)).drew) (.cells #[.slice none 0 0, .slice none 0 0, .int .i64 s.nn, .int .i64 s.nr] 25)
  have hx3 := heap_alloc_new (w.alloc (.cells grZ 25)).drew (.cells #[.slice none 0 0, .slice none 0 0, .int .i64 s.nn, .int .i64 s.nr] 25)
  have hz1 : (w.alloc (.cells grZ 25)).drew.heap.size = w.heap.size + 1 := by simp
  rw [hz1] at hx3
  have hx13 := belowBlk hb3 (by rw [hz1]; omega) (show (w.alloc (.cells grZ 25)).drew.heap[w.heap.size]? = _ from hx1)
  have hbw3 := below_trans hb1.drew hb3
  have hz3 : ((w.alloc (.cells grZ 25)).drew.alloc (.cells #[.slice none 0 0, .slice none 0 0, .int .i64 s.nn, .int .i64 s.nr] 25)).heap.size = w.heap.size + 2 := by simp
  have HX := Lib.hid (And.intro hx3 (And.intro hx13 (And.intro hbw3 (And.intro hz3 (h.below hbw3)))))
  have HS0 := Lib.hid hS0
  have HTN := Lib.hid (And.intro hn (And.intro hr (And.intro hl1 hl2)))
  have HG0 := Lib.hid h
  have HZ1 := Lib.hid hz1
  clear hb1 hx1 hH1 hS0 hb3 hx3 hz1 hx13 hbw3 hz3 hn hr hl1 hl2 h
  go_enter Tryz.func16, Tryz.ntmps16
  go_wp2_with (go_at_call 42; refine HN0.out.mono ?_; rintro e w' ⟨rfl, rfl⟩; clear HN0)
  obtain ⟨hx3, hx13, hbw3, hz3, hG3⟩ := HX.out
  have hS9 : ((w.alloc (.cells grZ 25)).drew.alloc (.cells grZ 25)).heap[B.gx]? = some (.cells (gBoxV B s) 72 (0, 0)) := belowBlk (below_new _) (Array.getElem?_eq_some_iff.1 HS0.out).1 HS0.out
  have hS0 := HS0.out
  refine plain_region_draws (fun W => W.heap[B.gx]? = some (.cells (gBoxV B s) 72 (0, 0))) (by kernel_rfl) hS0 (fun hS => ?_)
  refine tk 0 11 (v := .pointer (some ⟨B.gx, 0, none⟩)) rfl rfl (fun W hW => exec_move rfl rfl) ?_
  simp only [Act.put, sA, sZ, sS]
  refine tk 1 12 (v := .pointer (some ⟨B.gx, 0, none⟩)) rfl rfl (fun W hW => rfl) ?_
  simp only [Act.put, sA, sZ, sS]
  refine tk 2 13 (v := .pointer (some ⟨B.gx, 3, none⟩)) rfl rfl (fun W hW => exec_fieldAddr rfl rfl (fa_graph 3 (by omega) _ W)) ?_
  simp only [Act.put, sA, sZ, sS]
  refine tk 3 14 (v := .int .i64 s.nn) rfl rfl (fun W hW => exec_load rfl rfl (run_load1 (w := W) Tryz.underlying2 rfl (cellOf (o := 3) hW rfl))) ?_
  simp only [Act.put, sA, sZ, sS]
  refine tk 4 15 (v := .pointer (some ⟨B.gx, 0, none⟩)) rfl rfl (fun W hW => exec_move rfl rfl) ?_
  simp only [Act.put, sA, sZ, sS]
  refine tk 5 16 (v := .pointer (some ⟨B.gx, 0, none⟩)) rfl rfl (fun W hW => rfl) ?_
  simp only [Act.put, sA, sZ, sS]
  refine tk 6 17 (v := .pointer (some ⟨B.gx, 4, none⟩)) rfl rfl (fun W hW => exec_fieldAddr rfl rfl (fa_graph 4 (by omega) _ W)) ?_
  simp only [Act.put, sA, sZ, sS]
  refine tk 7 18 (v := .int .i64 s.nr) rfl rfl (fun W hW => exec_load rfl rfl (run_load1 (w := W) Tryz.underlying2 rfl (cellOf (o := 4) hW rfl))) ?_
  simp only [Act.put, sA, sZ, sS]
  refine tk 8 19 (v := .agg #[.slice none 0 0, .slice none 0 0, .int .i64 s.nn, .int .i64 s.nr]) rfl rfl (fun W hW => exec_buildGr rfl rfl rfl) ?_
  simp only [Act.put, sA, sZ, sS]
  refine onlyRun 9 3 (v := .pointer (some ⟨w.heap.size + 1, 0, none⟩)) rfl rfl (by kernel_rfl) rfl (exec_allocGr9 rfl HZ1.out) (.inr (by assumption)) ?_
  simp only [Act.put, sA, sZ, sS]
  refine onlySkip 10 rfl rfl (by kernel_rfl) rfl (exec_store rfl rfl rfl (by rw [← HZ1.out]; exact HST.out _ rfl)) (.inl (by kernel_rfl)) ?_
  refine done (by kernel_rfl) ?_ _
  clear hS hS9 hS0 HS0 HST HZ1 HX
  generalize (w.alloc (.cells grZ 25)).drew.alloc (.cells #[.slice none 0 0, .slice none 0 0, .int .i64 s.nn, .int .i64 s.nr] 25) = w3 at *
  have HLM := Lib.hid (run_load1 (w := w3) (ad := ⟨B.gx, 0, none⟩) (v := .map (some B.bn)) Tryz.underlying68 rfl (cellOf (o := 0) hG3.box rfl))
  have HG3 := Lib.hid hG3
  have HX3 := Lib.hid (And.intro hx3 (And.intro hx13 (And.intro hbw3 hz3)))
  clear hx3 hx13 hbw3 hz3 hG3
  go_wp2_with (first
    | ((with_reducible apply op_load); exact HLM.out; exact rfl; clear HLM)
    | (go_at_call 52; refine (keysN_any (some B.bn) _).mono ?_; rintro e w4 ⟨rfl, rfl⟩)
    | (go_at_call 51
       (
        have hb4 := below_new (w := w3) (.cells #[.map (some B.bn)] 68)
        refine (sortedN_any ((HG3.out.below hb4).nodes) (by have := HTN.out.2.2.1; omega) (heap_alloc_new w3 _)).mono ?_
        rintro e w5 ⟨v, rfl, hrow, hb5⟩
        have hz4 : (w3.alloc (.cells #[.map (some B.bn)] 68)).heap.size = w.heap.size + 3 := by rw [World.size_alloc, HX3.out.2.2.2]
        rw [hz4] at hrow
        obtain ⟨pi, ci, rfl, hc1, hc2, hids⟩ := ids_at NodeD.id hrow
        have hb35 := below_trans hb4 hb5
        have HT5 := Lib.hid (show (∀ j (hj : j < s.nodes.length), ∃ g, pi = some ⟨g, 0, none⟩ ∧ g < w5.heap.size ∧ w.heap.size + 3 ≤ g ∧ ∃ cs, w5.heap[g]? = some (.cells cs 2 (0, 0)) ∧ cs[j]? = some (.int .i64 s.nodes[j].id)) ∧ Below w.heap.size w w5 ∧ w5.heap[w.heap.size]? = some (.cells grZ 25 (0, 0)) ∧ w5.heap[w.heap.size + 1]? = some (.cells (tellBox (.slice none 0 0) (.slice none 0 0) s.nn s.nr) 25 (0, 0)) ∧ w.heap.size + 3 ≤ w5.heap.size from
          ⟨hids, below_trans HX3.out.2.2.1 hb35, belowBlk hb35 (Array.getElem?_eq_some_iff.1 HX3.out.2.1).1 HX3.out.2.1, belowBlk hb35 (Array.getElem?_eq_some_iff.1 HX3.out.1).1 HX3.out.1, by have := hb5.size; omega⟩)
        clear hb4 hrow hids hb35 hz4 hb5 HX3 HG3)))
  have z1 : (s.nodes.length : Int) ≤ 900000 := by have := HTN.out.2.2.1; omega
  have z2 : (s.rels.length : Int) ≤ 900000 := by have := HTN.out.2.2.2; omega
  have HI0 := Lib.hid (show ∃ po co, GIn NOwn 45 3 (fun b => w5.heap.size ≤ b) w5 (.slice po (s.nodes.take 0).length co) (s.nodes.take 0) ∧ Touch (fun b => b = w.heap.size + 1) w5 w5 ∧ w5.heap[w.heap.size + 1]? = some (.cells (tellBox (.slice po (s.nodes.take 0).length co) (.slice none 0 0) s.nn s.nr) 25 (0, 0)) from ⟨none, 0, GIn.start, Touch.refl _ _, HT5.out.2.2.2.1⟩)
  go_loopw [27] (fun i wr => ∃ j : Nat, j ≤ s.nodes.length ∧ i = .int .i64 (j : Int) ∧ Hid (∃ po co, GIn NOwn 45 3 (fun b => w5.heap.size ≤ b) wr (.slice po (s.nodes.take j).length co) (s.nodes.take j) ∧ Touch (fun b => b = w.heap.size + 1) w5 wr ∧ wr.heap[w.heap.size + 1]? = some (.cells (tellBox (.slice po (s.nodes.take j).length co) (.slice none 0 0) s.nn s.nr) 25 (0, 0)))) (fun i _ => s.nodes.length - (intOf i).toNat)
  case atStart => exact ⟨0, Nat.zero_le _, rfl, HI0⟩
  case round =>
    obtain ⟨j, hj, rfl, HJ⟩ := hrel
    by_cases hlt : j < s.nodes.length
    · have hlt1 := Nat.succ_le_of_lt hlt
      obtain ⟨po, co, hI, hT, hc⟩ := HJ.out
      obtain ⟨hids, hb05, hx5, hc5, hz5⟩ := HT5.out
      obtain ⟨g, e1, hg2, hg3, cs, hg4, hg5⟩ := hids j hlt
      subst e1
      have hbr := one_below hb05 hT (Nat.le_succ _)
      have hGr : GM S wr B ma s := HG0.out.below hbr
      have hig : wr.heap[g]? = some (.cells cs 2 (0, 0)) := (hT.block g hg2 (by omega)).trans hg4
      have HC := Lib.hid (run_load1 (w := wr) (ad := ⟨g, j, none⟩) Tryz.underlying2 rfl (cellOf (o := j) hig hg5))
      obtain ⟨m, hm1, hm2, hm3, hm4, hm5⟩ := hGr.nodes
      obtain ⟨xn, exn, hxn⟩ := hm5 _ (List.getElem_mem hlt)
      have htn := HTN.out.1 _ (List.getElem_mem hlt)
      have hlk : ∀ W : World, IntMap W B.bn m → (Instr.lookup 68 (.map (some B.bn)) (.int .i64 s.nodes[j].id) false).run Tryz.prog W = .ok (.agg xn) W := fun W hW => by rw [run_lookup_int hW Tryz.underlying68 Tryz.underlying2 Tryz.zeroValue45, exn]; rfl
      have hok := node_okT htn
      have hcall := copyNode_any ((hxn.rdO htn).below (Below.refl _ wr).drew) hok.1 hok.2
      have htk : s.nodes.take (j + 1) = s.nodes.take j ++ [s.nodes[j]] := List.take_succ_eq_append_getElem hlt
      have hl1 : (s.nodes.take j).length ≤ 1100000 := by rw [List.length_take]; have := HTN.out.2.2.1; omega
      have hS0 : wr.drew.heap[w.heap.size + 1]? = some (.cells (tellBox (.slice po (s.nodes.take j).length co) (.slice none 0 0) s.nn s.nr) 25 (0, 0)) ∧ wr.drew.heap[B.gx]? = some (.cells (gBoxV B s) 72 (0, 0)) ∧ IntMap wr.drew B.bn m := ⟨hc, hGr.box, hm1.of_heap rfl⟩
      have hlts := hGr.lts
      have hgw := HG0.out.lts
      have HY := Lib.hid (And.intro hI (And.intro hT (And.intro hc (And.intro hlk (And.intro hcall (And.intro htk (And.intro hl1 (And.intro hS0 (And.intro hlts (And.intro hgw (And.intro hb05.size hz5)))))))))))
      generalize s.nodes[j] = nj at *
      clear hids hb05 hx5 hc5 hz5 hg2 hg3 hg4 hg5 hbr hGr hig hm1 hm2 hm3 hm4 hm5 exn hxn htn hlk hok hcall htk hl1 hS0 hlts hgw hI hT hc
      go_wp2_with ((with_reducible apply op_load); exact HC.out; exact rfl; clear HC)
      obtain ⟨hI, hT, hc, hlk, hcall, htk, hl1, hS0, hlts, hgw, hz0, hz5⟩ := HY.out
      refine plain_region_draws (fun W => W.heap[w.heap.size + 1]? = some (.cells (tellBox (.slice po (s.nodes.take j).length co) (.slice none 0 0) s.nn s.nr) 25 (0, 0)) ∧ W.heap[B.gx]? = some (.cells (gBoxV B s) 72 (0, 0)) ∧ IntMap W B.bn m) (by kernel_rfl) hS0 (fun hS => ?_)
      refine tk 0 31 (v := .pointer (some ⟨w.heap.size + 1, 0, none⟩)) rfl rfl (fun W hW => exec_fieldAddr rfl rfl (fa_api 0 (by omega) _ W)) ?_
      simp only [Act.put, sA, sZ, sS]
      refine tk 1 32 (v := .slice po (s.nodes.take j).length co) rfl rfl (fun W hW => exec_load rfl rfl (run_load1 (w := W) Tryz.underlying22 rfl (cellOf (o := 0) hW.1 rfl))) ?_
      simp only [Act.put, sA, sZ, sS]
      refine tk 2 33 (v := .pointer (some ⟨B.gx, 0, none⟩)) rfl rfl (fun W hW => exec_move rfl rfl) ?_
      simp only [Act.put, sA, sZ, sS]
      refine tk 3 34 (v := .pointer (some ⟨B.gx, 0, none⟩)) rfl rfl (fun W hW => rfl) ?_
      simp only [Act.put, sA, sZ, sS]
      refine tk 4 35 (v := .pointer (some ⟨B.gx, 0, none⟩)) rfl rfl (fun W hW => exec_fieldAddr rfl rfl (fa_graph 0 (by omega) _ W)) ?_
      simp only [Act.put, sA, sZ, sS]
      refine tk 5 36 (v := .map (some B.bn)) rfl rfl (fun W hW => exec_load rfl rfl (run_load1 (w := W) Tryz.underlying68 rfl (cellOf (o := 0) hW.2.1 rfl))) ?_
      simp only [Act.put, sA, sZ, sS]
      refine tk 6 37 (v := .int .i64 nj.id) rfl rfl (fun W hW => exec_move rfl rfl) ?_
      simp only [Act.put, sA, sZ, sS]
      refine tk 7 38 (v := .agg xn) rfl rfl (fun W hW => exec_lookup rfl rfl rfl (hlk W hW.2.2)) ?_
      simp only [Act.put, sA, sZ, sS]
      refine onlyCall 8 39 rfl rfl (by kernel_rfl) rfl (exec_call [.agg xn] rfl rfl Tryz.func39 (by kernel_rfl) (by kernel_rfl)) ?_
      refine hcall.mono ?_
      rintro e W8 ⟨x8, rfl, hx8, hb8⟩
      have hbw8 := below_trans (Below.refl _ wr).drew hb8
      have hbs : (Instr.buildSlice 22 1 #[(0, .agg x8)]).run Tryz.prog W8 = .ok (.slice (some ⟨W8.heap.size, 0, none⟩) 1 1) (W8.alloc (.cells x8 45)) := run_buildSlice_one Tryz.underlying22 Tryz.sizeOf45 Tryz.zeroValue45 (el_node.size hx8) (by omega) (by omega)
      obtain ⟨pq, cq, W10, a1, a2, a3, a4, a5, a6, a7⟩ := tell_push (i := 0) el_node gt_node (fun h1 h2 => put_nodesT h1 h2) hI hT hc (by omega) (by simp [tellBox]) hbw8 hx8 hl1
      have hS8 : W8.heap[w.heap.size + 1]? = some (.cells (tellBox (.slice po (s.nodes.take j).length co) (.slice none 0 0) s.nn s.nr) 25 (0, 0)) ∧ W8.heap[B.gx]? = some (.cells (gBoxV B s) 72 (0, 0)) ∧ IntMap W8 B.bn m := ⟨belowBlk hb8 (Array.getElem?_eq_some_iff.1 hS0.1).1 hS0.1, belowBlk hb8 (Array.getElem?_eq_some_iff.1 hS0.2.1).1 hS0.2.1, hS0.2.2.grow hb8⟩
      have hS9 : (W8.alloc (.cells x8 45)).heap[w.heap.size + 1]? = some (.cells (tellBox (.slice po (s.nodes.take j).length co) (.slice none 0 0) s.nn s.nr) 25 (0, 0)) ∧ (W8.alloc (.cells x8 45)).heap[B.gx]? = some (.cells (gBoxV B s) 72 (0, 0)) ∧ IntMap (W8.alloc (.cells x8 45)) B.bn m := ⟨belowBlk (below_new _) (Array.getElem?_eq_some_iff.1 hS8.1).1 hS8.1, belowBlk (below_new _) (Array.getElem?_eq_some_iff.1 hS8.2.1).1 hS8.2.1, hS8.2.2.grow (below_new _)⟩
      have hS10 : W10.heap[w.heap.size + 1]? = some (.cells (tellBox (.slice po (s.nodes.take j).length co) (.slice none 0 0) s.nn s.nr) 25 (0, 0)) ∧ W10.heap[B.gx]? = some (.cells (gBoxV B s) 72 (0, 0)) ∧ IntMap W10 B.bn m := ⟨a2, (a3 _ hlts.1 (fun e => by have := (hI.lt _ e).2; omega)).trans hS0.2.1, hS0.2.2.of_heap (a3 _ hlts.2.1 (fun e => by have := (hI.lt _ e).2; omega))⟩
      refine ⟨_, rfl, .inr hS8, ?_⟩
      simp only [Act.put, sA, sZ, sS]
      refine onlyRun 9 40 (v := .slice (some ⟨W8.heap.size, 0, none⟩) 1 1) rfl rfl (by kernel_rfl) rfl (exec_buildSlice1 rfl rfl hbs) (.inr (by assumption)) ?_
      simp only [Act.put, sA, sZ, sS]
      refine onlyRun 10 41 (v := .slice pq ((s.nodes.take j).length + 1) cq) rfl rfl (by kernel_rfl) rfl (exec_append rfl rfl rfl a1) (.inr (by assumption)) ?_
      simp only [Act.put, sA, sZ, sS]
      refine tk 11 42 (v := .pointer (some ⟨w.heap.size + 1, 0, none⟩)) rfl rfl (fun W hW => exec_fieldAddr rfl rfl (fa_api 0 (by omega) _ W)) ?_
      simp only [Act.put, sA, sZ, sS]
      refine onlySkip 12 rfl rfl (by kernel_rfl) rfl (exec_store rfl rfl rfl a4) (.inl (by kernel_rfl)) ?_
      refine done (by kernel_rfl) ?_ _
      have HN := Lib.hid (show ∃ po co, GIn NOwn 45 3 (fun b => w5.heap.size ≤ b) (W10.setCell ⟨w.heap.size + 1, 0, none⟩ (.slice pq ((s.nodes.take j).length + 1) cq)) (.slice po (s.nodes.take (j + 1)).length co) (s.nodes.take (j + 1)) ∧ Touch (fun b => b = w.heap.size + 1) w5 (W10.setCell ⟨w.heap.size + 1, 0, none⟩ (.slice pq ((s.nodes.take j).length + 1) cq)) ∧ (W10.setCell ⟨w.heap.size + 1, 0, none⟩ (.slice pq ((s.nodes.take j).length + 1) cq)).heap[w.heap.size + 1]? = some (.cells (tellBox (.slice po (s.nodes.take (j + 1)).length co) (.slice none 0 0) s.nn s.nr) 25 (0, 0)) from by
        rw [show (s.nodes.take (j + 1)).length = (s.nodes.take j).length + 1 by rw [htk]; simp, htk]
        exact ⟨pq, cq, a5, a6, a7⟩)
      generalize W10.setCell ⟨w.heap.size + 1, 0, none⟩ (.slice pq ((s.nodes.take j).length + 1) cq) = W11 at HN ⊢
      clear hI hT hc hlk hcall htk hl1 hS0 hlts hgw hz0 hz5 hS HY HJ a1 a2 a3 a4 a5 a6 a7 hbs hx8 hb8 hS8 hS9 hS10 hbw8
      go_wp2
      go_roundw
      case rel => exact ⟨j + 1, hlt1, by go_num, HN⟩
      case measure => simp [intOf]; omega
    · obtain rfl : j = s.nodes.length := by omega
      obtain ⟨pn, cn, hI, hT, hc⟩ := HJ.out
      rw [List.take_length] at hI hc
      obtain ⟨hids, hb05, hx5, hc5, hz5⟩ := HT5.out
      have hbr := one_below hb05 hT (Nat.le_succ _)
      have hon := (hI.own el_node).imp (P' := fun b => w.heap.size ≤ b ∧ b ≠ w.heap.size ∧ b ≠ w.heap.size + 1) el_node fun b _ hb => by have hb' : w5.heap.size ≤ b := hb; omega
      have hx6 := (hT.block _ (Array.getElem?_eq_some_iff.1 hx5).1 (by omega)).trans hx5
      have hzr : w.heap.size + 3 ≤ wr.heap.size := Nat.le_trans hz5 hT.size
      have HLM2 := Lib.hid (run_load1 (w := wr) (ad := ⟨B.gx, 1, none⟩) (v := .map (some B.br)) Tryz.underlying69 rfl (cellOf (o := 1) (HG0.out.below hbr).box rfl))
      have HX6 := Lib.hid (And.intro hon (And.intro hx6 (And.intro hc (And.intro hbr hzr))))
      clear hI hT hc hids hb05 hx5 hc5 hz5 hbr hon hx6 hzr HJ HT5 HI0
      go_wp2_with (first
        | ((with_reducible apply op_load); exact HLM2.out; exact rfl; clear HLM2)
        | (go_at_call 53; refine (keysR_any (some B.br) _).mono ?_; rintro e w4 ⟨rfl, rfl⟩)
        | (go_at_call 51
           (
            have hb4 := below_new (w := wr) (.cells #[.map (some B.br)] 69)
            have hz4 : (wr.alloc (.cells #[.map (some B.br)] 69)).heap.size = wr.heap.size + 1 := by rw [World.size_alloc]
            obtain ⟨hon, hx6, hc6, hbr, hzr⟩ := HX6.out
            refine (sortedR_any (((HG0.out.below hbr).below hb4).rels) (by have := HTN.out.2.2.2; omega) (heap_alloc_new wr _)).mono ?_
            rintro e w7 ⟨v, rfl, hrow, hb5⟩
            obtain ⟨pi, ci, rfl, hc1, hc2, hids⟩ := ids_at RelD.id hrow
            have hb35 := below_trans hb4 hb5
            have HT7 := Lib.hid (show (∀ j (hj : j < s.rels.length), ∃ g, pi = some ⟨g, 0, none⟩ ∧ g < w7.heap.size ∧ w.heap.size + 3 ≤ g ∧ ∃ cs, w7.heap[g]? = some (.cells cs 2 (0, 0)) ∧ cs[j]? = some (.int .i64 s.rels[j].id)) ∧ Below w.heap.size w w7 ∧ w7.heap[w.heap.size]? = some (.cells grZ 25 (0, 0)) ∧ w7.heap[w.heap.size + 1]? = some (.cells (tellBox (.slice pn s.nodes.length cn) (.slice none 0 0) s.nn s.nr) 25 (0, 0)) ∧ w.heap.size + 3 ≤ w7.heap.size ∧ GOwn NOwn 45 3 w7 (fun b => w.heap.size ≤ b ∧ b ≠ w.heap.size ∧ b ≠ w.heap.size + 1) (.slice pn s.nodes.length cn) s.nodes from
              ⟨fun j hj => by
                obtain ⟨g, e1, e2, e3, cs, e4, e5⟩ := hids j hj
                exact ⟨g, e1, e2, by omega, cs, e4, e5⟩, below_trans hbr hb35, belowBlk hb35 (Array.getElem?_eq_some_iff.1 hx6).1 hx6, belowBlk hb35 (Array.getElem?_eq_some_iff.1 hc6).1 hc6, by have := hb5.size; omega, hon.below el_node hb35⟩)
            clear hb4 hrow hids hb35 hz4 hb5 HX6 hon hx6 hc6 hbr hzr)))
      have HI0 := Lib.hid (show ∃ po co, GIn ROwn 49 5 (fun b => w7.heap.size ≤ b) w7 (.slice po (s.rels.take 0).length co) (s.rels.take 0) ∧ Touch (fun b => b = w.heap.size + 1) w7 w7 ∧ w7.heap[w.heap.size + 1]? = some (.cells (tellBox (.slice pn s.nodes.length cn) (.slice po (s.rels.take 0).length co) s.nn s.nr) 25 (0, 0)) from ⟨none, 0, GIn.start, Touch.refl _ _, HT7.out.2.2.2.1⟩)
      go_loopw [51] (fun i wr => ∃ j : Nat, j ≤ s.rels.length ∧ i = .int .i64 (j : Int) ∧ Hid (∃ po co, GIn ROwn 49 5 (fun b => w7.heap.size ≤ b) wr (.slice po (s.rels.take j).length co) (s.rels.take j) ∧ Touch (fun b => b = w.heap.size + 1) w7 wr ∧ wr.heap[w.heap.size + 1]? = some (.cells (tellBox (.slice pn s.nodes.length cn) (.slice po (s.rels.take j).length co) s.nn s.nr) 25 (0, 0)))) (fun i _ => s.rels.length - (intOf i).toNat)
      case atStart => exact ⟨0, Nat.zero_le _, rfl, HI0⟩
      case round =>
        rename_i wr0 wr
        obtain ⟨j, hj, rfl, HJ⟩ := hrel
        by_cases hlt : j < s.rels.length
        · have hlt1 := Nat.succ_le_of_lt hlt
          obtain ⟨po, co, hI, hT, hc⟩ := HJ.out
          obtain ⟨hids, hb05, hx5, hc5, hz5, hon5⟩ := HT7.out
          obtain ⟨g, e1, hg2, hg3, cs, hg4, hg5⟩ := hids j hlt
          subst e1
          have hbr := one_below hb05 hT (Nat.le_succ _)
          have hGr : GM S wr B ma s := HG0.out.below hbr
          have hig : wr.heap[g]? = some (.cells cs 2 (0, 0)) := (hT.block g hg2 (by omega)).trans hg4
          have HC := Lib.hid (run_load1 (w := wr) (ad := ⟨g, j, none⟩) Tryz.underlying2 rfl (cellOf (o := j) hig hg5))
          obtain ⟨m, hm1, hm2, hm3, hm4, hm5⟩ := hGr.rels
          obtain ⟨xn, exn, hxn⟩ := hm5 _ (List.getElem_mem hlt)
          have htn := HTN.out.2.1 _ (List.getElem_mem hlt)
          have hlk : ∀ W : World, IntMap W B.br m → (Instr.lookup 69 (.map (some B.br)) (.int .i64 s.rels[j].id) false).run Tryz.prog W = .ok (.agg xn) W := fun W hW => by rw [run_lookup_int hW Tryz.underlying69 Tryz.underlying2 Tryz.zeroValue49, exn]; rfl
          have hok := rel_okT htn
          have hcall := copyRel_any ((hxn.rdO htn).below (Below.refl _ wr).drew) hok
          have htk : s.rels.take (j + 1) = s.rels.take j ++ [s.rels[j]] := List.take_succ_eq_append_getElem hlt
          have hl1 : (s.rels.take j).length ≤ 1100000 := by rw [List.length_take]; have := HTN.out.2.2.2; omega
          have hS0 : wr.drew.heap[w.heap.size + 1]? = some (.cells (tellBox (.slice pn s.nodes.length cn) (.slice po (s.rels.take j).length co) s.nn s.nr) 25 (0, 0)) ∧ wr.drew.heap[B.gx]? = some (.cells (gBoxV B s) 72 (0, 0)) ∧ IntMap wr.drew B.br m := ⟨hc, hGr.box, hm1.of_heap rfl⟩
          have hlts := hGr.lts
          have hgw := HG0.out.lts
          have HY := Lib.hid (And.intro hI (And.intro hT (And.intro hc (And.intro hlk (And.intro hcall (And.intro htk (And.intro hl1 (And.intro hS0 (And.intro hlts (And.intro hgw (And.intro hb05.size hz5)))))))))))
          generalize s.rels[j] = nj at *
          clear hids hb05 hx5 hc5 hz5 hon5 hg2 hg3 hg4 hg5 hbr hGr hig hm1 hm2 hm3 hm4 hm5 exn hxn htn hlk hok hcall htk hl1 hS0 hlts hgw hI hT hc
          go_wp2_with ((with_reducible apply op_load); exact HC.out; exact rfl; clear HC)
          obtain ⟨hI, hT, hc, hlk, hcall, htk, hl1, hS0, hlts, hgw, hz0, hz5⟩ := HY.out
          refine plain_region_draws (fun W => W.heap[w.heap.size + 1]? = some (.cells (tellBox (.slice pn s.nodes.length cn) (.slice po (s.rels.take j).length co) s.nn s.nr) 25 (0, 0)) ∧ W.heap[B.gx]? = some (.cells (gBoxV B s) 72 (0, 0)) ∧ IntMap W B.br m) (by kernel_rfl) hS0 (fun hS => ?_)
          refine tk 0 55 (v := .pointer (some ⟨w.heap.size + 1, 1, none⟩)) rfl rfl (fun W hW => exec_fieldAddr rfl rfl (fa_api 1 (by omega) _ W)) ?_
          simp only [Act.put, sA, sZ, sS]
          refine tk 1 56 (v := .slice po (s.rels.take j).length co) rfl rfl (fun W hW => exec_load rfl rfl (run_load1 (w := W) Tryz.underlying23 rfl (cellOf (o := 1) hW.1 rfl))) ?_
          simp only [Act.put, sA, sZ, sS]
          refine tk 2 57 (v := .pointer (some ⟨B.gx, 0, none⟩)) rfl rfl (fun W hW => exec_move rfl rfl) ?_
          simp only [Act.put, sA, sZ, sS]
          refine tk 3 58 (v := .pointer (some ⟨B.gx, 0, none⟩)) rfl rfl (fun W hW => rfl) ?_
          simp only [Act.put, sA, sZ, sS]
          refine tk 4 59 (v := .pointer (some ⟨B.gx, 1, none⟩)) rfl rfl (fun W hW => exec_fieldAddr rfl rfl (fa_graph 1 (by omega) _ W)) ?_
          simp only [Act.put, sA, sZ, sS]
          refine tk 5 60 (v := .map (some B.br)) rfl rfl (fun W hW => exec_load rfl rfl (run_load1 (w := W) Tryz.underlying69 rfl (cellOf (o := 1) hW.2.1 rfl))) ?_
          simp only [Act.put, sA, sZ, sS]
          refine tk 6 61 (v := .int .i64 nj.id) rfl rfl (fun W hW => exec_move rfl rfl) ?_
          simp only [Act.put, sA, sZ, sS]
          refine tk 7 62 (v := .agg xn) rfl rfl (fun W hW => exec_lookup rfl rfl rfl (hlk W hW.2.2)) ?_
          simp only [Act.put, sA, sZ, sS]
          refine onlyCall 8 63 rfl rfl (by kernel_rfl) rfl (exec_call [.agg xn] rfl rfl Tryz.func40 (by kernel_rfl) (by kernel_rfl)) ?_
          refine hcall.mono ?_
          rintro e W8 ⟨x8, rfl, hx8, hb8⟩
          have hbw8 := below_trans (Below.refl _ wr).drew hb8
          have hbs : (Instr.buildSlice 23 1 #[(0, .agg x8)]).run Tryz.prog W8 = .ok (.slice (some ⟨W8.heap.size, 0, none⟩) 1 1) (W8.alloc (.cells x8 49)) := run_buildSlice_one Tryz.underlying23 Tryz.sizeOf49 Tryz.zeroValue49 (el_rel.size hx8) (by omega) (by omega)
          obtain ⟨pq, cq, W10, a1, a2, a3, a4, a5, a6, a7⟩ := tell_push (i := 1) el_rel gt_rel (fun h1 h2 => put_relsT h1 h2) hI hT hc (by omega) (by simp [tellBox]) hbw8 hx8 hl1
          have hS8 : W8.heap[w.heap.size + 1]? = some (.cells (tellBox (.slice pn s.nodes.length cn) (.slice po (s.rels.take j).length co) s.nn s.nr) 25 (0, 0)) ∧ W8.heap[B.gx]? = some (.cells (gBoxV B s) 72 (0, 0)) ∧ IntMap W8 B.br m := ⟨belowBlk hb8 (Array.getElem?_eq_some_iff.1 hS0.1).1 hS0.1, belowBlk hb8 (Array.getElem?_eq_some_iff.1 hS0.2.1).1 hS0.2.1, hS0.2.2.grow hb8⟩
          have hS9 : (W8.alloc (.cells x8 49)).heap[w.heap.size + 1]? = some (.cells (tellBox (.slice pn s.nodes.length cn) (.slice po (s.rels.take j).length co) s.nn s.nr) 25 (0, 0)) ∧ (W8.alloc (.cells x8 49)).heap[B.gx]? = some (.cells (gBoxV B s) 72 (0, 0)) ∧ IntMap (W8.alloc (.cells x8 49)) B.br m := ⟨belowBlk (below_new _) (Array.getElem?_eq_some_iff.1 hS8.1).1 hS8.1, belowBlk (below_new _) (Array.getElem?_eq_some_iff.1 hS8.2.1).1 hS8.2.1, hS8.2.2.grow (below_new _)⟩
          have hS10 : W10.heap[w.heap.size + 1]? = some (.cells (tellBox (.slice pn s.nodes.length cn) (.slice po (s.rels.take j).length co) s.nn s.nr) 25 (0, 0)) ∧ W10.heap[B.gx]? = some (.cells (gBoxV B s) 72 (0, 0)) ∧ IntMap W10 B.br m := ⟨a2, (a3 _ hlts.1 (fun e => by have := (hI.lt _ e).2; omega)).trans hS0.2.1, hS0.2.2.of_heap (a3 _ hlts.2.2.1 (fun e => by have := (hI.lt _ e).2; omega))⟩
          refine ⟨_, rfl, .inr hS8, ?_⟩
          simp only [Act.put, sA, sZ, sS]
          refine onlyRun 9 64 (v := .slice (some ⟨W8.heap.size, 0, none⟩) 1 1) rfl rfl (by kernel_rfl) rfl (exec_buildSlice1 rfl rfl hbs) (.inr (by assumption)) ?_
          simp only [Act.put, sA, sZ, sS]
          refine onlyRun 10 65 (v := .slice pq ((s.rels.take j).length + 1) cq) rfl rfl (by kernel_rfl) rfl (exec_append rfl rfl rfl a1) (.inr (by assumption)) ?_
          simp only [Act.put, sA, sZ, sS]
          refine tk 11 66 (v := .pointer (some ⟨w.heap.size + 1, 1, none⟩)) rfl rfl (fun W hW => exec_fieldAddr rfl rfl (fa_api 1 (by omega) _ W)) ?_
          simp only [Act.put, sA, sZ, sS]
          refine onlySkip 12 rfl rfl (by kernel_rfl) rfl (exec_store rfl rfl rfl a4) (.inl (by kernel_rfl)) ?_
          refine done (by kernel_rfl) ?_ _
          have HN := Lib.hid (show ∃ po co, GIn ROwn 49 5 (fun b => w7.heap.size ≤ b) (W10.setCell ⟨w.heap.size + 1, 1, none⟩ (.slice pq ((s.rels.take j).length + 1) cq)) (.slice po (s.rels.take (j + 1)).length co) (s.rels.take (j + 1)) ∧ Touch (fun b => b = w.heap.size + 1) w7 (W10.setCell ⟨w.heap.size + 1, 1, none⟩ (.slice pq ((s.rels.take j).length + 1) cq)) ∧ (W10.setCell ⟨w.heap.size + 1, 1, none⟩ (.slice pq ((s.rels.take j).length + 1) cq)).heap[w.heap.size + 1]? = some (.cells (tellBox (.slice pn s.nodes.length cn) (.slice po (s.rels.take (j + 1)).length co) s.nn s.nr) 25 (0, 0)) from by
            rw [show (s.rels.take (j + 1)).length = (s.rels.take j).length + 1 by rw [htk]; simp, htk]
            exact ⟨pq, cq, a5, a6, a7⟩)
          generalize W10.setCell ⟨w.heap.size + 1, 1, none⟩ (.slice pq ((s.rels.take j).length + 1) cq) = W11 at HN ⊢
          clear hI hT hc hlk hcall htk hl1 hS0 hlts hgw hz0 hz5 hS HY HJ a1 a2 a3 a4 a5 a6 a7 hbs hx8 hb8 hS8 hS9 hS10 hbw8
          go_wp2
          go_roundw
          case rel => exact ⟨j + 1, hlt1, by go_num, HN⟩
          case measure => simp [intOf]; omega
        · obtain rfl : j = s.rels.length := by omega
          obtain ⟨pr, cr, hI, hT, hc⟩ := HJ.out
          rw [List.take_length] at hI hc
          obtain ⟨hids, hb05, hx5, hc5, hz5, hon5⟩ := HT7.out
          have hbr := one_below hb05 hT (Nat.le_succ _)
          have hor := (hI.own el_rel).imp (P' := fun b => w.heap.size ≤ b ∧ b ≠ w.heap.size ∧ b ≠ w.heap.size + 1) el_rel fun b _ hb => by have hb' : w7.heap.size ≤ b := hb; omega
          have hon := hon5.keep (w' := wr) el_node fun b hb hl => hT.block b hl hb.2.2
          have hx6 := (hT.block _ (Array.getElem?_eq_some_iff.1 hx5).1 (by omega)).trans hx5
          obtain ⟨d1, W9, d2, d3, d4, d5⟩ := tell_end hon hor hx6 hc hbr
          have HLD := Lib.hid d1
          have HST := Lib.hid d2
          have HLE := Lib.hid d3
          have HF := Lib.hid (And.intro d4 d5)
          clear hI hT hc hids hb05 hx5 hc5 hz5 hon5 hbr hor hon hx6 d1 d2 d3 d4 d5 HJ HT7 HI0
          go_wp2_with (first
            | ((with_reducible apply op_load); exact HLD.out; exact rfl; clear HLD)
            | ((with_reducible apply op_store); exact HST.out; exact rfl; exact rfl; clear HST))
          refine bodyPost_ret (results_cell_one rfl _ _ ⟨w.heap.size, 0, none⟩ _ rfl HLE.out) rfl ?_
          exact ⟨_, rfl, HF.out⟩
end Go.Proofs.YtihfnegakcghiaaGreatDoor
namespace Go.Proofs.YtihfnegakcghiaaGreatDoor
open Go.RowKit
theorem putBy_sub {α : Type} (id : α → Int) (n : α) : ∀ {l : List α} {x : α}, x ∈ putBy id n l → x = n ∨ x ∈ l
  | [], x, h => by simp [putBy] at h; exact .inl h
  | a :: l, x, h => by
    unfold putBy at h
    split at h
    · rcases List.mem_cons.1 h with rfl | h
      · exact .inr (by simp)
      · rcases putBy_sub id n h with e | e
        · exact .inl e
        · exact .inr (List.mem_cons_of_mem a e)
    · split at h
      · rcases List.mem_cons.1 h with e | h
        · exact .inl e
        · exact .inr (List.mem_cons_of_mem a h)
      · rcases List.mem_cons.1 h with e | h
        · exact .inl e
        · exact .inr h
def GApt (g : GraphD) (n : Nat) : Prop := (∀ x ∈ g.nodes, NOk x) ∧ (∀ x ∈ g.rels, ROk x) ∧ g.nodes.length + g.rels.length + n ≤ 900000
theorem GApt.ok {g : GraphD} {n : Nat} (h : GApt g n) : GOk g := ⟨by have := h.2.2; omega, by have := h.2.2; omega, h.1, h.2.1⟩
theorem GApt.step {g h : GraphD} {c : ChangeD} {n : Nat} (hg : GApt g (n + 1)) (hc : NOk c.node ∧ ROk c.rel) (e : applyC g c = some h) : GApt h n := by
  obtain ⟨g1, g2, g3⟩ := hg
  have h1 := len_putBy NodeD.id c.node g.nodes
  have h2 := len_putBy RelD.id c.rel g.rels
  have h3 := List.length_filter_le (fun n : NodeD => !(n.id == c.id)) g.nodes
  have h4 := List.length_filter_le (fun n : RelD => !(n.id == c.id)) g.rels
  unfold applyC at e
  rw [putN_eq, putR_eq] at e
  repeat' split at e
  · cases e; exact ⟨fun x hx => (putBy_sub _ _ hx).elim (fun e => by rw [e]; exact hc.1) (g1 x), g2, by simp only; omega⟩
  · cases e; exact ⟨g1, fun x hx => (putBy_sub _ _ hx).elim (fun e => by rw [e]; exact hc.2) (g2 x), by simp only; omega⟩
  · cases e; exact ⟨fun x hx => g1 x (List.mem_filter.1 hx).1, g2, by simp only; omega⟩
  · cases e; exact ⟨g1, fun x hx => g2 x (List.mem_filter.1 hx).1, by simp only; omega⟩
  · cases e; exact ⟨g1, g2, by simp only; omega⟩
  · cases e
theorem GApt.all : ∀ (l : List ChangeD) {g h : GraphD} {n : Nat}, GApt g (l.length + n) → (∀ c ∈ l, NOk c.node ∧ ROk c.rel) → applyL g l = some h → GApt h n
  | [], g, h, n, hg, _, e => by cases e; simpa using hg
  | c :: l, g, h, n, hg, hc, e => by
    simp only [applyL] at e
    cases e2 : applyC g c with
    | none => rw [e2] at e; cases e
    | some x =>
      rw [e2] at e
      have hg' : GApt g ((l.length + n) + 1) := by rw [List.length_cons] at hg; rwa [Nat.add_right_comm] at hg
      exact GApt.all l (hg'.step (hc c (by simp)) e2) (fun d hd => hc d (by simp [hd])) e
def sOf (x : GraphD) (f : Int → List Int) : GS := ⟨x.nodes, x.rels, f, x.nextNode, x.nextRel⟩
theorem exec_delete {P : Program} {a : Act} {w w' : World} {o : Oper} {x y : Operand} {t u : TypeId} {m k v : Value} (ho : o.op = .call { callee := .builtin .delete, args := #[x, y], argTypes := #[t, u] }) (hx : a.eval x = m) (hy : a.eval y = k)
    (hr : (Builtin.delete_ #[t, u] o.type #[m, k]).run P w = .ok v w') : (execOp a.eval o).run P w = .ok (.value v) w' := by
  unfold execOp
  simp only [ho, resolve, invoke, builtin, Sem.run_bind, Sem.run_pure, Result.andThen_ok, List.map_toArray, List.map_cons, List.map_nil, hx, hy, hr]
theorem KInv.nums {w W : World} {B : GB} {ma : Int → Option Value} {x : GraphD} {f : Int → List Int} (h : KInv w W B ma (sOf x f)) (n m : Int) :
    ∃ W1 W2, (storeVar 2 ⟨B.gx, 3, none⟩ (.int .i64 n)).run Tryz.prog W = .ok () W1 ∧ (storeVar 2 ⟨B.gx, 4, none⟩ (.int .i64 m)).run Tryz.prog W1 = .ok () W2 ∧ (∀ b, b ≠ B.gx → W1.heap[b]? = W.heap[b]?) ∧ KInv w W2 B ma (sOf ⟨x.nodes, x.rels, n, m⟩ f) := by
  have h0 := h.1.box
  have h1 := box_set (k := 3) (.int .i64 n) h0
  have h2 := box_set (k := 4) (.int .i64 m) h1
  have e1 : (storeVar 2 ⟨B.gx, 3, none⟩ (.int .i64 n)).run Tryz.prog W = .ok () (W.setCell ⟨B.gx, 3, none⟩ (.int .i64 n)) := by
    have hc := cellOf (o := 3) h0 rfl
    have hf := freeOf (o := 3) h0
    simp [storeVar, go_sem, hc, hf]
  have e2 : (storeVar 2 ⟨B.gx, 4, none⟩ (.int .i64 m)).run Tryz.prog (W.setCell ⟨B.gx, 3, none⟩ (.int .i64 n)) = .ok () ((W.setCell ⟨B.gx, 3, none⟩ (.int .i64 n)).setCell ⟨B.gx, 4, none⟩ (.int .i64 m)) := by
    have hc := cellOf (o := 4) h1 rfl
    have hf := freeOf (o := 4) h1
    simp [storeVar, go_sem, hc, hf]
  have ht : Touch (fun b => b = B.gx) W ((W.setCell ⟨B.gx, 3, none⟩ (.int .i64 n)).setCell ⟨B.gx, 4, none⟩ (.int .i64 m)) := ((Touch.refl _ W).setCell (.inl (by exact rfl)) _).setCell (.inl (by exact rfl)) _
  exact ⟨_, _, e1, e2, fun b hb => Below.heap_setCell _ ⟨B.gx, 3, none⟩ _ b hb, h.1.boxed ⟨rfl, rfl, rfl⟩ h2 ht, h.touch ht fun b e => by rw [e]; exact h.1.own.1⟩
end Go.Proofs.YtihfnegakcghiaaGreatDoor
namespace Go.Proofs.YtihfnegakcghiaaGreatDoor
theorem ltB_iff {a b : List UInt8} : ltB a b = true ↔ cmpB a b = -1 := by unfold ltB; exact beq_iff_eq
theorem ltB_trans {a b c : List UInt8} (h : ltB a b = true) (g : ltB b c = true) : ltB a c = true := by
  rw [ltB_iff] at *
  exact (ord_cmpB a).chain b c h (by rw [g]; decide)
theorem ltB_irrefl {a : List UInt8} : ltB a a = false := by
  unfold ltB; rw [cmpB_self]; rfl
theorem ltB_asymm {a b : List UInt8} (h : ltB a b = true) : ltB b a = false := by
  cases g : ltB b a with
  | false => rfl
  | true => have := ltB_trans h g; rw [ltB_irrefl] at this; exact this.symm
theorem ltB_total {a b : List UInt8} (h : ltB a b = false) (hne : a ≠ b) : ltB b a = true := by
  have h1 := (ord_cmpB a).range b
  have h2 := (ord_cmpB a).anti b
  have h3 : cmpB a b ≠ 0 := fun e => hne (cmpB_zero e)
  have h4 : cmpB a b ≠ -1 := fun e => by rw [ltB_iff.2 e] at h; cases h
  rw [ltB_iff]; omega
theorem rises_pair : ∀ l : List (List UInt8), risesB l = true ↔ l.Pairwise (fun a b => ltB a b = true)
  | [] => by simp [risesB]
  | [a] => by simp [risesB]
  | a :: b :: r => by
    rw [risesB, Bool.and_eq_true, rises_pair (b :: r), List.pairwise_cons (a := a)]
    refine ⟨fun ⟨h1, h2⟩ => ⟨fun c hc => ?_, h2⟩, fun ⟨h1, h2⟩ => ⟨h1 b (by simp), h2⟩⟩
    rcases List.mem_cons.1 hc with rfl | hc
    · exact h1
    · exact ltB_trans h1 ((List.pairwise_cons.1 h2).1 c hc)
end Go.Proofs.YtihfnegakcghiaaGreatDoor
namespace Go.Proofs.YtihfnegakcghiaaGreatDoor
section
variable {α : Type} (key : α → List UInt8)
def RiseB (l : List α) : Prop := l.Pairwise fun a b => ltB (key a) (key b) = true
def insB (x : α) : List α → List α
  | [] => [x]
  | a :: l => if ltB (key a) (key x) then a :: insB x l else if key a = key x then x :: l else x :: a :: l
theorem mem_insB {x : α} : ∀ {l : List α}, RiseB key l → ∀ y, y ∈ insB key x l ↔ y = x ∨ (y ∈ l ∧ key y ≠ key x)
  | [], _, y => by simp [insB]
  | a :: l, h, y => by
    have h2 := List.pairwise_cons.1 h
    unfold insB
    by_cases hlt : ltB (key a) (key x) = true
    · rw [if_pos hlt, List.mem_cons, mem_insB h2.2 y, List.mem_cons]
      constructor
      · rintro (rfl | rfl | ⟨h3, h4⟩)
        · exact .inr ⟨.inl rfl, fun e => by rw [e, ltB_irrefl] at hlt; cases hlt⟩
        · exact .inl rfl
        · exact .inr ⟨.inr h3, h4⟩
      · rintro (rfl | ⟨rfl | h3, h4⟩)
        · exact .inr (.inl rfl)
        · exact .inl rfl
        · exact .inr (.inr ⟨h3, h4⟩)
    · rw [if_neg hlt]
      by_cases he : key a = key x
      · rw [if_pos he, List.mem_cons, List.mem_cons]
        constructor
        · rintro (rfl | h3)
          · exact .inl rfl
          · have := h2.1 y h3
            exact .inr ⟨.inr h3, fun e => by rw [e, he, ltB_irrefl] at this; cases this⟩
        · rintro (rfl | ⟨rfl | h3, h4⟩)
          · exact .inl rfl
          · exact absurd he h4
          · exact .inr h3
      · have hxa : ltB (key x) (key a) = true := ltB_total (by simpa using hlt) he
        rw [if_neg he, List.mem_cons, List.mem_cons]
        constructor
        · rintro (rfl | rfl | h3)
          · exact .inl rfl
          · exact .inr ⟨.inl rfl, he⟩
          · have := h2.1 y h3
            exact .inr ⟨.inr h3, fun e => by rw [e] at this; exact hlt this⟩
        · rintro (rfl | ⟨h3, h4⟩)
          · exact .inl rfl
          · exact .inr h3
theorem rise_insB {x : α} : ∀ {l : List α}, RiseB key l → RiseB key (insB key x l)
  | [], _ => by simp [insB, RiseB]
  | a :: l, h => by
    have h2 := List.pairwise_cons.1 h
    unfold insB
    by_cases hlt : ltB (key a) (key x) = true
    · rw [if_pos hlt]
      refine List.pairwise_cons.2 ⟨fun y hy => ?_, rise_insB h2.2⟩
      rcases (mem_insB key h2.2 y).1 hy with rfl | ⟨h3, _⟩
      · exact hlt
      · exact h2.1 y h3
    · rw [if_neg hlt]
      by_cases he : key a = key x
      · rw [if_pos he]
        exact List.pairwise_cons.2 ⟨fun y hy => by rw [← he]; exact h2.1 y hy, h2.2⟩
      · have hxa : ltB (key x) (key a) = true := ltB_total (by simpa using hlt) he
        rw [if_neg he]
        refine List.pairwise_cons.2 ⟨fun y hy => ?_, h⟩
        rcases List.mem_cons.1 hy with rfl | h3
        · exact hxa
        · exact ltB_trans hxa (h2.1 y h3)
theorem riseB_eq : ∀ {l m : List α}, RiseB key l → RiseB key m → (∀ x, x ∈ l ↔ x ∈ m) → l = m
  | [], [], _, _, _ => rfl
  | [], b :: m, _, _, h => by have := (h b).2 (by simp); simp at this
  | a :: l, [], _, _, h => by have := (h a).1 (by simp); simp at this
  | a :: l, b :: m, h1, h2, h => by
    have g1 := List.pairwise_cons.1 h1
    have g2 := List.pairwise_cons.1 h2
    have e : a = b := by
      rcases List.mem_cons.1 ((h a).1 (by simp)) with e | ha
      · exact e
      · rcases List.mem_cons.1 ((h b).2 (by simp)) with e | hb
        · exact e.symm
        · have := ltB_asymm (g1.1 b hb)
          rw [g2.1 a ha] at this
          cases this
    subst e
    congr 1
    refine riseB_eq g1.2 g2.2 fun x => ⟨fun hx => ?_, fun hx => ?_⟩
    · rcases List.mem_cons.1 ((h x).1 (List.mem_cons_of_mem a hx)) with rfl | hm
      · have := g1.1 x hx; rw [ltB_irrefl] at this; cases this
      · exact hm
    · rcases List.mem_cons.1 ((h x).2 (List.mem_cons_of_mem a hx)) with rfl | hm
      · have := g2.1 x hx; rw [ltB_irrefl] at this; cases this
      · exact hm
def insAllB (l m : List α) : List α := l.foldl (fun out x => insB key x out) m
theorem rise_insAllB : ∀ (l : List α) {m : List α}, RiseB key m → RiseB key (insAllB key l m)
  | [], m, h => h
  | x :: l, m, h => rise_insAllB l (rise_insB key h)
theorem mem_insAllB : ∀ (l : List α) {m : List α}, RiseB key m → (l.map key).Nodup → (∀ x ∈ l, ∀ y ∈ m, key y ≠ key x) → ∀ y, y ∈ insAllB key l m ↔ y ∈ l ∨ y ∈ m
  | [], m, _, _, _, y => by simp [insAllB]
  | x :: l, m, h, hn, hd, y => by
    rw [List.map_cons, List.nodup_cons] at hn
    have hx := mem_insB key (x := x) h
    have := mem_insAllB l (m := insB key x m) (rise_insB key h) hn.2 (fun z hz y hy => by
      rcases (hx y).1 hy with rfl | ⟨h3, _⟩
      · exact fun e => hn.1 (by rw [e]; exact List.mem_map_of_mem hz)
      · exact hd z (List.mem_cons_of_mem x hz) y h3) y
    show y ∈ insAllB key l (insB key x m) ↔ _
    rw [this, hx, List.mem_cons]
    constructor
    · rintro (h3 | rfl | ⟨h3, _⟩)
      · exact .inl (.inr h3)
      · exact .inl (.inl rfl)
      · exact .inr h3
    · rintro ((rfl | h3) | h3)
      · exact .inr (.inl rfl)
      · exact .inl h3
      · exact .inr (.inr ⟨h3, hd x (by simp) y h3⟩)
end
theorem mem_texts (l : List (List UInt8)) : ∀ {m : List (List UInt8)}, RiseB id m → ∀ y, y ∈ insAllB id l m ↔ y ∈ l ∨ y ∈ m := by
  induction l with
  | nil => intro m _ y; simp [insAllB]
  | cons x l ih =>
    intro m h y
    show y ∈ insAllB id l (insB id x m) ↔ _
    rw [ih (rise_insB id h), mem_insB id h, List.mem_cons]
    constructor
    · rintro (h3 | rfl | ⟨h3, _⟩)
      · exact .inl (.inr h3)
      · exact .inl (.inl rfl)
      · exact .inr h3
    · rintro ((rfl | h3) | h3)
      · exact .inr (.inl rfl)
      · exact .inl h3
      · by_cases e : y = x
        · exact .inr (.inl e)
        · exact .inr (.inr ⟨h3, e⟩)
end Go.Proofs.YtihfnegakcghiaaGreatDoor
namespace Go.Proofs.YtihfnegakcghiaaGreatDoor
theorem linkK_mem (f : Int → List Int) (k r j y : Int) : y ∈ linkK f k r j ↔ (j = k ∧ y = r) ∨ y ∈ f j := by
  unfold linkK setI
  by_cases h : j = k
  · subst h
    rw [if_pos rfl, insS_mem]
    constructor
    · rintro (h | h)
      · exact .inl ⟨rfl, h⟩
      · exact .inr h
    · rintro (⟨_, h⟩ | h)
      · exact .inl h
      · exact .inr h
  · rw [if_neg h]
    exact ⟨.inr, fun h2 => h2.elim (fun h3 => absurd h3.1 h) fun h3 => h3⟩
theorem linkK_rise {f : Int → List Int} (h : ∀ j, (f j).Pairwise (· < ·)) (k r j : Int) : (linkK f k r j).Pairwise (· < ·) := by
  unfold linkK setI
  split
  · exact insS_rise (h k)
  · exact h j
theorem linkAll_mem : ∀ (l : List RelD) (f : Int → List Int) (j y : Int), y ∈ linkAll f l j ↔ y ∈ f j ∨ ∃ x ∈ l, x.id = y ∧ (x.src = j ∨ x.dst = j)
  | [], f, j, y => by simp [linkAll]
  | x :: l, f, j, y => by
    have ih := linkAll_mem l (linkK (linkK f x.src x.id) x.dst x.id) j y
    show y ∈ linkAll (linkK (linkK f x.src x.id) x.dst x.id) l j ↔ _
    rw [ih, linkK_mem, linkK_mem]
    constructor
    · rintro ((⟨rfl, rfl⟩ | ⟨rfl, rfl⟩ | h) | ⟨z, hz, h1, h2⟩)
      · exact .inr ⟨x, by simp, rfl, .inr rfl⟩
      · exact .inr ⟨x, by simp, rfl, .inl rfl⟩
      · exact .inl h
      · exact .inr ⟨z, List.mem_cons_of_mem x hz, h1, h2⟩
    · rintro (h | ⟨z, hz, rfl, h2⟩)
      · exact .inl (.inr (.inr h))
      · rcases List.mem_cons.1 hz with rfl | hz
        · rcases h2 with rfl | rfl
          · exact .inl (.inr (.inl ⟨rfl, rfl⟩))
          · exact .inl (.inl ⟨rfl, rfl⟩)
        · exact .inr ⟨z, hz, rfl, h2⟩
theorem linkAll_rise : ∀ (l : List RelD) {f : Int → List Int}, (∀ j, (f j).Pairwise (· < ·)) → ∀ j, (linkAll f l j).Pairwise (· < ·)
  | [], f, h, j => h j
  | x :: l, f, h, j => linkAll_rise l (linkK_rise (linkK_rise h x.src x.id) x.dst x.id) j
def touchD (l : List RelD) (j : Int) : List Int := (l.filter fun x => decide (x.src = j) || decide (x.dst = j)).map RelD.id
theorem touchD_mem (l : List RelD) (j y : Int) : y ∈ touchD l j ↔ ∃ x ∈ l, x.id = y ∧ (x.src = j ∨ x.dst = j) := by
  unfold touchD
  rw [List.mem_map]
  constructor
  · rintro ⟨x, hx, rfl⟩
    obtain ⟨h1, h2⟩ := List.mem_filter.1 hx
    exact ⟨x, h1, rfl, by simpa using h2⟩
  · rintro ⟨x, hx, rfl, h⟩
    exact ⟨x, List.mem_filter.2 ⟨hx, by simpa using h⟩, rfl⟩
theorem touchD_rise {l : List RelD} (h : Rise RelD.id l) (j : Int) : (touchD l j).Pairwise (· < ·) := List.pairwise_map.2 (List.Pairwise.sublist List.filter_sublist h)
theorem rise_same {l m : List Int} (hl : l.Pairwise (· < ·)) (hm : m.Pairwise (· < ·)) (h : ∀ y, y ∈ l ↔ y ∈ m) : l = m := by
  have hp : l.Perm m := (List.perm_ext_iff_of_nodup (hl.imp fun h e => by omega) (hm.imp fun h e => by omega)).2 h
  exact rise_eq hm (hl.imp fun h => Int.le_of_lt h) hp
def AdjOk (s : GS) : Prop := ∀ j, s.adj j = touchD s.rels j
theorem adj_made {g : GraphD} (h : Rise RelD.id g.rels) : AdjOk (madeG g) := fun j =>
  rise_same (linkAll_rise _ (fun _ => List.Pairwise.nil) j) (touchD_rise h j) fun y => by
    show y ∈ linkAll (fun _ => []) g.rels j ↔ _
    rw [linkAll_mem, touchD_mem]
    simp [madeG]
theorem adj_link {s : GS} (h : AdjOk s) (hs : Rise RelD.id s.rels) {r : RelD} (hn : ∀ x ∈ s.rels, x.id < r.id) : AdjOk { s with rels := s.rels ++ [r], adj := linkK (linkK s.adj r.src r.id) r.dst r.id } := fun j => by
  have hr : Rise RelD.id (s.rels ++ [r]) := List.pairwise_append.2 ⟨hs, List.pairwise_singleton _ _, fun a ha b hb => by rw [List.mem_singleton.1 hb]; exact hn a ha⟩
  refine rise_same (linkK_rise (linkK_rise (fun k => by rw [h k]; exact touchD_rise hs k) _ _) _ _ j) (touchD_rise hr j) fun y => ?_
  simp only
  rw [linkK_mem, linkK_mem, h j, touchD_mem, touchD_mem]
  constructor
  · rintro (⟨rfl, rfl⟩ | ⟨rfl, rfl⟩ | ⟨x, hx, h1, h2⟩)
    · exact ⟨r, by simp, rfl, .inr rfl⟩
    · exact ⟨r, by simp, rfl, .inl rfl⟩
    · exact ⟨x, by simp [hx], h1, h2⟩
  · rintro ⟨x, hx, rfl, h2⟩
    rcases List.mem_append.1 hx with hx | hx
    · exact .inr (.inr ⟨x, hx, rfl, h2⟩)
    · rw [List.mem_singleton.1 hx] at h2 ⊢
      rcases h2 with rfl | rfl
      · exact .inr (.inl ⟨rfl, rfl⟩)
      · exact .inl ⟨rfl, rfl⟩
def cutK (f : Int → List Int) (k r : Int) : Int → List Int := setI f k ((f k).filter fun y => !decide (y = r))
theorem cutK_mem (f : Int → List Int) (k r j y : Int) : y ∈ cutK f k r j ↔ y ∈ f j ∧ ¬ (j = k ∧ y = r) := by
  unfold cutK setI
  by_cases h : j = k
  · subst h
    rw [if_pos rfl, List.mem_filter]
    simp
  · rw [if_neg h]
    exact ⟨fun h2 => ⟨h2, fun h3 => h h3.1⟩, fun h2 => h2.1⟩
theorem cutK_rise {f : Int → List Int} (h : ∀ j, (f j).Pairwise (· < ·)) (k r j : Int) : (cutK f k r j).Pairwise (· < ·) := by
  unfold cutK setI
  split
  · exact List.Pairwise.sublist List.filter_sublist (h k)
  · exact h j
theorem adj_drop {s : GS} (h : AdjOk s) (hs : Rise RelD.id s.rels) {r : RelD} (hr : r ∈ s.rels) : AdjOk { s with rels := s.rels.filter (fun x => !(x.id == r.id)), adj := cutK (cutK s.adj r.src r.id) r.dst r.id } := fun j => by
  have hf : Rise RelD.id (s.rels.filter fun x => !(x.id == r.id)) := List.Pairwise.sublist List.filter_sublist hs
  have huniq : ∀ x ∈ s.rels, x.id = r.id → x = r := fun x hx e => by
    obtain ⟨a, ha, rfl⟩ := List.getElem_of_mem hx
    obtain ⟨b, hb, rfl⟩ := List.getElem_of_mem hr
    have hp := List.pairwise_iff_getElem.1 hs
    by_cases h1 : a < b
    · have := hp a b ha hb h1; omega
    · by_cases h2 : b < a
      · have := hp b a hb ha h2; omega
      · have : a = b := by omega
        subst this; rfl
  refine rise_same (cutK_rise (cutK_rise (fun k => by rw [h k]; exact touchD_rise hs k) _ _) _ _ j) (touchD_rise hf j) fun y => ?_
  simp only
  rw [cutK_mem, cutK_mem, h j, touchD_mem, touchD_mem]
  constructor
  · rintro ⟨⟨⟨x, hx, rfl, h2⟩, h3⟩, h4⟩
    refine ⟨x, List.mem_filter.2 ⟨hx, ?_⟩, rfl, h2⟩
    by_cases e : x.id = r.id
    · have := huniq x hx e
      subst this
      rcases h2 with rfl | rfl
      · exact absurd ⟨rfl, rfl⟩ h3
      · exact absurd ⟨rfl, rfl⟩ h4
    · simpa using e
  · rintro ⟨x, hx, rfl, h2⟩
    obtain ⟨h3, h4⟩ := List.mem_filter.1 hx
    have hne : x.id ≠ r.id := by simpa using h4
    exact ⟨⟨⟨x, h3, rfl, h2⟩, fun h => hne h.2⟩, fun h => hne h.2⟩
end Go.Proofs.YtihfnegakcghiaaGreatDoor
namespace Go.Proofs.YtihfnegakcghiaaGreatDoor
def nullV9 (v : V) : Bool := decide (v.kind = 0) && okV v
def mayStore (l : List PropD) : Bool := decide ((l.map PropD.key).Nodup) && l.all fun p => okNm p.key && (nullV9 p.val || okSt p.val)
def storeD (l : List PropD) : List PropD := insAllB PropD.key (l.filter fun p => !decide (p.val.kind = 0)) []
theorem storeD_mem {l : List PropD} (h : (l.map PropD.key).Nodup) (p : PropD) : p ∈ storeD l ↔ p ∈ l ∧ p.val.kind ≠ 0 := by
  unfold storeD
  rw [mem_insAllB PropD.key _ List.Pairwise.nil (List.Nodup.sublist (List.filter_sublist.map _) h) (fun _ _ _ h => by simp at h)]
  simp [List.mem_filter]
theorem storeD_rise (l : List PropD) : RiseB PropD.key (storeD l) := rise_insAllB _ _ List.Pairwise.nil
def fullD (g : GraphD) (next : Int) : Bool := decide (65536 ≤ g.nodes.length + g.rels.length) || decide (4611686018427387904 ≤ next)
def addNodeD (g : GraphD) (labels : List (List UInt8)) (props : List PropD) : GraphD × Int × Int :=
  if labels.all okNm = false ∨ mayStore props = false then (g, 0, 2)
  else if fullD g g.nextNode = true then (g, 0, 151)
  else (⟨g.nodes ++ [⟨g.nextNode, insAllB id labels [], storeD props⟩], g.rels, g.nextNode + 1, g.nextRel⟩, g.nextNode, 0)
def addRelD (g : GraphD) (src dst : Int) (type : List UInt8) (props : List PropD) : GraphD × Int × Int :=
  if mayStore props = false ∨ okNm type = false then (g, 0, 2)
  else if hasN g src = false ∨ hasN g dst = false then (g, 0, 5)
  else if fullD g g.nextRel = true then (g, 0, 151)
  else (⟨g.nodes, g.rels ++ [⟨g.nextRel, src, dst, type, storeD props⟩], g.nextNode, g.nextRel + 1⟩, g.nextRel, 0)
theorem okG_iff (g : GraphD) : okG g = true ↔ (g.nodes.length + g.rels.length ≤ 65536 ∧ 0 ≤ g.nextNode ∧ g.nextNode ≤ 4611686018427387904 ∧ 0 ≤ g.nextRel ∧ g.nextRel ≤ 4611686018427387904) ∧
    (∀ n ∈ g.nodes, okN n = true ∧ n.id < g.nextNode) ∧ risesI (g.nodes.map NodeD.id) = true ∧ (∀ r ∈ g.rels, okR r = true ∧ r.id < g.nextRel ∧ hasN g r.src = true ∧ hasN g r.dst = true) ∧ risesI (g.rels.map RelD.id) = true := by
  unfold okG okSz okNs okRs
  simp only [Bool.and_eq_true, decide_eq_true_eq, List.all_eq_true]
  constructor
  · rintro ⟨⟨⟨⟨⟨⟨h1, h2⟩, h3⟩, h4⟩, h5⟩, h6, h7⟩, h8, h9⟩
    exact ⟨⟨h1, h2, h3, h4, h5⟩, h6, h7, fun r hr => by obtain ⟨⟨⟨a, b⟩, c⟩, d⟩ := h8 r hr; exact ⟨a, b, c, d⟩, h9⟩
  · rintro ⟨⟨h1, h2, h3, h4, h5⟩, h6, h7, h8, h9⟩
    exact ⟨⟨⟨⟨⟨⟨h1, h2⟩, h3⟩, h4⟩, h5⟩, h6, h7⟩, fun r hr => by obtain ⟨a, b, c, d⟩ := h8 r hr; exact ⟨⟨⟨a, b⟩, c⟩, d⟩, h9⟩
end Go.Proofs.YtihfnegakcghiaaGreatDoor
namespace Go.Proofs.YtihfnegakcghiaaGreatDoor
def dropD (g : GraphD) (rel : Bool) (i : Int) : GraphD × Int :=
  if rel then (if g.rels.any fun r => r.id == i then (⟨g.nodes, g.rels.filter fun r => !(r.id == i), g.nextNode, g.nextRel⟩, 0) else (g, 5))
  else if hasN g i = false then (g, 5)
  else if touchD g.rels i ≠ [] then (g, 150)
  else (⟨g.nodes.filter fun n => !(n.id == i), g.rels, g.nextNode, g.nextRel⟩, 0)
end Go.Proofs.YtihfnegakcghiaaGreatDoor
namespace Go.Proofs.YtihfnegakcghiaaGreatDoor
section
variable {α : Type} (id : α → Int)
theorem rise_one {l : List α} (h : Rise id l) {x y : α} (hx : x ∈ l) (hy : y ∈ l) (e : id x = id y) : x = y := by
  obtain ⟨a, ha, rfl⟩ := List.getElem_of_mem hx
  obtain ⟨b, hb, rfl⟩ := List.getElem_of_mem hy
  have hp := List.pairwise_iff_getElem.1 h
  by_cases h1 : a < b
  · have := hp a b ha hb h1; omega
  · by_cases h2 : b < a
    · have := hp b a hb ha h2; omega
    · have : a = b := by omega
      subst this; rfl
end
end Go.Proofs.YtihfnegakcghiaaGreatDoor
namespace Go.Proofs.YtihfnegakcghiaaGreatDoor
open Go.RowKit
def keyS (e : MapEntry) : Option (List UInt8) := match e.key with | .string s => some s.data.toList | _ => none
theorem keyS_of {e : MapEntry} {k : List UInt8} (h : e.key = .string (strB k)) : keyS e = some k := by simp [keyS, h, strB]
theorem strB_eqb (a b : List UInt8) : (strB a == strB b) = decide (a = b) := by
  rw [beq_toListBytes, strB_toList, strB_toList]
  rw [Bool.eq_iff_iff, beq_iff_eq, decide_eq_true_iff]
def getES (es : List MapEntry) (k : List UInt8) : Option Value :=
  match es with
  | [] => none
  | e :: r => if keyS e = some k then some e.val else getES r k
def keysOfS (es : List MapEntry) : List (List UInt8) := es.filterMap keyS
structure GoodES (es : List MapEntry) (clk : Nat) : Prop where
  int : ∀ e ∈ es, ∃ k, e.key = .string (strB k)
  keys : (keysOfS es).Nodup
  born : (es.map (·.born)).Nodup
  clock : ∀ e ∈ es, e.born < clk
def StrMap (w : World) (b : Nat) (m : List UInt8 → Option Value) : Prop :=
  ∃ es clk, w.heap[b]? = some (.map es clk) ∧ GoodES es.toList clk ∧ ∀ k, getES es.toList k = m k
theorem StrMap.lt {w : World} {b : Nat} {m : List UInt8 → Option Value} (h : StrMap w b m) : b < w.heap.size := by
  obtain ⟨es, clk, h1, _⟩ := h; exact (Array.getElem?_eq_some_iff.1 h1).1
theorem StrMap.of_heap {w w' : World} {b : Nat} {m : List UInt8 → Option Value} (h : StrMap w b m) (hb : w'.heap[b]? = w.heap[b]?) : StrMap w' b m := by
  obtain ⟨es, clk, h1, h2⟩ := h; exact ⟨es, clk, hb.trans h1, h2⟩
theorem StrMap.touch {S : Nat → Prop} {w w' : World} {b : Nat} {m : List UInt8 → Option Value} (h : StrMap w b m) (g : Touch S w w') (hs : ¬ S b) : StrMap w' b m :=
  h.of_heap (g.block b h.lt hs)
theorem StrMap.grow {w w' : World} {b : Nat} {m : List UInt8 → Option Value} (h : StrMap w b m) (g : Below w.heap.size w w') : StrMap w' b m := h.of_heap (g.block b h.lt)
theorem StrMap.fresh {w : World} {b : Nat} (h : w.heap[b]? = some (.map #[] 0)) : StrMap w b (fun _ => none) :=
  ⟨#[], 0, h, ⟨by simp, by simp [keysOfS], by simp, by simp⟩, fun _ => rfl⟩
theorem StrMap.made (w : World) : StrMap (w.alloc (.map #[] 0)) w.heap.size (fun _ => none) :=
  ⟨#[], 0, heap_alloc_new w _, ⟨by simp, by simp [keysOfS], by simp, by simp⟩, fun _ => rfl⟩
theorem findNow_str {es : List MapEntry} (hi : ∀ e ∈ es, ∃ k, e.key = .string (strB k)) (k : List UInt8) (i : Nat) :
    ∃ r, Instr.findNow .string (.string (strB k)) es i = some r ∧ r.map (·.2) = getES es k ∧ ∀ p, r = some p → i ≤ p.1 ∧ p.1 - i < es.length ∧ ∃ e, es[p.1 - i]? = some e ∧ e.key = .string (strB k) := by
  induction es generalizing i with
  | nil => exact ⟨none, rfl, rfl, fun p h => by cases h⟩
  | cons e r ih =>
    obtain ⟨j, hj⟩ := hi e (by simp)
    by_cases hjk : k = j
    · subst hjk
      refine ⟨some (i, e.val), by simp [Instr.findNow, hj, Instr.sameNow, strB_eqb], by simp [getES, keyS_of hj], fun p h => ?_⟩
      cases h
      exact ⟨Nat.le_refl _, by simp, e, by simp, hj⟩
    · obtain ⟨q, h1, h2, h3⟩ := ih (fun e he => hi e (by simp [he])) (i + 1)
      refine ⟨q, ?_, ?_, fun p h => ?_⟩
      · have : (strB k == strB j) = false := by rw [strB_eqb, decide_eq_false_iff_not]; exact hjk
        simp only [Instr.findNow, hj, Instr.sameNow, if_true, this]; exact h1
      · rw [h2]; simp [getES, keyS_of hj, Ne.symm hjk]
      · obtain ⟨a, b, e', c, d⟩ := h3 p h
        refine ⟨by omega, by simp; omega, e', ?_, d⟩
        have : p.1 - i = (p.1 - (i + 1)) + 1 := by omega
        rw [this]; simpa using c
section
variable {P : Program} {T K E : TypeId} {w : World} {b : Nat} {m : List UInt8 → Option Value}
theorem run_checkKey_str (hK : P.underlying K = some .string) (empty : Bool) (k : List UInt8) (w : World) : (Instr.checkKey empty 10000 K (.string (strB k))).run P w = .ok () w := by
  have : (10000 : Nat) = 9999 + 1 := rfl
  rw [this, Instr.checkKey]
  simp [Sem.run_bind, run_underlying hK, Result.andThen]
theorem run_findKey_str (hK : P.underlying K = some .string) {es : List MapEntry} (hi : ∀ e ∈ es, ∃ k, e.key = .string (strB k)) (k : List UInt8) (w : World) :
    ∃ r, (Instr.findKey K (.string (strB k)) es).run P w = .ok r w ∧ r.map (·.2) = getES es k ∧ ∀ p, r = some p → p.1 < es.length ∧ ∃ e, es[p.1]? = some e ∧ e.key = .string (strB k) := by
  obtain ⟨r, h1, h2, h3⟩ := findNow_str hi k 0
  refine ⟨r, ?_, h2, fun p h => ?_⟩
  · simp [Instr.findKey, Sem.run_bind, run_underlying hK, Result.andThen, h1]
  · have := h3 p h; simpa using this
theorem run_lookup_str (h : StrMap w b m) (hT : P.underlying T = some (.map K E)) (hK : P.underlying K = some .string) {z : Value} (hz : ∀ w, (zeroValue E).run P w = .ok z w) (k : List UInt8) :
    (Instr.lookup T (.map (some b)) (.string (strB k)) false).run P w = .ok ((m k).getD z) w := by
  obtain ⟨es, clk, hb, hg, hm⟩ := h
  obtain ⟨r, h1, h2, _⟩ := run_findKey_str (P := P) hK hg.int k w
  rw [hm] at h2
  unfold Instr.lookup
  simp only [Sem.run_bind, run_underlying hT, Result.andThen_ok, getObj, Sem.run, hb, Sem.run_pure, run_checkKey_str hK, h1]
  cases r with
  | none => simp [← h2, hz]
  | some p => simp [← h2]
def updS (m : List UInt8 → Option Value) (k : List UInt8) (v : Value) : List UInt8 → Option Value := fun j => if j = k then some v else m j
theorem getES_none {es : List MapEntry} {k : List UInt8} (h : getES es k = none) : k ∉ keysOfS es := by
  induction es with
  | nil => simp [keysOfS]
  | cons e r ih =>
    unfold getES at h
    split at h
    · cases h
    · rename_i hne
      unfold keysOfS
      rw [List.filterMap_cons]
      cases hk : keyS e with
      | none => exact ih h
      | some j =>
        simp only [List.mem_cons, not_or]
        exact ⟨fun e' => hne (by rw [hk, e']), ih h⟩
theorem getES_append (es : List MapEntry) (k j : List UInt8) (v : Value) (c : Nat) : getES (es ++ [{ key := .string (strB k), val := v, born := c }]) j = match getES es j with | some u => some u | none => if k = j then some v else none := by
  induction es with
  | nil => simp [getES, keyS, strB]
  | cons e r ih =>
    simp only [List.cons_append, getES]
    split
    · rfl
    · exact ih
theorem keysOfS_set {es : List MapEntry} {i : Nat} {e e' : MapEntry} (h : es[i]? = some e) (hk : keyS e' = keyS e) : keysOfS (es.set i e') = keysOfS es := by
  induction es generalizing i with
  | nil => simp at h
  | cons x r ih =>
    cases i with
    | zero => simp at h; subst h; simp [keysOfS, List.filterMap_cons, hk]
    | succ i => simp at h; simp only [List.set_cons_succ, keysOfS, List.filterMap_cons]; have := ih h; unfold keysOfS at this; rw [this]
theorem getES_set {es : List MapEntry} (hn : (keysOfS es).Nodup) {i : Nat} {e e' : MapEntry} {k : List UInt8} {v : Value} (h : es[i]? = some e) (hk : keyS e = some k) (hk' : keyS e' = some k) (hv : e'.val = v) (j : List UInt8) :
    getES (es.set i e') j = if j = k then some v else getES es j := by
  induction es generalizing i with
  | nil => simp at h
  | cons x r ih =>
    have hn' : (keysOfS r).Nodup := by
      simp only [keysOfS, List.filterMap_cons] at hn
      split at hn
      · exact hn
      · exact (List.nodup_cons.1 hn).2
    cases i with
    | zero =>
      simp at h; subst h
      simp only [List.set_cons_zero, getES, hk', hk, hv]
      by_cases hjk : j = k
      · simp [hjk]
      · simp [hjk, Ne.symm hjk]
    | succ i =>
      simp at h
      have hmem : k ∈ keysOfS r := by
        simp only [keysOfS, List.mem_filterMap]; exact ⟨e, List.mem_of_getElem? h, hk⟩
      simp only [List.set_cons_succ, getES, ih hn' h]
      split
      · rename_i hq
        have : j ≠ k := fun ejk => by
          simp only [keysOfS, List.filterMap_cons, hq] at hn
          exact (List.nodup_cons.1 hn).1 (by rw [ejk]; exact hmem)
        simp [this]
      · rfl
theorem modify_toListS (es : Array MapEntry) (i : Nat) (e : MapEntry) (f : MapEntry → MapEntry) (h : es[i]? = some e) : (es.modify i f).toList = es.toList.set i (f e) := by
  apply List.ext_getElem?
  intro n
  rw [List.getElem?_set, Array.getElem?_toList, Array.getElem?_modify]
  split
  · rename_i hn; subst hn; obtain ⟨hlt, he⟩ := Array.getElem?_eq_some_iff.1 h; simp [hlt, he]
  · simp
theorem run_mapUpdate_str (h : StrMap w b m) (hT : P.underlying T = some (.map K E)) (hK : P.underlying K = some .string) (k : List UInt8) (v : Value) :
    ∃ w', (Instr.mapUpdate T (.map (some b)) (.string (strB k)) v).run P w = .ok () w' ∧ Touch (fun x => x = b) w w' ∧ StrMap w' b (updS m k v) ∧ w'.heap.size = w.heap.size := by
  obtain ⟨es, clk, hb, hg, hm⟩ := h
  obtain ⟨r, h1, h2, h3⟩ := run_findKey_str (P := P) hK hg.int k w
  rw [hm] at h2
  unfold Instr.mapUpdate
  simp only [Sem.run_bind, run_underlying hT, Result.andThen_ok, getObj, Sem.run, hb, Sem.run_pure, run_checkKey_str hK, h1]
  cases r with
  | none =>
    have hmk : m k = none := by simpa using h2.symm
    refine ⟨w.putObj b (.map (es.push { key := .string (strB k), val := v, born := clk }) (clk + 1)), ?_, (Touch.refl _ _).putObj (.inl (by exact rfl)) _, ⟨_, _, putObj_self hb, ?_, ?_⟩, by simp⟩
    · simp [setObj, Sem.run, hb, World.putObj]
    · refine ⟨?_, ?_, ?_, ?_⟩
      · intro e he
        rw [Array.toList_push] at he
        rcases List.mem_append.1 he with he | he
        · exact hg.int e he
        · cases List.mem_singleton.1 he; exact ⟨k, rfl⟩
      · have := getES_none ((hm k).trans hmk)
        simp only [Array.toList_push, keysOfS, List.filterMap_append, List.filterMap_cons, List.filterMap_nil, keyS]
        rw [List.nodup_append]
        refine ⟨hg.keys, by simp, fun a ha c hc => ?_⟩
        simp only [List.mem_singleton] at hc
        subst hc; exact fun e => this (by rw [← e]; exact ha)
      · simp only [Array.toList_push, List.map_append, List.map_cons, List.map_nil]
        rw [List.nodup_append]
        refine ⟨hg.born, by simp, fun a ha c hc => ?_⟩
        simp only [List.mem_singleton] at hc
        obtain ⟨e, he, rfl⟩ := List.mem_map.1 ha
        have := hg.clock e he
        omega
      · intro e he
        simp only [Array.toList_push, List.mem_append, List.mem_singleton] at he
        rcases he with he | rfl
        · have := hg.clock e he; omega
        · simp
    · intro j
      rw [Array.toList_push, getES_append, hm]
      unfold updS
      by_cases hjk : j = k
      · subst hjk; simp [hmk]
      · simp only [hjk, Ne.symm hjk, if_false]
        cases m j <;> rfl
  | some p =>
    obtain ⟨i, u⟩ := p
    obtain ⟨hlt, e, he, hke⟩ := h3 _ rfl
    have hlt' : i < es.size := by simpa using hlt
    have he' : es[i]? = some e := by simpa using he
    have hkt : (Instr.keyThatStays (((es[i]?).map (·.key)).getD (.string (strB k))) (.string (strB k))).run P w = .ok (.string (strB k)) w := by
      simp only [he', Option.map_some, Option.getD_some, hke, Instr.keyThatStays]
      simp [Instr.sameBits, strB_eqb]
    refine ⟨w.putObj b (.map (es.modify i fun e => { e with key := .string (strB k), val := v }) clk), ?_, (Touch.refl _ _).putObj (.inl (by exact rfl)) _, ⟨_, _, putObj_self hb, ?_, ?_⟩, by simp⟩
    · simp only [Sem.run_bind, hkt, Result.andThen_ok]
      simp [setObj, Sem.run, hb, World.putObj]
    · rw [modify_toListS es i e _ he']
      refine ⟨?_, ?_, ?_, ?_⟩
      · intro e' h'
        rcases List.mem_or_eq_of_mem_set h' with h' | rfl
        · exact hg.int e' h'
        · exact ⟨k, rfl⟩
      · rw [keysOfS_set he (by simp [keyS, hke])]; exact hg.keys
      · rw [List.map_set]
        have : (es.toList.map (·.born)).set i e.born = es.toList.map (·.born) := by
          apply List.ext_getElem?
          intro n
          rw [List.getElem?_set]
          split
          · rename_i h; subst h; simp [he']; omega
          · rfl
        simp only [this]; exact hg.born
      · intro e' h'
        rcases List.mem_or_eq_of_mem_set h' with h' | rfl
        · exact hg.clock e' h'
        · exact hg.clock e (List.mem_of_getElem? he)
    · intro j
      rw [modify_toListS es i e _ he', getES_set hg.keys he (keyS_of hke) rfl rfl, hm]
      rfl
end
theorem wpList_mapUpdate {P : Program} {w w' : World} {a : Act} {o : Oper} {ops : Array Oper} {rest : List Oper} {Q : Exit → Act → World → Prop} {t : TypeId} {x y z : Operand} {m k u : Value} (hg : o.guard = none) (ho : o.op = .mapUpdate t x y z) (hx : a.eval x = m) (hy : a.eval y = k) (hz : a.eval z = u)
    (hr : (Instr.mapUpdate t m k u).run P w = .ok () w') (h : wpList P ops Q rest (a.put o.dst undef) w') : wpList P ops Q (o :: rest) a w :=
  wpList_plain hg fun K hK => by unfold Oper.wp; rw [exec_mapUpdate ho hx hy hz hr]; exact hK _ _ h
end Go.Proofs.YtihfnegakcghiaaGreatDoor
namespace Go.Proofs.YtihfnegakcghiaaGreatDoor
open Go.RowKit
section
variable {P : Program} {ops : Array Oper} {rest : List Oper} {Q : Exit → Act → World → Prop} {a : Act} {w w' : World} {dst : Option Tmp} {ty : TypeId} {pos : String} {af : Array Edge} {t : TypeId} {x y z : Operand} {v m k u : Value}
theorem op_lookup {ok : Bool} (hr : (Instr.lookup t m k ok).run P w = .ok v w) (hx : a.eval x = m) (hy : a.eval y = k) (h : wpList P ops Q rest (a.put dst v) w) : wpList P ops Q (⟨dst, .lookup t x y ok, ty, pos, af, none⟩ :: rest) a w := wpList_run rfl (exec_lookup rfl hx hy hr) h
theorem op_lookupH {ok : Bool} {g : Nat × Bool} (hr : (Instr.lookup t m k ok).run P w = .ok v w) (hx : a.eval x = m) (hy : a.eval y = k) (hw : Region.wanted (⟨dst, .lookup t x y ok, ty, pos, af, some g⟩ : Oper) (yielded ops a.tmps) = true) (h : wpList P ops Q rest (a.put dst v) w) : wpList P ops Q (⟨dst, .lookup t x y ok, ty, pos, af, some g⟩ :: rest) a w := wpList_runG hw (exec_lookup rfl hx hy hr) h
theorem op_mapUpdate (hr : (Instr.mapUpdate t m k u).run P w = .ok () w') (hx : a.eval x = m) (hy : a.eval y = k) (hz : a.eval z = u) (h : wpList P ops Q rest a w') : wpList P ops Q (⟨none, .mapUpdate t x y z, ty, pos, af, none⟩ :: rest) a w := wpList_mapUpdate rfl rfl hx hy hz hr h
end
end Go.Proofs.YtihfnegakcghiaaGreatDoor
namespace Go.Proofs.YtihfnegakcghiaaGreatDoor
open Go.RowKit
theorem touch_of_below {S : Nat → Prop} {W W' : World} (h : Below W.heap.size W W') : Touch S W W' := ⟨h.os, h.tape, h.output, h.size, fun b hb _ => h.block b hb⟩
theorem Touch.pre {S : Nat → Prop} {W W1 W2 : World} (h : Below W.heap.size W W1) (g : Touch S W1 W2) : Touch S W W2 := (touch_of_below h).step g fun b _ hs => hs
theorem Touch.post {S : Nat → Prop} {W W1 W2 : World} (g : Touch S W W1) (h : Below W1.heap.size W1 W2) : Touch S W W2 := g.grow h
theorem run_lookup_i2 {P : Program} {w : World} {b : Nat} {m : Int → Option Value} {T K E : TypeId} (h : IntMap w b m) (hT : P.underlying T = some (.map K E)) (hK : P.underlying K = some (.int .i64)) {z : Value} (hz : ∀ w, (zeroValue E).run P w = .ok z w) (k : Int) :
    (Instr.lookup T (.map (some b)) (.int .i64 k) true).run P w = .ok (.tuple #[(m k).getD z, .bool (m k).isSome]) w := by
  obtain ⟨es, clk, hb, hg, hm⟩ := h
  obtain ⟨r, h1, h2, _⟩ := run_findKey_int (P := P) hK hg.int k w
  rw [hm] at h2
  unfold Instr.lookup
  simp only [Sem.run_bind, run_underlying hT, Result.andThen_ok, getObj, Sem.run, hb, Sem.run_pure, run_checkKey_int hK, h1]
  cases r with
  | none => simp [← h2, hz]
  | some e => simp [← h2]
section
variable {α : Type} {Ek : World → (Nat → Prop) → α → Array Value → Prop} {n : Nat} {id : α → Int} {W : World} {Q : Nat → Prop} {b : Nat} {l : List α} {P : Program} {T K E : TypeId}
theorem MapOf.get2 (h : MapOf Ek id W Q b l) (hT : P.underlying T = some (.map K E)) (hK : P.underlying K = some (.int .i64)) {z : Array Value} (hz : ∀ w, (zeroValue E).run P w = .ok (.agg z) w) (k : Int) :
    ∃ x, (∀ W' : World, W'.heap[b]? = W.heap[b]? → (Instr.lookup T (.map (some b)) (.int .i64 k) true).run P W' = .ok (.tuple #[.agg x, .bool (l.any fun a => id a == k)]) W') ∧ (∀ a ∈ l, id a = k → Ek W Q a x) ∧ ((l.any fun a => id a == k) = false → x = z) := by
  obtain ⟨m, h1, h2, h3, h4, h5⟩ := h
  have hr := fun (W' : World) (e : W'.heap[b]? = W.heap[b]?) => run_lookup_i2 (h1.of_heap e) hT hK hz k
  cases hf : l.any fun a => id a == k with
  | true =>
    rw [List.any_eq_true] at hf
    obtain ⟨a, ha, e⟩ := hf
    have e : id a = k := by simpa using e
    obtain ⟨x, e2, hx⟩ := h5 a ha
    rw [e] at e2
    simp only [e2] at hr
    refine ⟨x, hr, fun a' ha' e' => ?_, fun h => by cases h⟩
    rw [rise_one id h2 ha' ha (e'.trans e.symm)]
    exact hx
  | false =>
    have hn : m k = none := by
      by_cases e : m k = none
      · exact e
      · obtain ⟨a, ha, e2⟩ := (h4 k).1 e
        rw [List.any_eq_false] at hf
        exact absurd (by simpa using e2) (hf a ha)
    simp only [hn] at hr
    refine ⟨z, hr, fun a ha e => ?_, fun _ => rfl⟩
    rw [List.any_eq_false] at hf
    exact absurd (by simpa using e) (hf a ha)
theorem MapOf.entries (h : MapOf Ek id W Q b l) : ∃ es clk, W.heap[b]? = some (.map es clk) ∧ es.size = l.length := by
  obtain ⟨n1, n2, n3⟩ := h.nums
  obtain ⟨m, ⟨es, clk, hb, hg, hgm⟩, h2, h3, h4, h5⟩ := h
  refine ⟨es, clk, hb, ?_⟩
  obtain ⟨k1, k2⟩ := keys_map hg.int
  have hp : (keysOf es.toList).Perm (l.map id) := (List.perm_ext_iff_of_nodup hg.keys n1).2 fun k => by rw [← getE_mem, hgm, h4, List.mem_map]
  have := hp.length_eq
  rw [k1] at this
  simpa using this
end
section
variable {S : Nat → Prop} {W W' : World} {B : GB} {ma : Int → Option Value} {s : GS}
theorem GM.fresh_sp (h : GM S W B ma s) (hS : ∀ b, W.heap.size ≤ b → S b) {b : Nat} (hb : W.heap.size ≤ b) : S b ∧ ¬ GSp B ma b := ⟨hS b hb, fun e => by have := (h.sp_lt e).1; omega⟩
theorem GM.putNode (h : GM S W B ma s) (hS : ∀ b, W.heap.size ≤ b → S b) (g : Below W.heap.size W W') {n : NodeD} {x : Array Value} (hx : NOwn W' (fun b => W.heap.size ≤ b) n x) (hr : i64R n.id) :
    ∃ W2, (Instr.mapUpdate 68 (.map (some B.bn)) (.int .i64 n.id) (.agg x)).run Tryz.prog W' = .ok () W2 ∧ GM S W2 B ma { s with nodes := putBy NodeD.id n s.nodes } ∧ Touch (fun b => b = B.bn) W' W2 ∧ W2.heap.size = W'.heap.size := by
  have h2 := h.below g
  obtain ⟨W2, r1, r2, r3, r4⟩ := h2.nodes.put (P := Tryz.prog) el_node Tryz.underlying68 Tryz.underlying2 (el_node.imp (fun b _ hb => h.fresh_sp hS hb) hx) hr (fun e => e.2 (.inr (.inl rfl)))
  exact ⟨W2, r1, h2.noded r2 r3, r3, r4⟩
theorem GM.putRel (h : GM S W B ma s) (hS : ∀ b, W.heap.size ≤ b → S b) (g : Below W.heap.size W W') {n : RelD} {x : Array Value} (hx : ROwn W' (fun b => W.heap.size ≤ b) n x) (hr : i64R n.id) :
    ∃ W2, (Instr.mapUpdate 69 (.map (some B.br)) (.int .i64 n.id) (.agg x)).run Tryz.prog W' = .ok () W2 ∧ GM S W2 B ma { s with rels := putBy RelD.id n s.rels } ∧ Touch (fun b => b = B.br) W' W2 ∧ W2.heap.size = W'.heap.size := by
  have h2 := h.below g
  obtain ⟨W2, r1, r2, r3, r4⟩ := h2.rels.put (P := Tryz.prog) el_rel Tryz.underlying69 Tryz.underlying2 (el_rel.imp (fun b _ hb => h.fresh_sp hS hb) hx) hr (fun e => e.2 (.inr (.inr (.inl rfl))))
  exact ⟨W2, r1, h2.reled r2 r3, r3, r4⟩
theorem GM.delNode (h : GM S W B ma s) (k : Int) (T2 ty : TypeId) :
    ∃ W2, (Builtin.delete_ #[68, T2] ty #[.map (some B.bn), .int .i64 k]).run Tryz.prog W = .ok (.tuple #[]) W2 ∧ GM S W2 B ma { s with nodes := s.nodes.filter fun y => !(y.id == k) } ∧ Touch (fun b => b = B.bn) W W2 ∧ W2.heap.size = W.heap.size := by
  obtain ⟨W2, r1, r2, r3, r4⟩ := h.nodes.del (P := Tryz.prog) el_node Tryz.underlying68 Tryz.underlying2 k (fun e => e.2 (.inr (.inl rfl))) T2 ty
  exact ⟨W2, r1, h.noded r2 r3, r3, r4⟩
theorem GM.delRel (h : GM S W B ma s) (k : Int) (T2 ty : TypeId) :
    ∃ W2, (Builtin.delete_ #[69, T2] ty #[.map (some B.br), .int .i64 k]).run Tryz.prog W = .ok (.tuple #[]) W2 ∧ GM S W2 B ma { s with rels := s.rels.filter fun y => !(y.id == k) } ∧ Touch (fun b => b = B.br) W W2 ∧ W2.heap.size = W.heap.size := by
  obtain ⟨W2, r1, r2, r3, r4⟩ := h.rels.del (P := Tryz.prog) el_rel Tryz.underlying69 Tryz.underlying2 k (fun e => e.2 (.inr (.inr (.inl rfl)))) T2 ty
  exact ⟨W2, r1, h.reled r2 r3, r3, r4⟩
theorem GM.setNN (h : GM S W B ma s) (n : Int) : ∃ W2, (storeVar 2 ⟨B.gx, 3, none⟩ (.int .i64 n)).run Tryz.prog W = .ok () W2 ∧ GM S W2 B ma { s with nn := n } ∧ Touch (fun b => b = B.gx) W W2 ∧ W2.heap.size = W.heap.size := by
  have h0 := h.box
  have h1 := box_set (k := 3) (.int .i64 n) h0
  have e1 : (storeVar 2 ⟨B.gx, 3, none⟩ (.int .i64 n)).run Tryz.prog W = .ok () (W.setCell ⟨B.gx, 3, none⟩ (.int .i64 n)) := by
    have hc := cellOf (o := 3) h0 rfl
    have hf := freeOf (o := 3) h0
    simp [storeVar, go_sem, hc, hf]
  have ht : Touch (fun b => b = B.gx) W (W.setCell ⟨B.gx, 3, none⟩ (.int .i64 n)) := (Touch.refl _ W).setCell (.inl (by exact rfl)) _
  exact ⟨_, e1, h.boxed ⟨rfl, rfl, rfl⟩ h1 ht, ht, by simp⟩
theorem GM.setNR (h : GM S W B ma s) (n : Int) : ∃ W2, (storeVar 2 ⟨B.gx, 4, none⟩ (.int .i64 n)).run Tryz.prog W = .ok () W2 ∧ GM S W2 B ma { s with nr := n } ∧ Touch (fun b => b = B.gx) W W2 ∧ W2.heap.size = W.heap.size := by
  have h0 := h.box
  have h1 := box_set (k := 4) (.int .i64 n) h0
  have e1 : (storeVar 2 ⟨B.gx, 4, none⟩ (.int .i64 n)).run Tryz.prog W = .ok () (W.setCell ⟨B.gx, 4, none⟩ (.int .i64 n)) := by
    have hc := cellOf (o := 4) h0 rfl
    have hf := freeOf (o := 4) h0
    simp [storeVar, go_sem, hc, hf]
  have ht : Touch (fun b => b = B.gx) W (W.setCell ⟨B.gx, 4, none⟩ (.int .i64 n)) := (Touch.refl _ W).setCell (.inl (by exact rfl)) _
  exact ⟨_, e1, h.boxed ⟨rfl, rfl, rfl⟩ h1 ht, ht, by simp⟩
theorem AtM.strike {P : Program} {T K E : TypeId} {f : Int → List Int} {ba : Nat} (h : AtM S W ba ma f) (hT : P.underlying T = some (.map K E)) (hK : P.underlying K = some (.int .i64)) (k : Int) (T2 ty : TypeId) :
    ∃ W2, (Builtin.delete_ #[T, T2] ty #[.map (some ba), .int .i64 k]).run P W = .ok (.tuple #[]) W2 ∧ AtM S W2 ba (delI ma k) (setI f k []) ∧ (∀ b, Rows (delI ma k) b → Rows ma b) ∧ Touch (fun b => b = ba) W W2 ∧ W2.heap.size = W.heap.size := by
  obtain ⟨W2, r1, r2, r3, r4⟩ := run_delete_int (P := P) h.map hT hK k T2 ty
  have hd : ∀ j v, delI ma k j = some v → j ≠ k ∧ ma j = some v := fun j v e => by
    unfold delI at e
    split at e
    · cases e
    · rename_i hj; exact ⟨hj, e⟩
  have hsub : ∀ b, Rows (delI ma k) b → Rows ma b := fun b ⟨j, v, e, hb⟩ => ⟨j, v, (hd j v e).2, hb⟩
  refine ⟨W2, r1, ⟨r3, h.own, fun j e => ?_, fun j v e => ?_, fun i j u v b e1 e2 h1 h2 => h.apart i j u v b (hd i u e1).2 (hd j v e2).2 h1 h2, fun j => ?_, fun j => ?_⟩, hsub, r2, r4⟩
  · unfold setI
    split
    · rfl
    · rename_i hj
      unfold delI at e
      rw [if_neg hj] at e
      exact h.nil j e
  · obtain ⟨hj, e2⟩ := hd j v e
    unfold setI
    rw [if_neg hj]
    have hr := h.rows j v e2
    exact ⟨ownsRow_heap hr.1 fun g hg => r2.block g (hr.1.lt g hg).2 fun e3 => h.ne ⟨j, v, e2, by rw [← e3]; exact hg⟩, hr.2⟩
  · unfold setI
    split
    · exact List.Pairwise.nil
    · exact h.rise j
  · unfold setI
    split
    · simp
    · exact h.few j
theorem GM.delRow (h : GM S W B ma s) (k : Int) (T2 ty : TypeId) :
    ∃ W2 ma', (Builtin.delete_ #[70, T2] ty #[.map (some B.ba), .int .i64 k]).run Tryz.prog W = .ok (.tuple #[]) W2 ∧ GM S W2 B ma' { s with adj := setI s.adj k [] } ∧ (∀ b, b < W.heap.size → Rows ma' b → Rows ma b) ∧ Touch (fun b => b = B.ba) W W2 ∧ W2.heap.size = W.heap.size := by
  obtain ⟨W2, r1, r2, r3, r4, r5⟩ := h.adj.strike (P := Tryz.prog) Tryz.underlying70 Tryz.underlying2 k T2 ty
  exact ⟨W2, _, r1, h.linked r2 (fun b _ => r3 b) (r4.mono fun b _ e => .inl e), fun b _ => r3 b, r4, r5⟩
end
def gsOf (g : GraphD) : GS := sOf g (touchD g.rels)
theorem gsOf_eq {s : GS} (h : AdjOk s) : s = gsOf s.graph := by
  obtain ⟨n, r, a, x, y⟩ := s
  have : a = touchD r := funext h
  subst this
  rfl
def GG (S : Nat → Prop) (W : World) (B : GB) (g : GraphD) : Prop := ∃ ma, GM S W B ma (gsOf g)
theorem GG.below {S : Nat → Prop} {W W' : World} {B : GB} {g : GraphD} (h : GG S W B g) (hb : Below W.heap.size W W') : GG S W' B g := by obtain ⟨ma, h⟩ := h; exact ⟨ma, h.below hb⟩
theorem GG.imp {S S' : Nat → Prop} {W : World} {B : GB} {g : GraphD} (h : GG S W B g) (hp : ∀ b, b < W.heap.size → S b → S' b) : GG S' W B g := by obtain ⟨ma, h⟩ := h; exact ⟨ma, h.imp hp⟩
theorem GG.made {S : Nat → Prop} {W : World} {B : GB} {ma : Int → Option Value} {g : GraphD} (hok : okG g = true) (h : GM S W B ma (madeG g)) : GG S W B g := by
  refine ⟨ma, ?_⟩
  rw [gsOf_eq (adj_made (ok_parts hok).2.1)] at h
  exact h
theorem GM.kept {S : Nat → Prop} {W W' : World} {B : GB} {ma : Int → Option Value} {s : GS} (h : GM S W B ma s) (hk : ∀ b, S b → b < W.heap.size → W'.heap[b]? = W.heap[b]?) : GM S W' B ma s := by
  obtain ⟨l1, l2, l3, l4⟩ := h.lts
  exact ⟨(hk _ h.own.1 l1).trans h.box, h.nodes.keep el_node (hk _ h.own.2.1 l2) fun b hb hl => hk b hb.1 hl, h.rels.keep el_rel (hk _ h.own.2.2 l3) fun b hb hl => hk b hb.1 hl,
    h.adj.keep (hk _ h.adj.own l4) fun b hb => hk b (h.adj.block hb).2.1 (h.adj.block hb).1, h.own, h.ne⟩
theorem GG.kept {S : Nat → Prop} {W W' : World} {B : GB} {g : GraphD} (h : GG S W B g) (hk : ∀ b, S b → b < W.heap.size → W'.heap[b]? = W.heap[b]?) : GG S W' B g := by obtain ⟨ma, h⟩ := h; exact ⟨ma, h.kept hk⟩
theorem touchD_len (l : List RelD) (j : Int) : (touchD l j).length ≤ l.length := by unfold touchD; rw [List.length_map]; exact List.length_filter_le _ _
end Go.Proofs.YtihfnegakcghiaaGreatDoor
namespace Go.Proofs.YtihfnegakcghiaaGreatDoor
open Go.RowKit Go.Sort
section
variable {α : Type} [Inhabited α] (enc : α → Value) (W : World) (g m : Nat) (d : Array α) (os : Array Obj)
theorem sortWorld_other {b : Nat} (hb : b < W.heap.size) (hg : b ≠ g) : (sortWorld enc W g 0 m d os).heap[b]? = W.heap[b]? := by
  unfold sortWorld
  rw [heap_grow_old _ _ (by simpa using hb)]
  unfold putRow mapBlock
  show (W.heap.modify g _)[b]? = _
  rw [Array.getElem?_modify, if_neg (fun e => hg e.symm)]
theorem sortWorld_row {cs : Array Value} {t : TypeId} {fr : Nat × Nat} (h : W.heap[g]? = some (.cells cs t fr)) : (sortWorld enc W g 0 m d os).heap[g]? = some (.cells (putCells enc 0 d cs) t fr) := by
  have hb := (Array.getElem?_eq_some_iff.1 h).1
  unfold sortWorld
  rw [heap_grow_old _ _ (by simpa using hb)]
  unfold putRow mapBlock
  show (W.heap.modify g _)[g]? = _
  rw [Array.getElem?_modify, if_pos rfl, h]
  rfl
theorem sortWorld_size : W.heap.size ≤ (sortWorld enc W g 0 m d os).heap.size := by
  unfold sortWorld
  simp
theorem sortWorld_touch : Touch (fun b => b = g) W (sortWorld enc W g 0 m d os) := ⟨rfl, rfl, rfl, sortWorld_size enc W g m d os, fun b hb hg => sortWorld_other enc W g m d os hb hg⟩
end
theorem extract_all {β : Type} (d : Array β) (n : Nat) (h : d.size ≤ n) : d.extract 0 n = d := by
  apply Array.ext_getElem?
  intro i
  rw [Array.getElem?_extract]
  by_cases hi : i < d.size
  · rw [if_pos (by omega), Nat.zero_add]
  · rw [if_neg (by omega), Array.getElem?_eq_none (by omega)]
end Go.Proofs.YtihfnegakcghiaaGreatDoor
namespace Go.Proofs
open Go.Shelf
def Tryz.sortProps_ren : Go.Shelf.Ren := ⟨fun | 6 => 103 | 15 => 107 | 14 => 149 | 28 => 160 | 29 => 161 | 20 => 194 | 21 => 195 | 22 => 196 | 23 => 197 | 24 => 198 | 25 => 199 | 26 => 200 | 27 => 201 | 46 => 222 | 47 => 203 | 48 => 204 | 49 => 223 | 50 => 224 | 57 => 238 | n => n, fun | 22 => 27 | 24 => 47 | 25 => 147 | 3 => 3 | 39 => 150 | 0 => 0 | 53 => 191 | 55 => 193 | 4 => 4 | 46 => 184 | 45 => 183 | 50 => 138 | 5 => 5 | 9 => 9 | 66 => 220 | 70 => 224 | 76 => 236 | 77 => 237 | n => n, fun | n => n⟩
theorem Tryz.sortProps : Go.Proofs.SlLaysF0.n6 Tryz.prog Tryz.sortProps_ren := {
  mixed := by kernel_rfl
  f6 := ⟨Tryz.f103.name, by decide, Tryz.func103.trans (congrArg some (by kernel_rfl))⟩
  f14 := ⟨Tryz.f149.name, by decide, Tryz.func149.trans (congrArg some (by kernel_rfl))⟩
  f15 := Tryz.func107.trans (congrArg some (by kernel_rfl))
  f20 := ⟨Tryz.f194.name, by decide, Tryz.func194.trans (congrArg some (by kernel_rfl))⟩
  f21 := ⟨Tryz.f195.name, by decide, Tryz.func195.trans (congrArg some (by kernel_rfl))⟩
  f22 := ⟨Tryz.f196.name, by decide, Tryz.func196.trans (congrArg some (by kernel_rfl))⟩
  f23 := ⟨Tryz.f197.name, by decide, Tryz.func197.trans (congrArg some (by kernel_rfl))⟩
  f24 := ⟨Tryz.f198.name, by decide, Tryz.func198.trans (congrArg some (by kernel_rfl))⟩
  f25 := ⟨Tryz.f199.name, by decide, Tryz.func199.trans (congrArg some (by kernel_rfl))⟩
  f26 := ⟨Tryz.f200.name, by decide, Tryz.func200.trans (congrArg some (by kernel_rfl))⟩
  f27 := ⟨Tryz.f201.name, by decide, Tryz.func201.trans (congrArg some (by kernel_rfl))⟩
  f28 := Tryz.func160.trans (congrArg some (by kernel_rfl))
  f29 := Tryz.func161.trans (congrArg some (by kernel_rfl))
  f46 := ⟨Tryz.f222.name, by decide, Tryz.func222.trans (congrArg some (by kernel_rfl))⟩
  f47 := Tryz.func203.trans (congrArg some (by kernel_rfl))
  f48 := Tryz.func204.trans (congrArg some (by kernel_rfl))
  f49 := ⟨Tryz.f223.name, by decide, Tryz.func223.trans (congrArg some (by kernel_rfl))⟩
  f50 := ⟨Tryz.f224.name, by decide, Tryz.func224.trans (congrArg some (by kernel_rfl))⟩
  f57 := ⟨Tryz.f238.name, by decide, Tryz.func238.trans (congrArg some (by kernel_rfl))⟩
  t0 := Tryz.underlying0
  a0 := Tryz.isAgg0
  z0 := Tryz.sizeOf0
  v0 := Tryz.zeroValue0
  t3 := Tryz.underlying3
  a3 := Tryz.isAgg3
  z3 := Tryz.sizeOf3
  v3 := Tryz.zeroValue3
  t4 := Tryz.underlying4
  a4 := Tryz.isAgg4
  z4 := Tryz.sizeOf4
  v4 := Tryz.zeroValue4
  t5 := Tryz.underlying5
  a5 := Tryz.isAgg5
  z5 := Tryz.sizeOf5
  v5 := Tryz.zeroValue5
  t9 := Tryz.underlying9
  a9 := Tryz.isAgg9
  z9 := Tryz.sizeOf9
  v9 := Tryz.zeroValue9
  t22 := Tryz.underlying27
  a22 := Tryz.isAgg27
  z22 := Tryz.sizeOf27
  v22 := Tryz.zeroValue27
  t25 := Tryz.underlying147
  a25 := Tryz.isAgg147
  z25 := Tryz.sizeOf147
  v25 := Tryz.zeroValue147
  t39 := Tryz.underlying150
  a39 := Tryz.isAgg150
  z39 := Tryz.sizeOf150
  v39 := Tryz.zeroValue150
  t45 := Tryz.underlying183
  a45 := Tryz.isAgg183
  z45 := Tryz.sizeOf183
  v45 := Tryz.zeroValue183
  t46 := Tryz.underlying184
  a46 := Tryz.isAgg184
  z46 := Tryz.sizeOf184
  v46 := Tryz.zeroValue184
  t50 := Tryz.underlying138
  a50 := Tryz.isAgg138
  z50 := Tryz.sizeOf138
  v50 := Tryz.zeroValue138
  t53 := Tryz.underlying191
  a53 := Tryz.isAgg191
  z53 := Tryz.sizeOf191
  v53 := Tryz.zeroValue191
  t55 := Tryz.underlying193
  a55 := Tryz.isAgg193
  z55 := Tryz.sizeOf193
  v55 := Tryz.zeroValue193
  t66 := Tryz.underlying220
  a66 := Tryz.isAgg220
  z66 := Tryz.sizeOf220
  v66 := Tryz.zeroValue220
  t70 := Tryz.underlying224
  a70 := Tryz.isAgg224
  z70 := Tryz.sizeOf224
  v70 := Tryz.zeroValue224
  t76 := Tryz.underlying236
  a76 := Tryz.isAgg236
  z76 := Tryz.sizeOf236
  v76 := Tryz.zeroValue236
  t77 := Tryz.underlying237
  a77 := Tryz.isAgg237
  z77 := Tryz.sizeOf237
  v77 := Tryz.zeroValue237 }
def Tryz.deleteI_ren : Go.Shelf.Ren := ⟨fun | 45 => 97 | n => n, fun | 22 => 96 | 23 => 2 | 3 => 3 | 4 => 4 | 0 => 0 | n => n, fun | n => n⟩
theorem Tryz.deleteI : Go.Proofs.SlLaysE.n45 Tryz.prog Tryz.deleteI_ren := {
  mixed := by kernel_rfl
  f45 := ⟨Tryz.f97.name, by decide, Tryz.func97.trans (congrArg some (by kernel_rfl))⟩
  t0 := Tryz.underlying0
  a0 := Tryz.isAgg0
  z0 := Tryz.sizeOf0
  v0 := Tryz.zeroValue0
  t3 := Tryz.underlying3
  a3 := Tryz.isAgg3
  z3 := Tryz.sizeOf3
  v3 := Tryz.zeroValue3
  t4 := Tryz.underlying4
  a4 := Tryz.isAgg4
  z4 := Tryz.sizeOf4
  v4 := Tryz.zeroValue4
  t22 := Tryz.underlying96
  a22 := Tryz.isAgg96
  z22 := Tryz.sizeOf96
  v22 := Tryz.zeroValue96
  a23 := Tryz.isAgg2
  z23 := Tryz.sizeOf2 }
def Tryz.sortS_ren : Go.Shelf.Ren := ⟨fun | 6 => 45 | 8 => 107 | 9 => 106 | 19 => 160 | 20 => 161 | 21 => 151 | 22 => 152 | 23 => 153 | 24 => 154 | 25 => 155 | 26 => 156 | 27 => 157 | 28 => 158 | 29 => 159 | 36 => 202 | 31 => 203 | 32 => 204 | 37 => 205 | 38 => 206 | 39 => 150 | 41 => 225 | n => n, fun | 27 => 26 | 29 => 9 | 3 => 3 | 32 => 150 | 26 => 26 | 0 => 0 | 44 => 191 | 46 => 193 | 4 => 4 | 36 => 184 | 35 => 183 | 41 => 138 | 5 => 5 | 9 => 9 | 53 => 220 | 57 => 224 | 63 => 236 | 64 => 237 | n => n, fun | n => n⟩
theorem Tryz.sortS : Go.Proofs.SlLaysM.n6 Tryz.prog Tryz.sortS_ren := {
  mixed := by kernel_rfl
  f6 := ⟨Tryz.f45.name, by decide, Tryz.func45.trans (congrArg some (by kernel_rfl))⟩
  f8 := Tryz.func107.trans (congrArg some (by kernel_rfl))
  f9 := ⟨Tryz.f106.name, by decide, Tryz.func106.trans (congrArg some (by kernel_rfl))⟩
  f19 := Tryz.func160.trans (congrArg some (by kernel_rfl))
  f20 := Tryz.func161.trans (congrArg some (by kernel_rfl))
  f21 := ⟨Tryz.f151.name, by decide, Tryz.func151.trans (congrArg some (by kernel_rfl))⟩
  f22 := ⟨Tryz.f152.name, by decide, Tryz.func152.trans (congrArg some (by kernel_rfl))⟩
  f23 := ⟨Tryz.f153.name, by decide, Tryz.func153.trans (congrArg some (by kernel_rfl))⟩
  f24 := ⟨Tryz.f154.name, by decide, Tryz.func154.trans (congrArg some (by kernel_rfl))⟩
  f25 := ⟨Tryz.f155.name, by decide, Tryz.func155.trans (congrArg some (by kernel_rfl))⟩
  f26 := ⟨Tryz.f156.name, by decide, Tryz.func156.trans (congrArg some (by kernel_rfl))⟩
  f27 := ⟨Tryz.f157.name, by decide, Tryz.func157.trans (congrArg some (by kernel_rfl))⟩
  f28 := ⟨Tryz.f158.name, by decide, Tryz.func158.trans (congrArg some (by kernel_rfl))⟩
  f29 := ⟨Tryz.f159.name, by decide, Tryz.func159.trans (congrArg some (by kernel_rfl))⟩
  f31 := Tryz.func203.trans (congrArg some (by kernel_rfl))
  f32 := Tryz.func204.trans (congrArg some (by kernel_rfl))
  f36 := ⟨Tryz.f202.name, by decide, Tryz.func202.trans (congrArg some (by kernel_rfl))⟩
  f37 := ⟨Tryz.f205.name, by decide, Tryz.func205.trans (congrArg some (by kernel_rfl))⟩
  f38 := ⟨Tryz.f206.name, by decide, Tryz.func206.trans (congrArg some (by kernel_rfl))⟩
  f39 := ⟨Tryz.f150.name, by decide, Tryz.func150.trans (congrArg some (by kernel_rfl))⟩
  f41 := ⟨Tryz.f225.name, by decide, Tryz.func225.trans (congrArg some (by kernel_rfl))⟩
  t0 := Tryz.underlying0
  a0 := Tryz.isAgg0
  z0 := Tryz.sizeOf0
  v0 := Tryz.zeroValue0
  t3 := Tryz.underlying3
  a3 := Tryz.isAgg3
  z3 := Tryz.sizeOf3
  v3 := Tryz.zeroValue3
  t4 := Tryz.underlying4
  a4 := Tryz.isAgg4
  z4 := Tryz.sizeOf4
  v4 := Tryz.zeroValue4
  t5 := Tryz.underlying5
  a5 := Tryz.isAgg5
  z5 := Tryz.sizeOf5
  v5 := Tryz.zeroValue5
  t9 := Tryz.underlying9
  a9 := Tryz.isAgg9
  z9 := Tryz.sizeOf9
  v9 := Tryz.zeroValue9
  t26 := Tryz.underlying26
  a26 := Tryz.isAgg26
  z26 := Tryz.sizeOf26
  v26 := Tryz.zeroValue26
  t27 := Tryz.underlying26
  a27 := Tryz.isAgg26
  z27 := Tryz.sizeOf26
  v27 := Tryz.zeroValue26
  t29 := Tryz.underlying9
  a29 := Tryz.isAgg9
  z29 := Tryz.sizeOf9
  v29 := Tryz.zeroValue9
  t32 := Tryz.underlying150
  a32 := Tryz.isAgg150
  z32 := Tryz.sizeOf150
  v32 := Tryz.zeroValue150
  t35 := Tryz.underlying183
  a35 := Tryz.isAgg183
  z35 := Tryz.sizeOf183
  v35 := Tryz.zeroValue183
  t36 := Tryz.underlying184
  a36 := Tryz.isAgg184
  z36 := Tryz.sizeOf184
  v36 := Tryz.zeroValue184
  t41 := Tryz.underlying138
  a41 := Tryz.isAgg138
  z41 := Tryz.sizeOf138
  v41 := Tryz.zeroValue138
  t44 := Tryz.underlying191
  a44 := Tryz.isAgg191
  z44 := Tryz.sizeOf191
  v44 := Tryz.zeroValue191
  t46 := Tryz.underlying193
  a46 := Tryz.isAgg193
  z46 := Tryz.sizeOf193
  v46 := Tryz.zeroValue193
  t53 := Tryz.underlying220
  a53 := Tryz.isAgg220
  z53 := Tryz.sizeOf220
  v53 := Tryz.zeroValue220
  t57 := Tryz.underlying224
  a57 := Tryz.isAgg224
  z57 := Tryz.sizeOf224
  v57 := Tryz.zeroValue224
  t63 := Tryz.underlying236
  a63 := Tryz.isAgg236
  z63 := Tryz.sizeOf236
  v63 := Tryz.zeroValue236
  t64 := Tryz.underlying237
  a64 := Tryz.isAgg237
  z64 := Tryz.sizeOf237
  v64 := Tryz.zeroValue237 }
end Go.Proofs
