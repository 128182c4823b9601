/- GraphChecks, for what is of bulk at most 1048576: the law returns true, and the arguments read as they did. The listed tables of Go's library read as the program's text lays them. -/
import Derived.Test.YtihfnegakcghiaaGreatDoorZGchecksb
import Derived.Test.YtihfnegakcghiaaGreatDoorZGchecksc
import Derived.Test.YtihfnegakcghiaaGreatDoorZGchecksd
import Derived.Test.YtihfnegakcghiaaGreatDoorZGcheckse
import Derived.Test.YtihfnegakcghiaaGreatDoorCards
import Derived.Test.YtihfnegakcghiaaGreatDoorTie
set_option linter.unusedSimpArgs false
set_option linter.unusedVariables false
set_option linter.unnecessarySimpa false
set_option maxRecDepth 100000
set_option maxHeartbeats 64000000
namespace Go.Proofs.YtihfnegakcghiaaGreatDoor
open Go.RowKit
def finePs (l : List PropD) : Bool := l.all fun p => okV p.val
def fineG (g : GraphD) : Bool := (g.nodes.all fun n => finePs n.props) && g.rels.all fun r => finePs r.props
theorem sameV_eq (a b : V) : sameV a b = (alikeV a b && okV a) := by
  rw [Bool.eq_iff_iff]
  rw [Bool.and_eq_true, alikeV_iff]
  constructor
  · intro h
    have h2 := h
    unfold sameV at h2
    simp only [Bool.and_eq_true, decide_eq_true_eq] at h2
    exact ⟨(sameV_iff h2.1.1 h2.1.2).1 h, h2.1.1⟩
  · rintro ⟨rfl, h⟩
    exact (sameV_iff h h).2 rfl
theorem samePs_eq : ∀ (l m : List PropD), all2 sameP l m = (all2 sameQ l m && finePs l)
  | [], [] => rfl
  | [], _ :: _ => rfl
  | _ :: _, [] => rfl
  | p :: l, q :: m => by
    have ih := samePs_eq l m
    have h1 : sameP p q = (sameQ p q && okV p.val) := by
      unfold sameP sameQ
      rw [sameV_eq, Bool.and_assoc]
    unfold finePs at ih ⊢
    simp only [all2, List.all_cons, ih, h1]
    cases sameQ p q <;> cases okV p.val <;> cases all2 sameQ l m <;> simp
theorem sameNs_eq : ∀ (l m : List NodeD), all2 sameN l m = (all2 sameNQ l m && l.all fun n => finePs n.props)
  | [], [] => rfl
  | [], _ :: _ => rfl
  | _ :: _, [] => rfl
  | p :: l, q :: m => by
    have ih := sameNs_eq l m
    have h1 : sameN p q = (sameNQ p q && finePs p.props) := by unfold sameN sameNQ; rw [samePs_eq, Bool.and_assoc]; simp [Bool.and_assoc]
    simp only [all2, List.all_cons, ih, h1]
    cases sameNQ p q <;> cases finePs p.props <;> cases all2 sameNQ l m <;> simp
theorem sameRs_eq : ∀ (l m : List RelD), all2 sameR l m = (all2 sameRQ l m && l.all fun n => finePs n.props)
  | [], [] => rfl
  | [], _ :: _ => rfl
  | _ :: _, [] => rfl
  | p :: l, q :: m => by
    have ih := sameRs_eq l m
    have h1 : sameR p q = (sameRQ p q && finePs p.props) := by unfold sameR sameRQ; rw [samePs_eq]; simp [Bool.and_assoc]
    simp only [all2, List.all_cons, ih, h1]
    cases sameRQ p q <;> cases finePs p.props <;> cases all2 sameRQ l m <;> simp
theorem sameG_eq (a b : GraphD) : sameG a b = (sameGQ a b && fineG a) := by
  unfold sameG sameGQ fineG
  rw [sameNs_eq, sameRs_eq]
  generalize all2 sameNQ a.nodes b.nodes = x1
  generalize all2 sameRQ a.rels b.rels = x2
  generalize (a.nodes.all fun n => finePs n.props) = x3
  generalize (a.rels.all fun n => finePs n.props) = x4
  cases x1 <;> cases x2 <;> cases x3 <;> cases x4 <;> simp
theorem all_take {α : Type} {f : α → Bool} {l : List α} {j : Nat} (hj : j < l.length) : (l.take (j + 1)).all f = ((l.take j).all f && f l[j]) := by
  rw [List.take_succ_eq_append_getElem hj, List.all_append]; simp
theorem all_no {α : Type} {f : α → Bool} {l : List α} {j : Nat} (hj : j < l.length) (h : f l[j] = false) : l.all f = false := by
  rw [Bool.eq_false_iff]; intro e
  rw [List.all_eq_true] at e
  have := e _ (List.getElem_mem hj)
  rw [h] at this; cases this
theorem reffine_any {w : World} {g : GraphD} {x : Array Value} (h : GrRd w g x) (ht : GTot g) : Calls Tryz.prog 26 #[.agg x] w fun e w' => e = .returned (.bool (fineG g)) ∧ Below w.heap.size w w' := by
  obtain ⟨pn, cn, pr, cr, rfl, hn, hr⟩ := h
  have hb1 := below_new (w := w) (.cells #[.slice pn g.nodes.length cn, .slice pr g.rels.length cr, .int .i64 g.nextNode, .int .i64 g.nextRel] 25)
  have hx1 := heap_alloc_new w (.cells #[.slice pn g.nodes.length cn, .slice pr g.rels.length cr, .int .i64 g.nextNode, .int .i64 g.nextRel] 25)
  have p0 : (w.alloc (.cells #[.slice pn g.nodes.length cn, .slice pr g.rels.length cr, .int .i64 g.nextNode, .int .i64 g.nextRel] 25)).cell? ⟨w.heap.size, 0, none⟩ = some (.slice pn g.nodes.length cn) := cellOf (o := 0) hx1 rfl
  have p1 : (w.alloc (.cells #[.slice pn g.nodes.length cn, .slice pr g.rels.length cr, .int .i64 g.nextNode, .int .i64 g.nextRel] 25)).cell? ⟨w.heap.size, 1, none⟩ = some (.slice pr g.rels.length cr) := cellOf (o := 1) hx1 rfl
  have z1 : (g.nodes.length : Int) ≤ 140737488355328 := by have := hn.1.2.1; omega
  have z2 : (g.rels.length : Int) ≤ 140737488355328 := by have := hr.1.2.1; omega
  have hn1 := hn.below (fun h => h.below hb1) hb1
  have hr1 := hr.below (fun h => h.below hb1) hb1
  have HX := Lib.hid hb1
  have HC := Lib.hid (And.intro p0 p1)
  have HN := Lib.hid (And.intro hn1 hr1)
  have HT := Lib.hid ht
  clear hn hr hb1 hx1 p0 p1 hn1 hr1 ht
  go_enter Tryz.func26, Tryz.ntmps26
  go_wp2
  obtain ⟨w2, hw2⟩ : ∃ w2, w2 = (w.alloc (.cells #[.slice pn g.nodes.length cn, .slice pr g.rels.length cr, .int .i64 g.nextNode, .int .i64 g.nextRel] 25)) := ⟨_, rfl⟩
  rw [← hw2] at HX HN HC ⊢
  clear hw2
  go_loopw [3] (fun i W => ∃ j : Nat, j ≤ g.nodes.length ∧ i = .int .i64 (j : Int) ∧ Hid ((g.nodes.take j).all (fun n => finePs n.props) = true ∧ Below w2.heap.size w2 W)) (fun i _ => g.nodes.length - (intOf i).toNat)
  case atStart => exact ⟨0, Nat.zero_le _, rfl, Lib.hid ⟨rfl, Below.refl _ _⟩⟩
  case round =>
    obtain ⟨j, hj, rfl, HI⟩ := hrel
    have gw : wr.cell? ⟨w.heap.size, 0, none⟩ = some (.slice pn g.nodes.length cn) := belowCell HI.out.2 (ltOf HC.out.1) HC.out.1
    by_cases hlt : j < g.nodes.length
    · have hlt1 : j + 1 ≤ g.nodes.length := hlt
      obtain ⟨b1, o1, cs, rfl, _, hcc, hv⟩ := (HN.out.1.below (fun h => h.below HI.out.2) HI.out.2).get hlt
      have htv := HT.out.1 _ (List.getElem_mem hlt)
      obtain ⟨pl, cl, pp, cp, rfl, hls, hps⟩ := hv
      have c2 : wr.cell? ⟨b1, o1 + j * 3 + 2, none⟩ = some (.slice pp g.nodes[j].props.length cp) := hcc 2 _ rfl
      have hno := all_no (f := fun n => finePs n.props) hlt
      have hye := all_take (f := fun n => finePs n.props) hlt
      rw [HI.out.1, Bool.true_and] at hye
      generalize g.nodes[j].props = ps at *
      have z3 : (ps.length : Int) ≤ 140737488355328 := by have := hps.1.2.1; omega
      have HM := Lib.hid (And.intro hno hye)
      have HPS := Lib.hid (And.intro hps htv)
      have HC2 := Lib.hid (And.intro gw c2)
      have HBW := Lib.hid HI.out.2
      clear hno hye hps htv hcc hls HI
      go_wp2
      clear gw c2
      go_loopw [4] (fun i W => ∃ k : Nat, k ≤ ps.length ∧ i = .int .i64 (k : Int) ∧ Hid ((ps.take k).all (fun p => okV p.val) = true ∧ Below wr.heap.size wr W)) (fun i _ => ps.length - (intOf i).toNat)
      case atStart => exact ⟨0, Nat.zero_le _, rfl, Lib.hid ⟨rfl, Below.refl _ _⟩⟩
      case round =>
        rename_i wq wr
        obtain ⟨k, hk, rfl, HJ⟩ := hrel
        have gw := belowCell HJ.out.2 (ltOf HC2.out.1) HC2.out.1
        have c2 := belowCell HJ.out.2 (ltOf HC2.out.2) HC2.out.2
        by_cases hkt : k < ps.length
        · have hkt1 : k + 1 ≤ ps.length := hkt
          obtain ⟨b3, o3, cs3, rfl, _, hcc3, hv3⟩ := (HPS.out.1.below (fun h => h.below HJ.out.2) HJ.out.2).get hkt
          have hto := HPS.out.2 _ (List.getElem_mem hkt)
          obtain ⟨q1, _, y1, hu1, r1⟩ := prop_cells hv3 hcc3
          have HL := Lib.hid (StT.load (P := Tryz.prog) (W := wr) st_val (ef_val.size hu1) fun i u hu => r1 i u hu)
          have HZ := Lib.hid (checkR_any hto hu1)
          have hno := all_no (f := fun p : PropD => okV p.val) hkt
          have hye := all_take (f := fun p : PropD => okV p.val) hkt
          rw [HJ.out.1, Bool.true_and] at hye
          have hok : okV ps[k].val = decide (checkV Lib.validD ps[k].val = 0) := by unfold okV; rw [Bool.eq_iff_iff, beq_iff_eq, decide_eq_true_iff]
          rw [hok] at hno hye
          generalize checkV Lib.validD ps[k].val = ck at *
          have HM2 := Lib.hid (And.intro hno hye)
          clear q1 hcc3 hv3 hu1 r1 hto hno hye hok
          by_cases hc : ck = 0
          · subst hc
            go_wp2_with (first
              | ((with_reducible apply op_load); exact HL.out; exact rfl)
              | (go_at_call 83; refine HZ.out.mono ?_; rintro e W2 ⟨rfl, hb⟩; have HB := Lib.hid (below_trans HJ.out.2 hb); clear hb))
            go_roundw
            case rel => exact ⟨k + 1, hkt1, by go_num, Lib.hid ⟨HM2.out.2, HB.out⟩⟩
            case measure => simp [intOf]; omega
          · have hcb : (ck == 0) = false := by rw [beq_eq_false_iff_ne]; exact hc
            have hcn : (ck != 0) = true := by simp [hc]
            have HF := Lib.hid (show fineG g = false by unfold fineG; rw [HM.out.1 (show finePs ps = false by unfold finePs; exact HM2.out.1 (decide_eq_false hc))]; simp)
            clear hc
            go_wp2_with (first
              | ((with_reducible apply op_load); exact HL.out; exact rfl)
              | (go_at_call 83; refine HZ.out.mono ?_; rintro e W2 ⟨rfl, hb⟩; have HB := Lib.hid (below_trans HBW.out (below_trans HJ.out.2 hb)); clear hb))
            go_ret
            exact ⟨ret_bool HF.out.symm, below_trans HX.out HB.out⟩
        · obtain rfl : k = ps.length := by omega
          have HF := Lib.hid (show (g.nodes.take (j + 1)).all (fun n => finePs n.props) = true by
            rw [HM.out.2]; have := HJ.out.1; rw [List.take_length] at this; exact this)
          have HB := Lib.hid (below_trans HBW.out HJ.out.2)
          clear HJ HBW
          go_wp2
          clear gw c2
          go_roundw
          case rel => exact ⟨j + 1, hlt1, by go_num, Lib.hid ⟨HF.out, HB.out⟩⟩
          case measure => simp [intOf]; omega
    · obtain rfl : j = g.nodes.length := by omega
      have HB := Lib.hid HI.out.2
      have HNY := Lib.hid (show (g.nodes.all fun n => finePs n.props) = true by have := HI.out.1; rw [List.take_length] at this; exact this)
      clear HI
      have gr : wr.cell? ⟨w.heap.size, 1, none⟩ = some (.slice pr g.rels.length cr) := belowCell HB.out (ltOf HC.out.2) HC.out.2
      go_wp2
      clear gw gr
      go_loopw [5] (fun i W => ∃ j : Nat, j ≤ g.rels.length ∧ i = .int .i64 (j : Int) ∧ Hid ((g.rels.take j).all (fun n => finePs n.props) = true ∧ Below w2.heap.size w2 W)) (fun i _ => g.rels.length - (intOf i).toNat)
      case atStart => exact ⟨0, Nat.zero_le _, rfl, Lib.hid ⟨rfl, HB.out⟩⟩
      case round =>
        rename_i wr0 wr
        clear HB
        obtain ⟨j, hj, rfl, HI⟩ := hrel
        have gw : wr.cell? ⟨w.heap.size, 1, none⟩ = some (.slice pr g.rels.length cr) := belowCell HI.out.2 (ltOf HC.out.2) HC.out.2
        by_cases hlt : j < g.rels.length
        · have hlt1 : j + 1 ≤ g.rels.length := hlt
          obtain ⟨b1, o1, cs, rfl, _, hcc, hv⟩ := (HN.out.2.below (fun h => h.below HI.out.2) HI.out.2).get hlt
          have htv := HT.out.2 _ (List.getElem_mem hlt)
          obtain ⟨pp, cp, rfl, hty, hps⟩ := hv
          have c2 : wr.cell? ⟨b1, o1 + j * 5 + 4, none⟩ = some (.slice pp g.rels[j].props.length cp) := hcc 4 _ rfl
          have hno := all_no (f := fun n => finePs n.props) hlt
          have hye := all_take (f := fun n => finePs n.props) hlt
          rw [HI.out.1, Bool.true_and] at hye
          generalize g.rels[j].props = ps at *
          have z3 : (ps.length : Int) ≤ 140737488355328 := by have := hps.1.2.1; omega
          have HM := Lib.hid (And.intro hno hye)
          have HPS := Lib.hid (And.intro hps htv)
          have HC2 := Lib.hid (And.intro gw c2)
          have HBW := Lib.hid HI.out.2
          clear hno hye hps htv hcc hty HI
          go_wp2
          clear gw c2
          go_loopw [6] (fun i W => ∃ k : Nat, k ≤ ps.length ∧ i = .int .i64 (k : Int) ∧ Hid ((ps.take k).all (fun p => okV p.val) = true ∧ Below wr.heap.size wr W)) (fun i _ => ps.length - (intOf i).toNat)
          case atStart => exact ⟨0, Nat.zero_le _, rfl, Lib.hid ⟨rfl, Below.refl _ _⟩⟩
          case round =>
            rename_i wq wr
            obtain ⟨k, hk, rfl, HJ⟩ := hrel
            have gw := belowCell HJ.out.2 (ltOf HC2.out.1) HC2.out.1
            have c2 := belowCell HJ.out.2 (ltOf HC2.out.2) HC2.out.2
            by_cases hkt : k < ps.length
            · have hkt1 : k + 1 ≤ ps.length := hkt
              obtain ⟨b3, o3, cs3, rfl, _, hcc3, hv3⟩ := (HPS.out.1.below (fun h => h.below HJ.out.2) HJ.out.2).get hkt
              have hto := HPS.out.2 _ (List.getElem_mem hkt)
              obtain ⟨q1, _, y1, hu1, r1⟩ := prop_cells hv3 hcc3
              have HL := Lib.hid (StT.load (P := Tryz.prog) (W := wr) st_val (ef_val.size hu1) fun i u hu => r1 i u hu)
              have HZ := Lib.hid (checkR_any hto hu1)
              have hno := all_no (f := fun p : PropD => okV p.val) hkt
              have hye := all_take (f := fun p : PropD => okV p.val) hkt
              rw [HJ.out.1, Bool.true_and] at hye
              have hok : okV ps[k].val = decide (checkV Lib.validD ps[k].val = 0) := by unfold okV; rw [Bool.eq_iff_iff, beq_iff_eq, decide_eq_true_iff]
              rw [hok] at hno hye
              generalize checkV Lib.validD ps[k].val = ck at *
              have HM2 := Lib.hid (And.intro hno hye)
              clear q1 hcc3 hv3 hu1 r1 hto hno hye hok
              by_cases hc : ck = 0
              · subst hc
                go_wp2_with (first
                  | ((with_reducible apply op_load); exact HL.out; exact rfl)
                  | (go_at_call 83; refine HZ.out.mono ?_; rintro e W2 ⟨rfl, hb⟩; have HB := Lib.hid (below_trans HJ.out.2 hb); clear hb))
                go_roundw
                case rel => exact ⟨k + 1, hkt1, by go_num, Lib.hid ⟨HM2.out.2, HB.out⟩⟩
                case measure => simp [intOf]; omega
              · have hcb : (ck == 0) = false := by rw [beq_eq_false_iff_ne]; exact hc
                have hcn : (ck != 0) = true := by simp [hc]
                have HF := Lib.hid (show fineG g = false by unfold fineG; rw [HM.out.1 (show finePs ps = false by unfold finePs; exact HM2.out.1 (decide_eq_false hc))]; simp)
                clear hc
                go_wp2_with (first
                  | ((with_reducible apply op_load); exact HL.out; exact rfl)
                  | (go_at_call 83; refine HZ.out.mono ?_; rintro e W2 ⟨rfl, hb⟩; have HB := Lib.hid (below_trans HBW.out (below_trans HJ.out.2 hb)); clear hb))
                go_ret
                exact ⟨ret_bool HF.out.symm, below_trans HX.out HB.out⟩
            · obtain rfl : k = ps.length := by omega
              have HF := Lib.hid (show (g.rels.take (j + 1)).all (fun n => finePs n.props) = true by
                rw [HM.out.2]; have := HJ.out.1; rw [List.take_length] at this; exact this)
              have HB := Lib.hid (below_trans HBW.out HJ.out.2)
              clear HJ HBW
              go_wp2
              clear gw c2
              go_roundw
              case rel => exact ⟨j + 1, hlt1, by go_num, Lib.hid ⟨HF.out, HB.out⟩⟩
              case measure => simp [intOf]; omega
        · obtain rfl : j = g.rels.length := by omega
          have HB := Lib.hid HI.out.2
          have HRY := Lib.hid (show (g.rels.all fun n => finePs n.props) = true by have := HI.out.1; rw [List.take_length] at this; exact this)
          clear HI
          go_wp2
          go_ret
          exact ⟨ret_bool (show fineG g = true by unfold fineG; rw [HNY.out, HRY.out]; rfl).symm, below_trans HX.out HB.out⟩
end Go.Proofs.YtihfnegakcghiaaGreatDoor
namespace Go.Proofs.YtihfnegakcghiaaGreatDoor
open Go.RowKit
theorem copy_end {w W : World} {g : GraphD} {ov rv : Value} {r c : Nat} (h1 : GOwn NOwn 45 3 W (fun b => w.heap.size ≤ b ∧ b ≠ r ∧ b ≠ c) ov g.nodes) (h2 : GOwn ROwn 49 5 W (fun b => w.heap.size ≤ b ∧ b ≠ r ∧ b ≠ c) rv g.rels)
    (hx : W.heap[r]? = some (.cells grZ 25 (0, 0))) (hc : W.heap[c]? = some (.cells (tellBox ov rv g.nextNode g.nextRel) 25 (0, 0))) (hr : w.heap.size ≤ r) (hb : Below w.heap.size w W) :
    (loadVar 25 ⟨c, 0, none⟩).run Tryz.prog W = .ok (.agg (tellBox ov rv g.nextNode g.nextRel)) W ∧ ∃ W9, (storeVar 25 ⟨r, 0, none⟩ (.agg (tellBox ov rv g.nextNode g.nextRel))).run Tryz.prog W = .ok () W9 ∧ (loadVar 25 ⟨r, 0, none⟩).run Tryz.prog W9 = .ok (.agg (tellBox ov rv g.nextNode g.nextRel)) W9 ∧
      GrOwn W9 (fun b => w.heap.size ≤ b) g (tellBox ov rv g.nextNode g.nextRel) ∧ Below w.heap.size w W9 := by
  have o1 : ov.oneCell' = true := by obtain ⟨xs, h, _⟩ := h1; exact own_one h
  have o2 : rv.oneCell' = true := by obtain ⟨xs, h, _⟩ := h2; exact own_one h
  have h1c : ∀ u ∈ (tellBox ov rv g.nextNode g.nextRel).toList, u.oneCell' = true := fun u hu => by
    simp only [tellBox, List.mem_cons, List.not_mem_nil, or_false] at hu
    rcases hu with rfl | rfl | rfl | rfl <;> first | assumption | rfl
  have hk : ∀ b, b ≠ r → (W.setRow r (tellBox ov rv g.nextNode g.nextRel)).heap[b]? = W.heap[b]? := fun b hb => setRow_other W _ b _ hb
  exact ⟨StT.get (P := Tryz.prog) st_graph rfl hc, _, StT.put (P := Tryz.prog) st_graph rfl h1c hx rfl, StT.get (P := Tryz.prog) st_graph rfl (setRow_heap W _ _ _ _ _ hx),
    ⟨_, _, rfl, (h1.keep el_node fun b hb _ => hk b hb.2.1).imp el_node fun b _ hb => hb.1, (h2.keep el_rel fun b hb _ => hk b hb.2.1).imp el_rel fun b _ hb => hb.1⟩, below_row hb hr _⟩
theorem copyG_any {w : World} {g : GraphD} {x : Array Value} (h : GrRd w g x) (hk : GOk g) : Calls Tryz.prog 13 #[.agg x] w fun e w' => ∃ y, e = .returned (.agg y) ∧ GrOwn w' (fun b => w.heap.size ≤ b) g y ∧ Below w.heap.size w w' := by
  obtain ⟨pn, cn, pr, cr, rfl, hn, hr⟩ := h
  have hb1 := below_new (w := w) (.cells #[.slice pn g.nodes.length cn, .slice pr g.rels.length cr, .int .i64 g.nextNode, .int .i64 g.nextRel] 25)
  have hb2 := below_new (w := w.alloc (.cells #[.slice pn g.nodes.length cn, .slice pr g.rels.length cr, .int .i64 g.nextNode, .int .i64 g.nextRel] 25)) (.cells #[.slice none 0 0, .slice none 0 0, .int .i64 0, .int .i64 0] 25)
  have hb3 := below_new (w := (w.alloc (.cells #[.slice pn g.nodes.length cn, .slice pr g.rels.length cr, .int .i64 g.nextNode, .int .i64 g.nextRel] 25)).alloc (.cells #[.slice none 0 0, .slice none 0 0, .int .i64 0, .int .i64 0] 25)) (.cells #[.slice none 0 0, .slice none 0 0, .int .i64 g.nextNode, .int .i64 g.nextRel] 25)
  have hbc := below_trans hb1 (below_trans hb2 hb3)
  have hx1 := belowBlk hb3 (by simp; omega) (belowBlk hb2 (by simp) (heap_alloc_new w (.cells #[.slice pn g.nodes.length cn, .slice pr g.rels.length cr, .int .i64 g.nextNode, .int .i64 g.nextRel] 25)))
  have hx2 := heap_alloc_new (w.alloc (.cells #[.slice pn g.nodes.length cn, .slice pr g.rels.length cr, .int .i64 g.nextNode, .int .i64 g.nextRel] 25)) (.cells #[.slice none 0 0, .slice none 0 0, .int .i64 0, .int .i64 0] 25)
  have hx3 := heap_alloc_new ((w.alloc (.cells #[.slice pn g.nodes.length cn, .slice pr g.rels.length cr, .int .i64 g.nextNode, .int .i64 g.nextRel] 25)).alloc (.cells #[.slice none 0 0, .slice none 0 0, .int .i64 0, .int .i64 0] 25)) (.cells #[.slice none 0 0, .slice none 0 0, .int .i64 g.nextNode, .int .i64 g.nextRel] 25)
  simp only [World.size_alloc] at hx2 hx3
  have hx2' := belowBlk hb3 (by simp) hx2
  have HST := Lib.hid (StT.fresh (P := Tryz.prog) (cs := #[.slice none 0 0, .slice none 0 0, .int .i64 g.nextNode, .int .i64 g.nextRel]) st_graph rfl (by simp [Value.oneCell']) (W := (w.alloc (.cells #[.slice pn g.nodes.length cn, .slice pr g.rels.length cr, .int .i64 g.nextNode, .int .i64 g.nextRel] 25)).alloc (.cells #[.slice none 0 0, .slice none 0 0, .int .i64 0, .int .i64 0] 25)))
  have z1 : (g.nodes.length : Int) ≤ 1100000 := by have := hk.1; omega
  have z2 : (g.rels.length : Int) ≤ 1100000 := by have := hk.2.1; omega
  have HN := Lib.hid (And.intro hn (And.intro hr (And.intro hk.2.2.1 (And.intro hk.2.2.2 (And.intro hk.1 hk.2.1)))))
  have q0 : (((w.alloc (.cells #[.slice pn g.nodes.length cn, .slice pr g.rels.length cr, .int .i64 g.nextNode, .int .i64 g.nextRel] 25)).alloc (.cells #[.slice none 0 0, .slice none 0 0, .int .i64 0, .int .i64 0] 25)).alloc (.cells #[.slice none 0 0, .slice none 0 0, .int .i64 g.nextNode, .int .i64 g.nextRel] 25)).cell? ⟨w.heap.size, 0, none⟩ = some (.slice pn g.nodes.length cn) := cellOf (o := 0) hx1 rfl
  have hzz : w.heap.size + 3 ≤ (((w.alloc (.cells #[.slice pn g.nodes.length cn, .slice pr g.rels.length cr, .int .i64 g.nextNode, .int .i64 g.nextRel] 25)).alloc (.cells #[.slice none 0 0, .slice none 0 0, .int .i64 0, .int .i64 0] 25)).alloc (.cells #[.slice none 0 0, .slice none 0 0, .int .i64 g.nextNode, .int .i64 g.nextRel] 25)).heap.size := by simp
  have HX := Lib.hid (show Below w.heap.size w (((w.alloc (.cells #[.slice pn g.nodes.length cn, .slice pr g.rels.length cr, .int .i64 g.nextNode, .int .i64 g.nextRel] 25)).alloc (.cells #[.slice none 0 0, .slice none 0 0, .int .i64 0, .int .i64 0] 25)).alloc (.cells #[.slice none 0 0, .slice none 0 0, .int .i64 g.nextNode, .int .i64 g.nextRel] 25)) ∧ (((w.alloc (.cells #[.slice pn g.nodes.length cn, .slice pr g.rels.length cr, .int .i64 g.nextNode, .int .i64 g.nextRel] 25)).alloc (.cells #[.slice none 0 0, .slice none 0 0, .int .i64 0, .int .i64 0] 25)).alloc (.cells #[.slice none 0 0, .slice none 0 0, .int .i64 g.nextNode, .int .i64 g.nextRel] 25)).heap[w.heap.size + 2]? = some (.cells (tellBox (.slice none 0 0) (.slice none 0 0) g.nextNode g.nextRel) 25 (0, 0)) ∧ w.heap.size + 3 ≤ (((w.alloc (.cells #[.slice pn g.nodes.length cn, .slice pr g.rels.length cr, .int .i64 g.nextNode, .int .i64 g.nextRel] 25)).alloc (.cells #[.slice none 0 0, .slice none 0 0, .int .i64 0, .int .i64 0] 25)).alloc (.cells #[.slice none 0 0, .slice none 0 0, .int .i64 g.nextNode, .int .i64 g.nextRel] 25)).heap.size ∧ (((w.alloc (.cells #[.slice pn g.nodes.length cn, .slice pr g.rels.length cr, .int .i64 g.nextNode, .int .i64 g.nextRel] 25)).alloc (.cells #[.slice none 0 0, .slice none 0 0, .int .i64 0, .int .i64 0] 25)).alloc (.cells #[.slice none 0 0, .slice none 0 0, .int .i64 g.nextNode, .int .i64 g.nextRel] 25)).heap[w.heap.size + 1]? = some (.cells grZ 25 (0, 0)) ∧ (((w.alloc (.cells #[.slice pn g.nodes.length cn, .slice pr g.rels.length cr, .int .i64 g.nextNode, .int .i64 g.nextRel] 25)).alloc (.cells #[.slice none 0 0, .slice none 0 0, .int .i64 0, .int .i64 0] 25)).alloc (.cells #[.slice none 0 0, .slice none 0 0, .int .i64 g.nextNode, .int .i64 g.nextRel] 25)).heap[w.heap.size]? = some (.cells #[.slice pn g.nodes.length cn, .slice pr g.rels.length cr, .int .i64 g.nextNode, .int .i64 g.nextRel] 25 (0, 0)) from ⟨hbc, hx3, hzz, hx2', hx1⟩)
  clear hb1 hb2 hb3 hbc hx1 hx2 hx2' hx3 hn hr hk hzz
  go_enter Tryz.func13, Tryz.ntmps13
  go_wp2_with ((with_reducible apply op_store); exact HST.out _ rfl; exact rfl; exact rfl; clear HST)
  clear q0
  generalize ((w.alloc (.cells #[.slice pn g.nodes.length cn, .slice pr g.rels.length cr, .int .i64 g.nextNode, .int .i64 g.nextRel] 25)).alloc (.cells #[.slice none 0 0, .slice none 0 0, .int .i64 0, .int .i64 0] 25)).alloc (.cells #[.slice none 0 0, .slice none 0 0, .int .i64 g.nextNode, .int .i64 g.nextRel] 25) = w3 at *
  have HI0 := Lib.hid (show ∃ po co, GIn NOwn 45 3 (fun b => w3.heap.size ≤ b) w3 (.slice po (g.nodes.take 0).length co) (g.nodes.take 0) ∧ Touch (fun b => b = w.heap.size + 2) w3 w3 ∧ w3.heap[w.heap.size + 2]? = some (.cells (tellBox (.slice po (g.nodes.take 0).length co) (.slice none 0 0) g.nextNode g.nextRel) 25 (0, 0)) from ⟨none, 0, GIn.start, Touch.refl _ _, HX.out.2.1⟩)
  go_loopw [16] (fun i wr => ∃ j : Nat, j ≤ g.nodes.length ∧ i = .int .i64 (j : Int) ∧ Hid (∃ po co, GIn NOwn 45 3 (fun b => w3.heap.size ≤ b) wr (.slice po (g.nodes.take j).length co) (g.nodes.take j) ∧ Touch (fun b => b = w.heap.size + 2) w3 wr ∧ wr.heap[w.heap.size + 2]? = some (.cells (tellBox (.slice po (g.nodes.take j).length co) (.slice none 0 0) g.nextNode g.nextRel) 25 (0, 0)))) (fun i _ => g.nodes.length - (intOf i).toNat)
  case atStart => exact ⟨0, Nat.zero_le _, rfl, HI0⟩
  case round =>
    obtain ⟨j, hj, rfl, HJ⟩ := hrel
    by_cases hlt : j < g.nodes.length
    · have hlt1 := Nat.succ_le_of_lt hlt
      obtain ⟨po, co, hI, hT, hc⟩ := HJ.out
      have hbr := hT.below (B := w.heap.size) HX.out.1 (fun b hb e => by omega) HX.out.1.size
      have h3 := HX.out.2.2.1
      obtain ⟨b1, o1, cs, rfl, hsz, hcc, hv⟩ := (HN.out.1.below (fun h => h.below hbr) hbr).get hlt
      have htn := HN.out.2.2.1 _ (List.getElem_mem hlt)
      have hok := node_okT htn
      have HL1 := Lib.hid (StT.load (P := Tryz.prog) (g := b1) (o := o1 + j * 3) (W := wr) st_node hsz fun i u hu => hcc i u hu)
      have HS1 := Lib.hid (StT.fresh st_node hsz (ef_node.ones hv) (W := wr))
      have hbn := below_new (w := wr) (.cells cs 45)
      have hcall := copyNode_any ((hv.below hbn).below (Below.refl _ _).drew) hok.1 hok.2
      have htk : g.nodes.take (j + 1) = g.nodes.take j ++ [g.nodes[j]] := List.take_succ_eq_append_getElem hlt
      have hl1 : (g.nodes.take j).length ≤ 1100000 := by rw [List.length_take]; have := HN.out.2.2.2.2; omega
      have hzz : w.heap.size + 3 ≤ wr.heap.size := Nat.le_trans h3 hT.size
      have hS0 : (wr.alloc (.cells cs 45)).drew.heap[w.heap.size + 2]? = some (.cells (tellBox (.slice po (g.nodes.take j).length co) (.slice none 0 0) g.nextNode g.nextRel) 25 (0, 0)) ∧ (wr.alloc (.cells cs 45)).drew.heap[wr.heap.size]? = some (.cells cs 45 (0, 0)) := ⟨belowBlk hbn.drew (Array.getElem?_eq_some_iff.1 hc).1 hc, heap_alloc_new wr _⟩
      have HY := Lib.hid (And.intro hI (And.intro hT (And.intro hc (And.intro hcall (And.intro htk (And.intro hl1 (And.intro hS0 (And.intro hbn (And.intro hsz (And.intro hzz h3))))))))))
      generalize g.nodes[j] = nj at *
      clear hbr hcc hv htn hok hcall htk hl1 hS0 hI hT hc hbn hsz hzz h3
      go_wp2_with (first
        | ((with_reducible apply op_load); exact HL1.out; exact rfl; clear HL1)
        | ((with_reducible apply op_store); exact HS1.out _ rfl; exact rfl; exact rfl; clear HS1))
      obtain ⟨hI, hT, hc, hcall, htk, hl1, hS0, hbn, hsz, hzz, h3⟩ := HY.out
      refine plain_region_draws (fun W => W.heap[w.heap.size + 2]? = some (.cells (tellBox (.slice po (g.nodes.take j).length co) (.slice none 0 0) g.nextNode g.nextRel) 25 (0, 0)) ∧ W.heap[wr.heap.size]? = some (.cells cs 45 (0, 0))) (by kernel_rfl) hS0 (fun hS => ?_)
      refine tk 0 20 (v := .pointer (some ⟨w.heap.size + 2, 0, none⟩)) rfl rfl (fun W hW => exec_fieldAddr rfl rfl (fa_api 0 (by omega) _ W)) ?_
      simp only [Act.put, sA, sZ, sS]
      refine tk 1 21 (v := .slice po (g.nodes.take j).length co) rfl rfl (fun W hW => exec_load rfl rfl (run_load1 (w := W) Tryz.underlying22 rfl (cellOf (o := 0) hW.1 rfl))) ?_
      simp only [Act.put, sA, sZ, sS]
      refine tk 2 22 (v := .agg cs) rfl rfl (fun W hW => exec_load rfl rfl (StT.get (P := Tryz.prog) st_node hsz hW.2)) ?_
      simp only [Act.put, sA, sZ, sS]
      refine onlyCall 3 23 rfl rfl (by kernel_rfl) rfl (exec_call [.agg cs] rfl rfl Tryz.func39 (by kernel_rfl) (by kernel_rfl)) ?_
      refine hcall.mono ?_
      rintro e W8 ⟨x8, rfl, hx8, hb8⟩
      have hbw8 := below_trans (Below.refl _ _).drew hb8
      have hI1 := hI.kept (W' := wr.alloc (.cells cs 45)) el_node (P' := fun b => w3.heap.size ≤ b) (fun b _ hl => hbn.block b hl) (fun b _ h => h)
      have hT1 := hT.grow hbn
      have hbs : (Instr.buildSlice 22 1 #[(0, .agg x8)]).run Tryz.prog W8 = .ok (.slice (some ⟨W8.heap.size, 0, none⟩) 1 1) (W8.alloc (.cells x8 45)) := run_buildSlice_one Tryz.underlying22 Tryz.sizeOf45 Tryz.zeroValue45 (el_node.size hx8) (by omega) (by omega)
      obtain ⟨pq, cq, W10, a1, a2, a3, a4, a5, a6, a7⟩ := tell_push (i := 0) el_node gt_node (fun h1 h2 => put_nodesT h1 h2) hI1 hT1 hS0.1 (by omega) (by simp [tellBox]) hbw8 hx8 hl1
      have hS8 : W8.heap[w.heap.size + 2]? = some (.cells (tellBox (.slice po (g.nodes.take j).length co) (.slice none 0 0) g.nextNode g.nextRel) 25 (0, 0)) ∧ W8.heap[wr.heap.size]? = some (.cells cs 45 (0, 0)) := ⟨belowBlk hb8 (Array.getElem?_eq_some_iff.1 hS0.1).1 hS0.1, belowBlk hb8 (Array.getElem?_eq_some_iff.1 hS0.2).1 hS0.2⟩
      have hS9 : (W8.alloc (.cells x8 45)).heap[w.heap.size + 2]? = some (.cells (tellBox (.slice po (g.nodes.take j).length co) (.slice none 0 0) g.nextNode g.nextRel) 25 (0, 0)) ∧ (W8.alloc (.cells x8 45)).heap[wr.heap.size]? = some (.cells cs 45 (0, 0)) := ⟨belowBlk (below_new _) (Array.getElem?_eq_some_iff.1 hS8.1).1 hS8.1, belowBlk (below_new _) (Array.getElem?_eq_some_iff.1 hS8.2).1 hS8.2⟩
      have hS10 : W10.heap[w.heap.size + 2]? = some (.cells (tellBox (.slice po (g.nodes.take j).length co) (.slice none 0 0) g.nextNode g.nextRel) 25 (0, 0)) ∧ W10.heap[wr.heap.size]? = some (.cells cs 45 (0, 0)) := ⟨a2, (a3 _ (by simp) (fun e => by have := (hI.lt _ e).1; omega)).trans hS0.2⟩
      refine ⟨_, rfl, .inr hS8, ?_⟩
      simp only [Act.put, sA, sZ, sS]
      refine onlyRun 4 24 (v := .slice (some ⟨W8.heap.size, 0, none⟩) 1 1) rfl rfl (by kernel_rfl) rfl (exec_buildSlice1 rfl rfl hbs) (.inr (by assumption)) ?_
      simp only [Act.put, sA, sZ, sS]
      refine onlyRun 5 25 (v := .slice pq ((g.nodes.take j).length + 1) cq) rfl rfl (by kernel_rfl) rfl (exec_append rfl rfl rfl a1) (.inr (by assumption)) ?_
      simp only [Act.put, sA, sZ, sS]
      refine tk 6 26 (v := .pointer (some ⟨w.heap.size + 2, 0, none⟩)) rfl rfl (fun W hW => exec_fieldAddr rfl rfl (fa_api 0 (by omega) _ W)) ?_
      simp only [Act.put, sA, sZ, sS]
      refine onlySkip 7 rfl rfl (by kernel_rfl) rfl (exec_store rfl rfl rfl a4) (.inl (by kernel_rfl)) ?_
      refine done (by kernel_rfl) ?_ _
      have HN2 := Lib.hid (show ∃ po co, GIn NOwn 45 3 (fun b => w3.heap.size ≤ b) (W10.setCell ⟨w.heap.size + 2, 0, none⟩ (.slice pq ((g.nodes.take j).length + 1) cq)) (.slice po (g.nodes.take (j + 1)).length co) (g.nodes.take (j + 1)) ∧ Touch (fun b => b = w.heap.size + 2) w3 (W10.setCell ⟨w.heap.size + 2, 0, none⟩ (.slice pq ((g.nodes.take j).length + 1) cq)) ∧ (W10.setCell ⟨w.heap.size + 2, 0, none⟩ (.slice pq ((g.nodes.take j).length + 1) cq)).heap[w.heap.size + 2]? = some (.cells (tellBox (.slice po (g.nodes.take (j + 1)).length co) (.slice none 0 0) g.nextNode g.nextRel) 25 (0, 0)) from by
        rw [show (g.nodes.take (j + 1)).length = (g.nodes.take j).length + 1 by rw [htk]; simp, htk]
        exact ⟨pq, cq, a5, a6, a7⟩)
      generalize W10.setCell ⟨w.heap.size + 2, 0, none⟩ (.slice pq ((g.nodes.take j).length + 1) cq) = W11 at HN2 ⊢
      clear hI hT hc hcall htk hl1 hS0 hbn hsz hzz h3 hS HY HJ a1 a2 a3 a4 a5 a6 a7 hbs hx8 hb8 hS8 hS9 hS10 hbw8 hI1 hT1
      go_wp2
      go_roundw
      case rel => exact ⟨j + 1, hlt1, by go_num, HN2⟩
      case measure => simp [intOf]; omega
    · obtain rfl : j = g.nodes.length := by omega
      obtain ⟨qn, dn, hI, hT, hc⟩ := HJ.out
      rw [List.take_length] at hI hc
      have hbr := hT.below (B := w.heap.size) HX.out.1 (fun b hb e => by omega) HX.out.1.size
      have h3 := HX.out.2.2.1
      have hzr : w.heap.size + 3 ≤ wr.heap.size := Nat.le_trans h3 hT.size
      have hx6 := (hT.block _ (Array.getElem?_eq_some_iff.1 HX.out.2.2.2.1).1 (by omega)).trans HX.out.2.2.2.1
      have hon := (hI.own el_node).imp (P' := fun b => w.heap.size ≤ b ∧ b ≠ w.heap.size + 1 ∧ b ≠ w.heap.size + 2) el_node fun b _ hb => by have hb' : w3.heap.size ≤ b := hb; omega
      have gr : wr.cell? ⟨w.heap.size, 1, none⟩ = some (.slice pr g.rels.length cr) := cellOf (o := 1) ((hT.block _ (Array.getElem?_eq_some_iff.1 HX.out.2.2.2.2).1 (by omega)).trans HX.out.2.2.2.2) rfl
      have hcW : wr.heap[w.heap.size + 2]? = some (.cells (tellBox (.slice qn g.nodes.length dn) (.slice none 0 0) g.nextNode g.nextRel) 25 (0, 0)) := hc
      have HX7 := Lib.hid (And.intro hbr (And.intro hcW (And.intro hzr (And.intro hx6 hon))))
      clear hI hT hc hbr h3 hzr hx6 hon hcW HJ HI0 HX
      go_wp2
      clear gr
      generalize wr = w7 at *
      have HI0 := Lib.hid (show ∃ po co, GIn ROwn 49 5 (fun b => w7.heap.size ≤ b) w7 (.slice po (g.rels.take 0).length co) (g.rels.take 0) ∧ Touch (fun b => b = w.heap.size + 2) w7 w7 ∧ w7.heap[w.heap.size + 2]? = some (.cells (tellBox (.slice qn g.nodes.length dn) (.slice po (g.rels.take 0).length co) g.nextNode g.nextRel) 25 (0, 0)) from ⟨none, 0, GIn.start, Touch.refl _ _, HX7.out.2.1⟩)
      go_loopw [31] (fun i wr => ∃ j : Nat, j ≤ g.rels.length ∧ i = .int .i64 (j : Int) ∧ Hid (∃ po co, GIn ROwn 49 5 (fun b => w7.heap.size ≤ b) wr (.slice po (g.rels.take j).length co) (g.rels.take j) ∧ Touch (fun b => b = w.heap.size + 2) w7 wr ∧ wr.heap[w.heap.size + 2]? = some (.cells (tellBox (.slice qn g.nodes.length dn) (.slice po (g.rels.take j).length co) g.nextNode g.nextRel) 25 (0, 0)))) (fun i _ => g.rels.length - (intOf i).toNat)
      case atStart => exact ⟨0, Nat.zero_le _, rfl, HI0⟩
      case round =>
        rename_i wr0 wr
        obtain ⟨j, hj, rfl, HJ⟩ := hrel
        by_cases hlt : j < g.rels.length
        · have hlt1 := Nat.succ_le_of_lt hlt
          obtain ⟨po, co, hI, hT, hc⟩ := HJ.out
          have hbr := hT.below (B := w.heap.size) HX7.out.1 (fun b hb e => by omega) HX7.out.1.size
          have h3 := HX7.out.2.2.1
          obtain ⟨b1, o1, cs, rfl, hsz, hcc, hv⟩ := (HN.out.2.1.below (fun h => h.below hbr) hbr).get hlt
          have htn := HN.out.2.2.2.1 _ (List.getElem_mem hlt)
          have hok := rel_okT htn
          have HL1 := Lib.hid (StT.load (P := Tryz.prog) (g := b1) (o := o1 + j * 5) (W := wr) st_rel hsz fun i u hu => hcc i u hu)
          have HS1 := Lib.hid (StT.fresh st_rel hsz (ef_rel.ones hv) (W := wr))
          have hbn := below_new (w := wr) (.cells cs 49)
          have hcall := copyRel_any ((hv.below hbn).below (Below.refl _ _).drew) hok
          have htk : g.rels.take (j + 1) = g.rels.take j ++ [g.rels[j]] := List.take_succ_eq_append_getElem hlt
          have hl1 : (g.rels.take j).length ≤ 1100000 := by rw [List.length_take]; have := HN.out.2.2.2.2; omega
          have hzz : w.heap.size + 3 ≤ wr.heap.size := Nat.le_trans h3 hT.size
          have hS0 : (wr.alloc (.cells cs 49)).drew.heap[w.heap.size + 2]? = some (.cells (tellBox (.slice qn g.nodes.length dn) (.slice po (g.rels.take j).length co) g.nextNode g.nextRel) 25 (0, 0)) ∧ (wr.alloc (.cells cs 49)).drew.heap[wr.heap.size]? = some (.cells cs 49 (0, 0)) := ⟨belowBlk hbn.drew (Array.getElem?_eq_some_iff.1 hc).1 hc, heap_alloc_new wr _⟩
          have HY := Lib.hid (And.intro hI (And.intro hT (And.intro hc (And.intro hcall (And.intro htk (And.intro hl1 (And.intro hS0 (And.intro hbn (And.intro hsz (And.intro hzz h3))))))))))
          generalize g.rels[j] = nj at *
          clear hbr hcc hv htn hok hcall htk hl1 hS0 hI hT hc hbn hsz hzz h3
          go_wp2_with (first
            | ((with_reducible apply op_load); exact HL1.out; exact rfl; clear HL1)
            | ((with_reducible apply op_store); exact HS1.out _ rfl; exact rfl; exact rfl; clear HS1))
          obtain ⟨hI, hT, hc, hcall, htk, hl1, hS0, hbn, hsz, hzz, h3⟩ := HY.out
          refine plain_region_draws (fun W => W.heap[w.heap.size + 2]? = some (.cells (tellBox (.slice qn g.nodes.length dn) (.slice po (g.rels.take j).length co) g.nextNode g.nextRel) 25 (0, 0)) ∧ W.heap[wr.heap.size]? = some (.cells cs 49 (0, 0))) (by kernel_rfl) hS0 (fun hS => ?_)
          refine tk 0 35 (v := .pointer (some ⟨w.heap.size + 2, 1, none⟩)) rfl rfl (fun W hW => exec_fieldAddr rfl rfl (fa_api 1 (by omega) _ W)) ?_
          simp only [Act.put, sA, sZ, sS]
          refine tk 1 36 (v := .slice po (g.rels.take j).length co) rfl rfl (fun W hW => exec_load rfl rfl (run_load1 (w := W) Tryz.underlying23 rfl (cellOf (o := 1) hW.1 rfl))) ?_
          simp only [Act.put, sA, sZ, sS]
          refine tk 2 37 (v := .agg cs) rfl rfl (fun W hW => exec_load rfl rfl (StT.get (P := Tryz.prog) st_rel hsz hW.2)) ?_
          simp only [Act.put, sA, sZ, sS]
          refine onlyCall 3 38 rfl rfl (by kernel_rfl) rfl (exec_call [.agg cs] rfl rfl Tryz.func40 (by kernel_rfl) (by kernel_rfl)) ?_
          refine hcall.mono ?_
          rintro e W8 ⟨x8, rfl, hx8, hb8⟩
          have hbw8 := below_trans (Below.refl _ _).drew hb8
          have hI1 := hI.kept (W' := wr.alloc (.cells cs 49)) el_rel (P' := fun b => w7.heap.size ≤ b) (fun b _ hl => hbn.block b hl) (fun b _ h => h)
          have hT1 := hT.grow hbn
          have hbs : (Instr.buildSlice 23 1 #[(0, .agg x8)]).run Tryz.prog W8 = .ok (.slice (some ⟨W8.heap.size, 0, none⟩) 1 1) (W8.alloc (.cells x8 49)) := run_buildSlice_one Tryz.underlying23 Tryz.sizeOf49 Tryz.zeroValue49 (el_rel.size hx8) (by omega) (by omega)
          obtain ⟨pq, cq, W10, a1, a2, a3, a4, a5, a6, a7⟩ := tell_push (i := 1) el_rel gt_rel (fun h1 h2 => put_relsT h1 h2) hI1 hT1 hS0.1 (by omega) (by simp [tellBox]) hbw8 hx8 hl1
          have hS8 : W8.heap[w.heap.size + 2]? = some (.cells (tellBox (.slice qn g.nodes.length dn) (.slice po (g.rels.take j).length co) g.nextNode g.nextRel) 25 (0, 0)) ∧ W8.heap[wr.heap.size]? = some (.cells cs 49 (0, 0)) := ⟨belowBlk hb8 (Array.getElem?_eq_some_iff.1 hS0.1).1 hS0.1, belowBlk hb8 (Array.getElem?_eq_some_iff.1 hS0.2).1 hS0.2⟩
          have hS9 : (W8.alloc (.cells x8 49)).heap[w.heap.size + 2]? = some (.cells (tellBox (.slice qn g.nodes.length dn) (.slice po (g.rels.take j).length co) g.nextNode g.nextRel) 25 (0, 0)) ∧ (W8.alloc (.cells x8 49)).heap[wr.heap.size]? = some (.cells cs 49 (0, 0)) := ⟨belowBlk (below_new _) (Array.getElem?_eq_some_iff.1 hS8.1).1 hS8.1, belowBlk (below_new _) (Array.getElem?_eq_some_iff.1 hS8.2).1 hS8.2⟩
          have hS10 : W10.heap[w.heap.size + 2]? = some (.cells (tellBox (.slice qn g.nodes.length dn) (.slice po (g.rels.take j).length co) g.nextNode g.nextRel) 25 (0, 0)) ∧ W10.heap[wr.heap.size]? = some (.cells cs 49 (0, 0)) := ⟨a2, (a3 _ (by simp) (fun e => by have := (hI.lt _ e).1; omega)).trans hS0.2⟩
          refine ⟨_, rfl, .inr hS8, ?_⟩
          simp only [Act.put, sA, sZ, sS]
          refine onlyRun 4 39 (v := .slice (some ⟨W8.heap.size, 0, none⟩) 1 1) rfl rfl (by kernel_rfl) rfl (exec_buildSlice1 rfl rfl hbs) (.inr (by assumption)) ?_
          simp only [Act.put, sA, sZ, sS]
          refine onlyRun 5 40 (v := .slice pq ((g.rels.take j).length + 1) cq) rfl rfl (by kernel_rfl) rfl (exec_append rfl rfl rfl a1) (.inr (by assumption)) ?_
          simp only [Act.put, sA, sZ, sS]
          refine tk 6 41 (v := .pointer (some ⟨w.heap.size + 2, 1, none⟩)) rfl rfl (fun W hW => exec_fieldAddr rfl rfl (fa_api 1 (by omega) _ W)) ?_
          simp only [Act.put, sA, sZ, sS]
          refine onlySkip 7 rfl rfl (by kernel_rfl) rfl (exec_store rfl rfl rfl a4) (.inl (by kernel_rfl)) ?_
          refine done (by kernel_rfl) ?_ _
          have HN2 := Lib.hid (show ∃ po co, GIn ROwn 49 5 (fun b => w7.heap.size ≤ b) (W10.setCell ⟨w.heap.size + 2, 1, none⟩ (.slice pq ((g.rels.take j).length + 1) cq)) (.slice po (g.rels.take (j + 1)).length co) (g.rels.take (j + 1)) ∧ Touch (fun b => b = w.heap.size + 2) w7 (W10.setCell ⟨w.heap.size + 2, 1, none⟩ (.slice pq ((g.rels.take j).length + 1) cq)) ∧ (W10.setCell ⟨w.heap.size + 2, 1, none⟩ (.slice pq ((g.rels.take j).length + 1) cq)).heap[w.heap.size + 2]? = some (.cells (tellBox (.slice qn g.nodes.length dn) (.slice po (g.rels.take (j + 1)).length co) g.nextNode g.nextRel) 25 (0, 0)) from by
            rw [show (g.rels.take (j + 1)).length = (g.rels.take j).length + 1 by rw [htk]; simp, htk]
            exact ⟨pq, cq, a5, a6, a7⟩)
          generalize W10.setCell ⟨w.heap.size + 2, 1, none⟩ (.slice pq ((g.rels.take j).length + 1) cq) = W11 at HN2 ⊢
          clear hI hT hc hcall htk hl1 hS0 hbn hsz hzz h3 hS HY HJ a1 a2 a3 a4 a5 a6 a7 hbs hx8 hb8 hS8 hS9 hS10 hbw8 hI1 hT1
          go_wp2
          go_roundw
          case rel => exact ⟨j + 1, hlt1, by go_num, HN2⟩
          case measure => simp [intOf]; omega
        · obtain rfl : j = g.rels.length := by omega
          obtain ⟨qr, dr, hI, hT, hc⟩ := HJ.out
          rw [List.take_length] at hI hc
          obtain ⟨hb7, hc7, hz7, hx7, hon7⟩ := HX7.out
          have hbr := hT.below (B := w.heap.size) hb7 (fun b hb e => by omega) hb7.size
          have hor := (hI.own el_rel).imp (P' := fun b => w.heap.size ≤ b ∧ b ≠ w.heap.size + 1 ∧ b ≠ w.heap.size + 2) el_rel fun b _ hb => by have hb' : w7.heap.size ≤ b := hb; omega
          have hon := hon7.keep (w' := wr) el_node fun b hb hl => hT.block b hl hb.2.2
          have hx6 := (hT.block _ (Array.getElem?_eq_some_iff.1 hx7).1 (by omega)).trans hx7
          obtain ⟨d1, W9, d2, d3, d4, d5⟩ := copy_end hon hor hx6 hc (Nat.le_succ _) hbr
          have HLD := Lib.hid d1
          have HST := Lib.hid d2
          have HLE := Lib.hid d3
          have HF := Lib.hid (And.intro d4 d5)
          clear hI hT hc hb7 hc7 hz7 hx7 hon7 hbr hor hon hx6 d1 d2 d3 d4 d5 HJ HX7 HI0
          go_wp2_with (first
            | ((with_reducible apply op_load); exact HLD.out; exact rfl; clear HLD)
            | ((with_reducible apply op_store); exact HST.out; exact rfl; exact rfl; clear HST))
          refine bodyPost_ret (results_cell_one rfl _ _ ⟨w.heap.size + 1, 0, none⟩ _ rfl HLE.out) rfl ?_
          exact ⟨_, rfl, HF.out⟩
end Go.Proofs.YtihfnegakcghiaaGreatDoor
namespace Go.Proofs.YtihfnegakcghiaaGreatDoor
open Go.RowKit
theorem tell_ok {S : Nat → Prop} {w : World} {B : GB} {ma : Int → Option Value} {g : GraphD} (h : GM S w B ma (madeG g)) (hok : okG g = true) (hk : GOk g) : Calls Tryz.prog 16 #[.pointer (some ⟨B.gx, 0, none⟩)] w fun e w' => ∃ x, e = .returned (.agg x) ∧ GrOwn w' (fun b => w.heap.size ≤ b) g x ∧ Below w.heap.size w w' := by
  have h1 := ((okG_iff g).1 hok).1
  exact tellG_any h hk.2.2.1 hk.2.2.2 (by show g.nodes.length ≤ 900000; omega) (by show g.rels.length ≤ 900000; omega)
theorem neq_bb (b : Bool) (W : World) : (binOp .neq 4 (.bool b) (.bool b)).run Tryz.prog W = .ok (.bool false) W := by cases b <;> simp [go_sem]
theorem gchecks_any {w : World} (hE : Env w) {g o : GraphD} {x y : Array Value} (h1 : GrRd w g x) (h2 : GrRd w o y) (k1 : GOk g) (k2 : GOk o) : Calls Tryz.prog 7 #[.agg x, .agg y] w fun e w' => e = .returned (.bool true) ∧ Below w.heap.size w w' := by
  have HQ := Lib.hid (LQ2.start h1 h2)
  have HE := Lib.hid hE
  have HK := Lib.hid (And.intro k1 (And.intro k2 (And.intro k1.tot k2.tot)))
  clear h1 h2 hE k1 k2
  cases hok : okG g
  · have HOK := Lib.hid hok
    have HCE := Lib.hid (show errG (okG g) = 2 by rw [hok]; rfl)
    clear hok
    have HV1 := Lib.hid (vast_any HQ.out.gx HK.out.2.2.1)
    go_enter Tryz.func7, Tryz.ntmps7
    go_wp2_with (first
      | ((with_reducible apply op_load); exact HQ.out.lg; exact rfl)
      | ((with_reducible apply op_loadH); exact HQ.out.lo; exact rfl; exact rfl)
      | ((with_reducible apply op_store); exact HSTC.out _ rfl; exact rfl; exact rfl; clear HSTC)
      | (go_at_call 9
         (
          refine HV1.out.mono ?_
          rintro e wv ⟨⟨bv, rfl⟩, hb⟩
          replace HQ := Lib.hid (HQ.out.below hb)
          have HV2 := Lib.hid (vast_any HQ.out.ox HK.out.2.2.2)
          clear hb HV1
          cases bv))
      | (go_at_call 9
         (
          refine HV2.out.mono ?_
          rintro e wv ⟨⟨bv, rfl⟩, hb⟩
          replace HQ := Lib.hid (HQ.out.below hb)
          clear hb HV2
          cases bv))
      | (go_at_call 12; refine (known_any (HE.out.b HQ.out.b)).mono ?_; rintro e wk ⟨rfl, hb⟩; have HB9 := Lib.hid (below_trans HQ.out.b hb); clear hb)
      | (go_at_call 24
         refine (checkO_any (HE.out.b HQ.out.b) HQ.out.gx HK.out.1).mono ?_
         rintro e wc ⟨he, hb⟩
         rw [HCE.out] at he
         subst he
         replace HQ := Lib.hid (HQ.out.below hb)
         clear hb)
      | (go_at_call 13
         (
          refine (copyG_any HQ.out.gx HK.out.1).mono ?_
          rintro e wd ⟨z, rfl, hz, hb⟩
          have hzr := hz.rdO HK.out.1
          have hn9 := below_new (w := wd) (.cells z 25)
          have HSTC := Lib.hid (StT.fresh (P := Tryz.prog) (W := wd) st_graph (ef_graph.size hzr) (ef_graph.ones hzr))
          have HLZ := Lib.hid (show Lies wd.heap.size 25 z (wd.alloc (.cells z 25)) from heap_alloc_new wd _)
          have HCR := Lib.hid (hzr.below hn9)
          replace HQ := Lib.hid ((HQ.out.below hb).below hn9)
          clear hb hz hzr hn9))
      | (go_at_call 14
         (
          refine (make_any (HE.out.b HQ.out.b) HQ.out.gx HK.out.1).mono ?_
          rintro e wr ⟨hb, h1, h2⟩
          obtain rfl := h1 HOK.out
          have HQC := Lib.hid (And.intro (HQ.out.below hb) (And.intro (HLZ.out.below hb) (HCR.out.below hb)))
          skip
          clear HQ hb h1 h2 HLZ HCR)))
    all_goals try (go_ret; exact ⟨rfl, HB9.out⟩)
    · obtain ⟨hq, hlz, hcr⟩ := HQC.out
      have hlg := fun W (g : Below wr.heap.size wr W) => (hq.below g).lg
      have hlo := fun W (g : Below wr.heap.size wr W) => (hq.below g).lo
      have hlc := fun W (g : Below wr.heap.size wr W) => (hlz.below g).get (ef_graph.size hcr)
      have hrc := fun W (g : Below wr.heap.size wr W) => refcheck_any (hq.gx.below g) HK.out.2.2.1
      have hcs := fun W (g : Below wr.heap.size wr W) => sameRefG_any (hcr.below g) (hq.gx.below g)
      have hgo := fun W (gg : Below wr.heap.size wr W) => sameGO_any (HE.out.b (below_trans hq.b gg)) (hq.gx.below gg) (hq.ox.below gg) HK.out.1 HK.out.2.1
      have hro := fun W (g : Below wr.heap.size wr W) => sameRefG_any (hq.gx.below g) (hq.ox.below g)
      have hfn := fun W (g : Below wr.heap.size wr W) => reffine_any (hq.gx.below g) HK.out.2.2.1
      have hgc := fun W (gg : Below wr.heap.size wr W) => sameGO_any (HE.out.b (below_trans hq.b gg)) (hq.gx.below gg) (hcr.below gg) HK.out.1 HK.out.1
      have hgg : sameGQ g g = true := (sameGQ_iff g g).2 rfl
      have HB5 := Lib.hid hq.b
      rw [hgg] at hcs
      simp only [sameG_eq, hgg, Bool.true_and] at hgo hgc
      generalize sameGQ g o = ms at *
      generalize fineG g = ff at *
      have heq := fun W : World => (show (binOp .eql 38 (.int .i64 2) (.int .i64 0)).run Tryz.prog W = .ok (.bool false) W by simp [go_sem])
      have hne := fun W : World => (show (binOp .neq 38 (.int .i64 2) (.int .i64 0)).run Tryz.prog W = .ok (.bool true) W by simp [go_sem])
      have hn2 := fun W : World => (show (binOp .neq 38 (.int .i64 2) (.int .i64 2)).run Tryz.prog W = .ok (.bool false) W by simp [go_sem])
      rw [HOK.out] at hrc
      have hB0 : Below wr.heap.size wr wr.drew := (Below.refl _ wr).drew
      have hqq := Lib.hid hq
      clear hq hlz hcr HQC
      refine plain_region_draws (fun W => Below wr.heap.size wr W) (by kernel_rfl) hB0 (fun hS => ?_)
      refine tk 0 25 (v := .int .i64 2) rfl rfl (fun W hW => exec_move rfl rfl) ?_
      simp only [Act.put, sA, sZ, sS]
      refine tk 1 26 (v := .bool false) rfl rfl (fun W hW => exec_bini rfl rfl rfl (heq W)) ?_
      simp only [Act.put, sA, sZ, sS]
      refine tk 2 27 (v := .agg x) rfl rfl (fun W hW => exec_load rfl rfl (hlg W hW)) ?_
      simp only [Act.put, sA, sZ, sS]
      refine onlyCall 3 28 rfl rfl (by kernel_rfl) rfl (exec_call [.agg x] rfl rfl Tryz.func11 (by kernel_rfl) (by kernel_rfl)) ?_
      refine (hrc _ hS).mono ?_
      rintro e W3 ⟨rfl, hb3⟩
      have hS3 := below_trans hS hb3
      refine ⟨_, rfl, .inr hS3, ?_⟩
      simp only [Act.put, sA, sZ, sS]
      refine tk 4 29 (v := .bool false) rfl rfl (fun W hW => exec_binbb rfl rfl rfl (neq_bb false W)) ?_
      simp only [Act.put, sA, sZ, sS]
      refine tk 5 30 (v := .bool false) rfl rfl (fun W hW => exec_move rfl rfl) ?_
      simp only [Act.put, sA, sZ, sS]
      refine tk 6 31 (v := .int .i64 2) rfl rfl (fun W hW => exec_move rfl rfl) ?_
      simp only [Act.put, sA, sZ, sS]
      refine tk 7 32 (v := .bool true) rfl rfl (fun W hW => exec_bini rfl rfl rfl (hne W)) ?_
      simp only [Act.put, sA, sZ, sS]
      refine tk 8 33 (v := .bool true) rfl rfl (fun W hW => exec_move rfl rfl) ?_
      simp only [Act.put, sA, sZ, sS]
      refine tk 9 34 (v := .int .i64 2) rfl rfl (fun W hW => exec_move rfl rfl) ?_
      simp only [Act.put, sA, sZ, sS]
      refine tk 10 35 (v := .bool false) rfl rfl (fun W hW => exec_bini rfl rfl rfl (hn2 W)) ?_
      simp only [Act.put, sA, sZ, sS]
      refine tk 11 36 (v := .bool false) rfl rfl (fun W hW => rfl) ?_
      simp only [Act.put, sA, sZ, sS]
      refine tk 12 37 (v := .bool false) rfl rfl (fun W hW => rfl) ?_
      simp only [Act.put, sA, sZ, sS]
      refine tk 13 38 (v := .bool false) rfl rfl (fun W hW => exec_move rfl rfl) ?_
      simp only [Act.put, sA, sZ, sS]
      refine tk 14 39 (v := .agg z) rfl rfl (fun W hW => exec_load rfl rfl (hlc W hW)) ?_
      simp only [Act.put, sA, sZ, sS]
      refine tk 15 40 (v := .agg x) rfl rfl (fun W hW => exec_load rfl rfl (hlg W hW)) ?_
      simp only [Act.put, sA, sZ, sS]
      refine onlyCall 16 41 rfl rfl (by kernel_rfl) rfl (exec_call [.agg z, .agg x] rfl rfl Tryz.func17 (by kernel_rfl) (by kernel_rfl)) ?_
      refine (hcs _ hS3).mono ?_
      rintro e W16 ⟨rfl, hb16⟩
      have hS16 := below_trans hS3 hb16
      refine ⟨_, rfl, .inr hS16, ?_⟩
      simp only [Act.put, sA, sZ, sS]
      refine tk 17 42 (v := .bool false) rfl rfl (fun W hW => exec_unot (b := true) rfl rfl) ?_
      simp only [Act.put, sA, sZ, sS]
      refine tk 18 43 (v := .bool false) rfl rfl (fun W hW => rfl) ?_
      simp only [Act.put, sA, sZ, sS]
      refine tk 19 44 (v := .bool false) rfl rfl (fun W hW => exec_move rfl rfl) ?_
      simp only [Act.put, sA, sZ, sS]
      refine tk 20 45 (v := .agg x) rfl rfl (fun W hW => exec_load rfl rfl (hlg W hW)) ?_
      simp only [Act.put, sA, sZ, sS]
      refine tk 21 46 (v := .agg y) rfl rfl (fun W hW => exec_load rfl rfl (hlo W hW)) ?_
      simp only [Act.put, sA, sZ, sS]
      refine tk 23 48 (v := .agg x) rfl rfl (fun W hW => exec_load rfl rfl (hlg W hW)) ?_
      simp only [Act.put, sA, sZ, sS]
      refine tk 24 49 (v := .agg y) rfl rfl (fun W hW => exec_load rfl rfl (hlo W hW)) ?_
      simp only [Act.put, sA, sZ, sS]
      cases ms with
      | true =>
        simp only [Bool.true_and] at hgo
        refine onlyCall 22 47 rfl rfl (by kernel_rfl) rfl (exec_call [.agg x, .agg y] rfl rfl Tryz.func25 (by kernel_rfl) (by kernel_rfl)) ?_
        refine (hgo _ hS16).mono ?_
        rintro e W22 ⟨rfl, hb22⟩
        have hS22 := below_trans hS16 hb22
        refine ⟨_, rfl, .inr hS22, ?_⟩
        simp only [Act.put, sA, sZ, sS]
        refine onlyCall 25 50 rfl rfl (by kernel_rfl) rfl (exec_call [.agg x, .agg y] rfl rfl Tryz.func17 (by kernel_rfl) (by kernel_rfl)) ?_
        refine (hro _ hS22).mono ?_
        rintro e W25 ⟨rfl, hb25⟩
        have hS25 := below_trans hS22 hb25
        refine ⟨_, rfl, .inr hS25, ?_⟩
        simp only [Act.put, sA, sZ, sS]
        refine tk 26 51 (v := .bool true) rfl rfl (fun W hW => exec_move rfl rfl) ?_
        simp only [Act.put, sA, sZ, sS]
        refine tk 27 52 (v := .agg x) rfl rfl (fun W hW => exec_load rfl rfl (hlg W hW)) ?_
        simp only [Act.put, sA, sZ, sS]
        refine onlyCall 28 53 rfl rfl (by kernel_rfl) rfl (exec_call [.agg x] rfl rfl Tryz.func26 (by kernel_rfl) (by kernel_rfl)) ?_
        refine (hfn _ hS25).mono ?_
        rintro e W28 ⟨rfl, hb28⟩
        have hS28 := below_trans hS25 hb28
        refine ⟨_, rfl, .inr hS28, ?_⟩
        simp only [Act.put, sA, sZ, sS]
        refine tk 29 54 (v := .bool ff) rfl rfl (fun W hW => rfl) ?_
        simp only [Act.put, sA, sZ, sS]
        refine tk 30 55 (v := .bool false) rfl rfl (fun W hW => exec_binbb rfl rfl rfl (neq_bb ff W)) ?_
        simp only [Act.put, sA, sZ, sS]
        refine tk 31 56 (v := .bool false) rfl rfl (fun W hW => rfl) ?_
        simp only [Act.put, sA, sZ, sS]
        refine tk 32 57 (v := .bool false) rfl rfl (fun W hW => exec_move rfl rfl) ?_
        simp only [Act.put, sA, sZ, sS]
        refine tk 33 58 (v := .agg x) rfl rfl (fun W hW => exec_load rfl rfl (hlg W hW)) ?_
        simp only [Act.put, sA, sZ, sS]
        refine tk 34 59 (v := .agg z) rfl rfl (fun W hW => exec_load rfl rfl (hlc W hW)) ?_
        simp only [Act.put, sA, sZ, sS]
        refine tk 36 61 (v := .agg x) rfl rfl (fun W hW => exec_load rfl rfl (hlg W hW)) ?_
        simp only [Act.put, sA, sZ, sS]
        refine onlyCall 35 60 rfl rfl (by kernel_rfl) rfl (exec_call [.agg x, .agg z] rfl rfl Tryz.func25 (by kernel_rfl) (by kernel_rfl)) ?_
        refine (hgc _ hS28).mono ?_
        rintro e W35 ⟨rfl, hb35⟩
        have hS35 := below_trans hS28 hb35
        refine ⟨_, rfl, .inr hS35, ?_⟩
        simp only [Act.put, sA, sZ, sS]
        refine onlyCall 37 62 rfl rfl (by kernel_rfl) rfl (exec_call [.agg x] rfl rfl Tryz.func26 (by kernel_rfl) (by kernel_rfl)) ?_
        refine (hfn _ hS35).mono ?_
        rintro e W37 ⟨rfl, hb37⟩
        have hS37 := below_trans hS35 hb37
        refine ⟨_, rfl, .inr hS37, ?_⟩
        simp only [Act.put, sA, sZ, sS]
        refine tk 38 63 (v := .bool false) rfl rfl (fun W hW => exec_binbb rfl rfl rfl (neq_bb ff W)) ?_
        simp only [Act.put, sA, sZ, sS]
        refine tk 39 64 (v := .bool false) rfl rfl (fun W hW => rfl) ?_
        simp only [Act.put, sA, sZ, sS]
        refine done (by kernel_rfl) ?_ _
        have HB6 := Lib.hid (below_trans HB5.out hS37)
        clear hS hS3 hS16 hS22 hS25 hS28 hb28 hS35 hS37 hb3 hb16 hb22 hb25 hb35 hb37 hlg hlo hlc hrc hcs hgo hro hfn hgc heq hne hn2
        have hkn := known_any (HE.out.b HB6.out)
        have HKN := Lib.hid hkn
        clear hkn hqq
        go_wp2_with (go_at_call 12; refine HKN.out.mono ?_; rintro e wk ⟨rfl, hb⟩; have HB9 := Lib.hid (below_trans HB6.out hb); clear hb)
        go_ret
        exact ⟨rfl, HB9.out⟩
      | false =>
        simp only [Bool.false_and] at hgo
        refine onlyCall 22 47 rfl rfl (by kernel_rfl) rfl (exec_call [.agg x, .agg y] rfl rfl Tryz.func25 (by kernel_rfl) (by kernel_rfl)) ?_
        refine (hgo _ hS16).mono ?_
        rintro e W22 ⟨rfl, hb22⟩
        have hS22 := below_trans hS16 hb22
        refine ⟨_, rfl, .inr hS22, ?_⟩
        simp only [Act.put, sA, sZ, sS]
        refine onlyCall 25 50 rfl rfl (by kernel_rfl) rfl (exec_call [.agg x, .agg y] rfl rfl Tryz.func17 (by kernel_rfl) (by kernel_rfl)) ?_
        refine (hro _ hS22).mono ?_
        rintro e W25 ⟨rfl, hb25⟩
        have hS25 := below_trans hS22 hb25
        refine ⟨_, rfl, .inr hS25, ?_⟩
        simp only [Act.put, sA, sZ, sS]
        refine tk 26 51 (v := .bool false) rfl rfl (fun W hW => exec_move rfl rfl) ?_
        simp only [Act.put, sA, sZ, sS]
        refine tn 27 52 rfl rfl ?_
        simp only [Act.put, sA, sZ, sS]
        refine onlyNot 28 53 rfl rfl (by kernel_rfl) rfl ?_ (.inr (by assumption))
        simp only [Act.put, sA, sZ, sS]
        refine tk 29 54 (v := .bool false) rfl rfl (fun W hW => rfl) ?_
        simp only [Act.put, sA, sZ, sS]
        refine tk 30 55 (v := .bool false) rfl rfl (fun W hW => exec_binbb rfl rfl rfl (neq_bb false W)) ?_
        simp only [Act.put, sA, sZ, sS]
        refine tk 31 56 (v := .bool false) rfl rfl (fun W hW => rfl) ?_
        simp only [Act.put, sA, sZ, sS]
        refine tk 32 57 (v := .bool false) rfl rfl (fun W hW => exec_move rfl rfl) ?_
        simp only [Act.put, sA, sZ, sS]
        refine tk 33 58 (v := .agg x) rfl rfl (fun W hW => exec_load rfl rfl (hlg W hW)) ?_
        simp only [Act.put, sA, sZ, sS]
        refine tk 34 59 (v := .agg z) rfl rfl (fun W hW => exec_load rfl rfl (hlc W hW)) ?_
        simp only [Act.put, sA, sZ, sS]
        refine tk 36 61 (v := .agg x) rfl rfl (fun W hW => exec_load rfl rfl (hlg W hW)) ?_
        simp only [Act.put, sA, sZ, sS]
        refine onlyCall 35 60 rfl rfl (by kernel_rfl) rfl (exec_call [.agg x, .agg z] rfl rfl Tryz.func25 (by kernel_rfl) (by kernel_rfl)) ?_
        refine (hgc _ hS25).mono ?_
        rintro e W35 ⟨rfl, hb35⟩
        have hS35 := below_trans hS25 hb35
        refine ⟨_, rfl, .inr hS35, ?_⟩
        simp only [Act.put, sA, sZ, sS]
        refine onlyCall 37 62 rfl rfl (by kernel_rfl) rfl (exec_call [.agg x] rfl rfl Tryz.func26 (by kernel_rfl) (by kernel_rfl)) ?_
        refine (hfn _ hS35).mono ?_
        rintro e W37 ⟨rfl, hb37⟩
        have hS37 := below_trans hS35 hb37
        refine ⟨_, rfl, .inr hS37, ?_⟩
        simp only [Act.put, sA, sZ, sS]
        refine tk 38 63 (v := .bool false) rfl rfl (fun W hW => exec_binbb rfl rfl rfl (neq_bb ff W)) ?_
        simp only [Act.put, sA, sZ, sS]
        refine tk 39 64 (v := .bool false) rfl rfl (fun W hW => rfl) ?_
        simp only [Act.put, sA, sZ, sS]
        refine done (by kernel_rfl) ?_ _
        have HB6 := Lib.hid (below_trans HB5.out hS37)
        clear hS hS3 hS16 hS22 hS25 hS35 hS37 hb3 hb16 hb22 hb25 hb35 hb37 hlg hlo hlc hrc hcs hgo hro hfn hgc heq hne hn2
        have hkn := known_any (HE.out.b HB6.out)
        have HKN := Lib.hid hkn
        clear hkn hqq
        go_wp2_with (go_at_call 12; refine HKN.out.mono ?_; rintro e wk ⟨rfl, hb⟩; have HB9 := Lib.hid (below_trans HB6.out hb); clear hb)
        go_ret
        exact ⟨rfl, HB9.out⟩
  · have HOK := Lib.hid hok
    have HCE := Lib.hid (show errG (okG g) = 0 by rw [hok]; rfl)
    clear hok
    have HV1 := Lib.hid (vast_any HQ.out.gx HK.out.2.2.1)
    go_enter Tryz.func7, Tryz.ntmps7
    go_wp2_with (first
      | ((with_reducible apply op_load); exact HQ.out.lg; exact rfl)
      | ((with_reducible apply op_loadH); exact HQ.out.lo; exact rfl; exact rfl)
      | ((with_reducible apply op_store); exact HSTC.out _ rfl; exact rfl; exact rfl; clear HSTC)
      | (go_at_call 9
         (
          refine HV1.out.mono ?_
          rintro e wv ⟨⟨bv, rfl⟩, hb⟩
          replace HQ := Lib.hid (HQ.out.below hb)
          have HV2 := Lib.hid (vast_any HQ.out.ox HK.out.2.2.2)
          clear hb HV1
          cases bv))
      | (go_at_call 9
         (
          refine HV2.out.mono ?_
          rintro e wv ⟨⟨bv, rfl⟩, hb⟩
          replace HQ := Lib.hid (HQ.out.below hb)
          clear hb HV2
          cases bv))
      | (go_at_call 12; refine (known_any (HE.out.b HQ.out.b)).mono ?_; rintro e wk ⟨rfl, hb⟩; have HB9 := Lib.hid (below_trans HQ.out.b hb); clear hb)
      | (go_at_call 24
         refine (checkO_any (HE.out.b HQ.out.b) HQ.out.gx HK.out.1).mono ?_
         rintro e wc ⟨he, hb⟩
         rw [HCE.out] at he
         subst he
         replace HQ := Lib.hid (HQ.out.below hb)
         clear hb)
      | (go_at_call 13
         (
          refine (copyG_any HQ.out.gx HK.out.1).mono ?_
          rintro e wd ⟨z, rfl, hz, hb⟩
          have hzr := hz.rdO HK.out.1
          have hn9 := below_new (w := wd) (.cells z 25)
          have HSTC := Lib.hid (StT.fresh (P := Tryz.prog) (W := wd) st_graph (ef_graph.size hzr) (ef_graph.ones hzr))
          have HLZ := Lib.hid (show Lies wd.heap.size 25 z (wd.alloc (.cells z 25)) from heap_alloc_new wd _)
          have HCR := Lib.hid (hzr.below hn9)
          replace HQ := Lib.hid ((HQ.out.below hb).below hn9)
          clear hb hz hzr hn9))
      | (go_at_call 14
         (
          refine (make_any (HE.out.b HQ.out.b) HQ.out.gx HK.out.1).mono ?_
          rintro e wr ⟨hb, h1, h2⟩
          obtain ⟨B, ma, rfl, hgm⟩ := h2 HOK.out
          have HQC := Lib.hid (And.intro (HQ.out.below hb) (And.intro (HLZ.out.below hb) (HCR.out.below hb)))
          have HGM := Lib.hid hgm
          clear HQ hb h1 h2 HLZ HCR hgm)))
    all_goals try (go_ret; exact ⟨rfl, HB9.out⟩)
    · obtain ⟨hq, hlz, hcr⟩ := HQC.out
      have hlg := fun W (g : Below wr.heap.size wr W) => (hq.below g).lg
      have hlo := fun W (g : Below wr.heap.size wr W) => (hq.below g).lo
      have hlc := fun W (g : Below wr.heap.size wr W) => (hlz.below g).get (ef_graph.size hcr)
      have hrc := fun W (g : Below wr.heap.size wr W) => refcheck_any (hq.gx.below g) HK.out.2.2.1
      have hcs := fun W (g : Below wr.heap.size wr W) => sameRefG_any (hcr.below g) (hq.gx.below g)
      have hgo := fun W (gg : Below wr.heap.size wr W) => sameGO_any (HE.out.b (below_trans hq.b gg)) (hq.gx.below gg) (hq.ox.below gg) HK.out.1 HK.out.2.1
      have hro := fun W (g : Below wr.heap.size wr W) => sameRefG_any (hq.gx.below g) (hq.ox.below g)
      have hfn := fun W (g : Below wr.heap.size wr W) => reffine_any (hq.gx.below g) HK.out.2.2.1
      have hgc := fun W (gg : Below wr.heap.size wr W) => sameGO_any (HE.out.b (below_trans hq.b gg)) (hq.gx.below gg) (hcr.below gg) HK.out.1 HK.out.1
      have hgg : sameGQ g g = true := (sameGQ_iff g g).2 rfl
      have HB5 := Lib.hid hq.b
      rw [hgg] at hcs
      simp only [sameG_eq, hgg, Bool.true_and] at hgo hgc
      generalize sameGQ g o = ms at *
      generalize fineG g = ff at *
      have heq := fun W : World => (show (binOp .eql 38 (.int .i64 0) (.int .i64 0)).run Tryz.prog W = .ok (.bool true) W by simp [go_sem])
      have hne := fun W : World => (show (binOp .neq 38 (.int .i64 0) (.int .i64 0)).run Tryz.prog W = .ok (.bool false) W by simp [go_sem])
      have hn2 := fun W : World => (show (binOp .neq 38 (.int .i64 2) (.int .i64 2)).run Tryz.prog W = .ok (.bool false) W by simp [go_sem])
      rw [HOK.out] at hrc
      have hB0 : Below wr.heap.size wr wr.drew := (Below.refl _ wr).drew
      have hqq := Lib.hid hq
      clear hq hlz hcr HQC
      refine plain_region_draws (fun W => Below wr.heap.size wr W) (by kernel_rfl) hB0 (fun hS => ?_)
      refine tk 0 25 (v := .int .i64 0) rfl rfl (fun W hW => exec_move rfl rfl) ?_
      simp only [Act.put, sA, sZ, sS]
      refine tk 1 26 (v := .bool true) rfl rfl (fun W hW => exec_bini rfl rfl rfl (heq W)) ?_
      simp only [Act.put, sA, sZ, sS]
      refine tk 2 27 (v := .agg x) rfl rfl (fun W hW => exec_load rfl rfl (hlg W hW)) ?_
      simp only [Act.put, sA, sZ, sS]
      refine onlyCall 3 28 rfl rfl (by kernel_rfl) rfl (exec_call [.agg x] rfl rfl Tryz.func11 (by kernel_rfl) (by kernel_rfl)) ?_
      refine (hrc _ hS).mono ?_
      rintro e W3 ⟨rfl, hb3⟩
      have hS3 := below_trans hS hb3
      refine ⟨_, rfl, .inr hS3, ?_⟩
      simp only [Act.put, sA, sZ, sS]
      refine tk 4 29 (v := .bool false) rfl rfl (fun W hW => exec_binbb rfl rfl rfl (neq_bb true W)) ?_
      simp only [Act.put, sA, sZ, sS]
      refine tk 5 30 (v := .bool false) rfl rfl (fun W hW => exec_move rfl rfl) ?_
      simp only [Act.put, sA, sZ, sS]
      refine tk 6 31 (v := .int .i64 0) rfl rfl (fun W hW => exec_move rfl rfl) ?_
      simp only [Act.put, sA, sZ, sS]
      refine tk 7 32 (v := .bool false) rfl rfl (fun W hW => exec_bini rfl rfl rfl (hne W)) ?_
      simp only [Act.put, sA, sZ, sS]
      refine tk 8 33 (v := .bool false) rfl rfl (fun W hW => exec_move rfl rfl) ?_
      simp only [Act.put, sA, sZ, sS]
      refine tn 9 34 rfl rfl ?_
      simp only [Act.put, sA, sZ, sS]
      refine tn 10 35 rfl rfl ?_
      simp only [Act.put, sA, sZ, sS]
      refine tk 11 36 (v := .bool false) rfl rfl (fun W hW => rfl) ?_
      simp only [Act.put, sA, sZ, sS]
      refine tk 12 37 (v := .bool false) rfl rfl (fun W hW => rfl) ?_
      simp only [Act.put, sA, sZ, sS]
      refine tk 13 38 (v := .bool false) rfl rfl (fun W hW => exec_move rfl rfl) ?_
      simp only [Act.put, sA, sZ, sS]
      refine tk 14 39 (v := .agg z) rfl rfl (fun W hW => exec_load rfl rfl (hlc W hW)) ?_
      simp only [Act.put, sA, sZ, sS]
      refine tk 15 40 (v := .agg x) rfl rfl (fun W hW => exec_load rfl rfl (hlg W hW)) ?_
      simp only [Act.put, sA, sZ, sS]
      refine onlyCall 16 41 rfl rfl (by kernel_rfl) rfl (exec_call [.agg z, .agg x] rfl rfl Tryz.func17 (by kernel_rfl) (by kernel_rfl)) ?_
      refine (hcs _ hS3).mono ?_
      rintro e W16 ⟨rfl, hb16⟩
      have hS16 := below_trans hS3 hb16
      refine ⟨_, rfl, .inr hS16, ?_⟩
      simp only [Act.put, sA, sZ, sS]
      refine tk 17 42 (v := .bool false) rfl rfl (fun W hW => exec_unot (b := true) rfl rfl) ?_
      simp only [Act.put, sA, sZ, sS]
      refine tk 18 43 (v := .bool false) rfl rfl (fun W hW => rfl) ?_
      simp only [Act.put, sA, sZ, sS]
      refine tk 19 44 (v := .bool false) rfl rfl (fun W hW => exec_move rfl rfl) ?_
      simp only [Act.put, sA, sZ, sS]
      refine tk 20 45 (v := .agg x) rfl rfl (fun W hW => exec_load rfl rfl (hlg W hW)) ?_
      simp only [Act.put, sA, sZ, sS]
      refine tk 21 46 (v := .agg y) rfl rfl (fun W hW => exec_load rfl rfl (hlo W hW)) ?_
      simp only [Act.put, sA, sZ, sS]
      refine tk 23 48 (v := .agg x) rfl rfl (fun W hW => exec_load rfl rfl (hlg W hW)) ?_
      simp only [Act.put, sA, sZ, sS]
      refine tk 24 49 (v := .agg y) rfl rfl (fun W hW => exec_load rfl rfl (hlo W hW)) ?_
      simp only [Act.put, sA, sZ, sS]
      cases ms with
      | true =>
        simp only [Bool.true_and] at hgo
        refine onlyCall 22 47 rfl rfl (by kernel_rfl) rfl (exec_call [.agg x, .agg y] rfl rfl Tryz.func25 (by kernel_rfl) (by kernel_rfl)) ?_
        refine (hgo _ hS16).mono ?_
        rintro e W22 ⟨rfl, hb22⟩
        have hS22 := below_trans hS16 hb22
        refine ⟨_, rfl, .inr hS22, ?_⟩
        simp only [Act.put, sA, sZ, sS]
        refine onlyCall 25 50 rfl rfl (by kernel_rfl) rfl (exec_call [.agg x, .agg y] rfl rfl Tryz.func17 (by kernel_rfl) (by kernel_rfl)) ?_
        refine (hro _ hS22).mono ?_
        rintro e W25 ⟨rfl, hb25⟩
        have hS25 := below_trans hS22 hb25
        refine ⟨_, rfl, .inr hS25, ?_⟩
        simp only [Act.put, sA, sZ, sS]
        refine tk 26 51 (v := .bool true) rfl rfl (fun W hW => exec_move rfl rfl) ?_
        simp only [Act.put, sA, sZ, sS]
        refine tk 27 52 (v := .agg x) rfl rfl (fun W hW => exec_load rfl rfl (hlg W hW)) ?_
        simp only [Act.put, sA, sZ, sS]
        refine onlyCall 28 53 rfl rfl (by kernel_rfl) rfl (exec_call [.agg x] rfl rfl Tryz.func26 (by kernel_rfl) (by kernel_rfl)) ?_
        refine (hfn _ hS25).mono ?_
        rintro e W28 ⟨rfl, hb28⟩
        have hS28 := below_trans hS25 hb28
        refine ⟨_, rfl, .inr hS28, ?_⟩
        simp only [Act.put, sA, sZ, sS]
        refine tk 29 54 (v := .bool ff) rfl rfl (fun W hW => rfl) ?_
        simp only [Act.put, sA, sZ, sS]
        refine tk 30 55 (v := .bool false) rfl rfl (fun W hW => exec_binbb rfl rfl rfl (neq_bb ff W)) ?_
        simp only [Act.put, sA, sZ, sS]
        refine tk 31 56 (v := .bool false) rfl rfl (fun W hW => rfl) ?_
        simp only [Act.put, sA, sZ, sS]
        refine tk 32 57 (v := .bool false) rfl rfl (fun W hW => exec_move rfl rfl) ?_
        simp only [Act.put, sA, sZ, sS]
        refine tk 33 58 (v := .agg x) rfl rfl (fun W hW => exec_load rfl rfl (hlg W hW)) ?_
        simp only [Act.put, sA, sZ, sS]
        refine tk 34 59 (v := .agg z) rfl rfl (fun W hW => exec_load rfl rfl (hlc W hW)) ?_
        simp only [Act.put, sA, sZ, sS]
        refine tk 36 61 (v := .agg x) rfl rfl (fun W hW => exec_load rfl rfl (hlg W hW)) ?_
        simp only [Act.put, sA, sZ, sS]
        refine onlyCall 35 60 rfl rfl (by kernel_rfl) rfl (exec_call [.agg x, .agg z] rfl rfl Tryz.func25 (by kernel_rfl) (by kernel_rfl)) ?_
        refine (hgc _ hS28).mono ?_
        rintro e W35 ⟨rfl, hb35⟩
        have hS35 := below_trans hS28 hb35
        refine ⟨_, rfl, .inr hS35, ?_⟩
        simp only [Act.put, sA, sZ, sS]
        refine onlyCall 37 62 rfl rfl (by kernel_rfl) rfl (exec_call [.agg x] rfl rfl Tryz.func26 (by kernel_rfl) (by kernel_rfl)) ?_
        refine (hfn _ hS35).mono ?_
        rintro e W37 ⟨rfl, hb37⟩
        have hS37 := below_trans hS35 hb37
        refine ⟨_, rfl, .inr hS37, ?_⟩
        simp only [Act.put, sA, sZ, sS]
        refine tk 38 63 (v := .bool false) rfl rfl (fun W hW => exec_binbb rfl rfl rfl (neq_bb ff W)) ?_
        simp only [Act.put, sA, sZ, sS]
        refine tk 39 64 (v := .bool false) rfl rfl (fun W hW => rfl) ?_
        simp only [Act.put, sA, sZ, sS]
        refine done (by kernel_rfl) ?_ _
        have HB6 := Lib.hid (below_trans HB5.out hS37)
        have hKEEP := hS37
        clear hS hS3 hS16 hS22 hS25 hS28 hb28 hS35 hS37 hb3 hb16 hb22 hb25 hb35 hb37 hlg hlo hlc hrc hcs hgo hro hfn hgc heq hne hn2
        have hq7 := hqq.out.below hKEEP
        have hg7 := HGM.out.below hKEEP
        generalize W37 = wr at *
        go_wp2
        have hlg := fun W (g : Below wr.heap.size wr W) => (hq7.below g).lg
        have hth := fun W (g : Below wr.heap.size wr W) => there_any ((hg7.below g).box)
        have htl := fun W (gg : Below wr.heap.size wr W) => tell_ok (hg7.below gg) HOK.out HK.out.1
        have hok8 := HK.out.1
        have hss := fun W (gg : Below wr.heap.size wr W) (x8 : Array Value) (hx : GrRd W g x8) => sameRefG_any hx (hq7.gx.below gg)
        rw [(sameGQ_iff g g).2 rfl] at hss
        have hkn := fun W (gg : Below wr.heap.size wr W) => known_any (HE.out.b (below_trans HB6.out gg))
        have heq := fun W : World => (show (binOp .eql 38 (.int .i64 0) (.int .i64 0)).run Tryz.prog W = .ok (.bool true) W by simp [go_sem])
        have HB5 := HB6
        have hB0 : Below wr.heap.size wr wr.drew := (Below.refl _ wr).drew
        refine plain_region_draws (fun W => Below wr.heap.size wr W) (by kernel_rfl) hB0 (fun hS => ?_)
        refine tk 0 76 (v := .int .i64 0) rfl rfl (fun W hW => exec_move rfl rfl) ?_
        simp only [Act.put, sA, sZ, sS]
        refine tk 1 77 (v := .bool true) rfl rfl (fun W hW => exec_bini rfl rfl rfl (heq W)) ?_
        simp only [Act.put, sA, sZ, sS]
        refine tk 2 78 (v := .bool true) rfl rfl (fun W hW => exec_move rfl rfl) ?_
        simp only [Act.put, sA, sZ, sS]
        refine tk 3 79 (v := .pointer (some ⟨B.gx, 0, none⟩)) rfl rfl (fun W hW => exec_move rfl rfl) ?_
        simp only [Act.put, sA, sZ, sS]
        refine onlyCall 4 80 rfl rfl (by kernel_rfl) rfl (exec_call [.pointer (some ⟨B.gx, 0, none⟩)] rfl rfl Tryz.func27 (by kernel_rfl) (by kernel_rfl)) ?_
        refine (hth _ hS).mono ?_
        rintro e W4 ⟨rfl, rfl⟩
        have hS4 := hS
        refine ⟨_, rfl, .inr hS4, ?_⟩
        simp only [Act.put, sA, sZ, sS]
        refine tk 5 81 (v := .bool true) rfl rfl (fun W hW => rfl) ?_
        simp only [Act.put, sA, sZ, sS]
        refine tk 6 82 (v := .bool true) rfl rfl (fun W hW => exec_move rfl rfl) ?_
        simp only [Act.put, sA, sZ, sS]
        refine tk 7 83 (v := .pointer (some ⟨B.gx, 0, none⟩)) rfl rfl (fun W hW => exec_move rfl rfl) ?_
        simp only [Act.put, sA, sZ, sS]
        refine tk 9 85 (v := .agg x) rfl rfl (fun W hW => exec_load rfl rfl (hlg W hW)) ?_
        simp only [Act.put, sA, sZ, sS]
        refine onlyCall 8 84 rfl rfl (by kernel_rfl) rfl (exec_call [.pointer (some ⟨B.gx, 0, none⟩)] rfl rfl Tryz.func16 (by kernel_rfl) (by kernel_rfl)) ?_
        refine (htl _ hS4).mono ?_
        rintro e W8 ⟨x8, rfl, hx8, hb8⟩
        have hS8 := below_trans hS4 hb8
        have hs8 := hss _ hS8 x8 (hx8.rdO hok8)
        refine ⟨_, rfl, .inr hS8, ?_⟩
        simp only [Act.put, sA, sZ, sS]
        refine onlyCall 10 86 rfl rfl (by kernel_rfl) rfl (exec_call [.agg x8, .agg x] rfl rfl Tryz.func17 (by kernel_rfl) (by kernel_rfl)) ?_
        refine (hs8).mono ?_
        rintro e W10 ⟨rfl, hb10⟩
        have hS10 := below_trans hS8 hb10
        refine ⟨_, rfl, .inr hS10, ?_⟩
        simp only [Act.put, sA, sZ, sS]
        refine tk 11 87 (v := .bool true) rfl rfl (fun W hW => rfl) ?_
        simp only [Act.put, sA, sZ, sS]
        refine tk 12 88 (v := .bool true) rfl rfl (fun W hW => exec_move rfl rfl) ?_
        simp only [Act.put, sA, sZ, sS]
        refine onlyCall 13 89 rfl rfl (by kernel_rfl) rfl (exec_call [] rfl rfl Tryz.func12 (by kernel_rfl) (by kernel_rfl)) ?_
        refine (hkn _ hS10).mono ?_
        rintro e W13 ⟨rfl, hb13⟩
        have hS13 := below_trans hS10 hb13
        refine ⟨_, rfl, .inr hS13, ?_⟩
        simp only [Act.put, sA, sZ, sS]
        refine tk 14 90 (v := .bool true) rfl rfl (fun W hW => rfl) ?_
        simp only [Act.put, sA, sZ, sS]
        refine tk 15 4 (v := .bool true) rfl rfl (fun W hW => exec_assign rfl rfl) ?_
        simp only [Act.put, sA, sZ, sS]
        refine done (by kernel_rfl) ?_ _
        have HB7 := Lib.hid (below_trans HB5.out hS13)
        clear hS hS4 hS8 hS10 hS13 hb8 hb10 hb13 hx8 hs8 hth htl hss hkn heq hlg
        go_wp2
        go_ret
        exact ⟨rfl, HB7.out⟩
      | false =>
        simp only [Bool.false_and] at hgo
        refine onlyCall 22 47 rfl rfl (by kernel_rfl) rfl (exec_call [.agg x, .agg y] rfl rfl Tryz.func25 (by kernel_rfl) (by kernel_rfl)) ?_
        refine (hgo _ hS16).mono ?_
        rintro e W22 ⟨rfl, hb22⟩
        have hS22 := below_trans hS16 hb22
        refine ⟨_, rfl, .inr hS22, ?_⟩
        simp only [Act.put, sA, sZ, sS]
        refine onlyCall 25 50 rfl rfl (by kernel_rfl) rfl (exec_call [.agg x, .agg y] rfl rfl Tryz.func17 (by kernel_rfl) (by kernel_rfl)) ?_
        refine (hro _ hS22).mono ?_
        rintro e W25 ⟨rfl, hb25⟩
        have hS25 := below_trans hS22 hb25
        refine ⟨_, rfl, .inr hS25, ?_⟩
        simp only [Act.put, sA, sZ, sS]
        refine tk 26 51 (v := .bool false) rfl rfl (fun W hW => exec_move rfl rfl) ?_
        simp only [Act.put, sA, sZ, sS]
        refine tn 27 52 rfl rfl ?_
        simp only [Act.put, sA, sZ, sS]
        refine onlyNot 28 53 rfl rfl (by kernel_rfl) rfl ?_ (.inr (by assumption))
        simp only [Act.put, sA, sZ, sS]
        refine tk 29 54 (v := .bool false) rfl rfl (fun W hW => rfl) ?_
        simp only [Act.put, sA, sZ, sS]
        refine tk 30 55 (v := .bool false) rfl rfl (fun W hW => exec_binbb rfl rfl rfl (neq_bb false W)) ?_
        simp only [Act.put, sA, sZ, sS]
        refine tk 31 56 (v := .bool false) rfl rfl (fun W hW => rfl) ?_
        simp only [Act.put, sA, sZ, sS]
        refine tk 32 57 (v := .bool false) rfl rfl (fun W hW => exec_move rfl rfl) ?_
        simp only [Act.put, sA, sZ, sS]
        refine tk 33 58 (v := .agg x) rfl rfl (fun W hW => exec_load rfl rfl (hlg W hW)) ?_
        simp only [Act.put, sA, sZ, sS]
        refine tk 34 59 (v := .agg z) rfl rfl (fun W hW => exec_load rfl rfl (hlc W hW)) ?_
        simp only [Act.put, sA, sZ, sS]
        refine tk 36 61 (v := .agg x) rfl rfl (fun W hW => exec_load rfl rfl (hlg W hW)) ?_
        simp only [Act.put, sA, sZ, sS]
        refine onlyCall 35 60 rfl rfl (by kernel_rfl) rfl (exec_call [.agg x, .agg z] rfl rfl Tryz.func25 (by kernel_rfl) (by kernel_rfl)) ?_
        refine (hgc _ hS25).mono ?_
        rintro e W35 ⟨rfl, hb35⟩
        have hS35 := below_trans hS25 hb35
        refine ⟨_, rfl, .inr hS35, ?_⟩
        simp only [Act.put, sA, sZ, sS]
        refine onlyCall 37 62 rfl rfl (by kernel_rfl) rfl (exec_call [.agg x] rfl rfl Tryz.func26 (by kernel_rfl) (by kernel_rfl)) ?_
        refine (hfn _ hS35).mono ?_
        rintro e W37 ⟨rfl, hb37⟩
        have hS37 := below_trans hS35 hb37
        refine ⟨_, rfl, .inr hS37, ?_⟩
        simp only [Act.put, sA, sZ, sS]
        refine tk 38 63 (v := .bool false) rfl rfl (fun W hW => exec_binbb rfl rfl rfl (neq_bb ff W)) ?_
        simp only [Act.put, sA, sZ, sS]
        refine tk 39 64 (v := .bool false) rfl rfl (fun W hW => rfl) ?_
        simp only [Act.put, sA, sZ, sS]
        refine done (by kernel_rfl) ?_ _
        have HB6 := Lib.hid (below_trans HB5.out hS37)
        have hKEEP := hS37
        clear hS hS3 hS16 hS22 hS25 hS35 hS37 hb3 hb16 hb22 hb25 hb35 hb37 hlg hlo hlc hrc hcs hgo hro hfn hgc heq hne hn2
        have hq7 := hqq.out.below hKEEP
        have hg7 := HGM.out.below hKEEP
        generalize W37 = wr at *
        go_wp2
        have hlg := fun W (g : Below wr.heap.size wr W) => (hq7.below g).lg
        have hth := fun W (g : Below wr.heap.size wr W) => there_any ((hg7.below g).box)
        have htl := fun W (gg : Below wr.heap.size wr W) => tell_ok (hg7.below gg) HOK.out HK.out.1
        have hok8 := HK.out.1
        have hss := fun W (gg : Below wr.heap.size wr W) (x8 : Array Value) (hx : GrRd W g x8) => sameRefG_any hx (hq7.gx.below gg)
        rw [(sameGQ_iff g g).2 rfl] at hss
        have hkn := fun W (gg : Below wr.heap.size wr W) => known_any (HE.out.b (below_trans HB6.out gg))
        have heq := fun W : World => (show (binOp .eql 38 (.int .i64 0) (.int .i64 0)).run Tryz.prog W = .ok (.bool true) W by simp [go_sem])
        have HB5 := HB6
        have hB0 : Below wr.heap.size wr wr.drew := (Below.refl _ wr).drew
        refine plain_region_draws (fun W => Below wr.heap.size wr W) (by kernel_rfl) hB0 (fun hS => ?_)
        refine tk 0 76 (v := .int .i64 0) rfl rfl (fun W hW => exec_move rfl rfl) ?_
        simp only [Act.put, sA, sZ, sS]
        refine tk 1 77 (v := .bool true) rfl rfl (fun W hW => exec_bini rfl rfl rfl (heq W)) ?_
        simp only [Act.put, sA, sZ, sS]
        refine tk 2 78 (v := .bool true) rfl rfl (fun W hW => exec_move rfl rfl) ?_
        simp only [Act.put, sA, sZ, sS]
        refine tk 3 79 (v := .pointer (some ⟨B.gx, 0, none⟩)) rfl rfl (fun W hW => exec_move rfl rfl) ?_
        simp only [Act.put, sA, sZ, sS]
        refine onlyCall 4 80 rfl rfl (by kernel_rfl) rfl (exec_call [.pointer (some ⟨B.gx, 0, none⟩)] rfl rfl Tryz.func27 (by kernel_rfl) (by kernel_rfl)) ?_
        refine (hth _ hS).mono ?_
        rintro e W4 ⟨rfl, rfl⟩
        have hS4 := hS
        refine ⟨_, rfl, .inr hS4, ?_⟩
        simp only [Act.put, sA, sZ, sS]
        refine tk 5 81 (v := .bool true) rfl rfl (fun W hW => rfl) ?_
        simp only [Act.put, sA, sZ, sS]
        refine tk 6 82 (v := .bool true) rfl rfl (fun W hW => exec_move rfl rfl) ?_
        simp only [Act.put, sA, sZ, sS]
        refine tk 7 83 (v := .pointer (some ⟨B.gx, 0, none⟩)) rfl rfl (fun W hW => exec_move rfl rfl) ?_
        simp only [Act.put, sA, sZ, sS]
        refine tk 9 85 (v := .agg x) rfl rfl (fun W hW => exec_load rfl rfl (hlg W hW)) ?_
        simp only [Act.put, sA, sZ, sS]
        refine onlyCall 8 84 rfl rfl (by kernel_rfl) rfl (exec_call [.pointer (some ⟨B.gx, 0, none⟩)] rfl rfl Tryz.func16 (by kernel_rfl) (by kernel_rfl)) ?_
        refine (htl _ hS4).mono ?_
        rintro e W8 ⟨x8, rfl, hx8, hb8⟩
        have hS8 := below_trans hS4 hb8
        have hs8 := hss _ hS8 x8 (hx8.rdO hok8)
        refine ⟨_, rfl, .inr hS8, ?_⟩
        simp only [Act.put, sA, sZ, sS]
        refine onlyCall 10 86 rfl rfl (by kernel_rfl) rfl (exec_call [.agg x8, .agg x] rfl rfl Tryz.func17 (by kernel_rfl) (by kernel_rfl)) ?_
        refine (hs8).mono ?_
        rintro e W10 ⟨rfl, hb10⟩
        have hS10 := below_trans hS8 hb10
        refine ⟨_, rfl, .inr hS10, ?_⟩
        simp only [Act.put, sA, sZ, sS]
        refine tk 11 87 (v := .bool true) rfl rfl (fun W hW => rfl) ?_
        simp only [Act.put, sA, sZ, sS]
        refine tk 12 88 (v := .bool true) rfl rfl (fun W hW => exec_move rfl rfl) ?_
        simp only [Act.put, sA, sZ, sS]
        refine onlyCall 13 89 rfl rfl (by kernel_rfl) rfl (exec_call [] rfl rfl Tryz.func12 (by kernel_rfl) (by kernel_rfl)) ?_
        refine (hkn _ hS10).mono ?_
        rintro e W13 ⟨rfl, hb13⟩
        have hS13 := below_trans hS10 hb13
        refine ⟨_, rfl, .inr hS13, ?_⟩
        simp only [Act.put, sA, sZ, sS]
        refine tk 14 90 (v := .bool true) rfl rfl (fun W hW => rfl) ?_
        simp only [Act.put, sA, sZ, sS]
        refine tk 15 4 (v := .bool true) rfl rfl (fun W hW => exec_assign rfl rfl) ?_
        simp only [Act.put, sA, sZ, sS]
        refine done (by kernel_rfl) ?_ _
        have HB7 := Lib.hid (below_trans HB5.out hS13)
        clear hS hS4 hS8 hS10 hS13 hb8 hb10 hb13 hx8 hs8 hth htl hss hkn heq hlg
        go_wp2
        go_ret
        exact ⟨rfl, HB7.out⟩
end Go.Proofs.YtihfnegakcghiaaGreatDoor
namespace Go.Proofs.YtihfnegakcghiaaGreatDoor
open Go.ChangeShapes Go.WideShapes Go.ChangeAt Go.RowKit Go.Joins
theorem graphChecks_reads (os : Os) {H : Type} (enc : TypeId × Value → H) : ∃ x : List (DataW H) × List (DataW H) × List MemPlace, DataW.whole enc Tryz.checked.prog ((World.laidAll Tryz.prog os LD).forCall (fun _ _ => 0) ⟨#[], #[.agg #[.slice none 0 0, .slice none 0 0, .int .i64 0, .int .i64 0], .agg #[.slice none 0 0, .slice none 0 0, .int .i64 0, .int .i64 0]], []⟩).memory Tryz.f7.params.toList (Rows.OpenSpec.upto Rows.graphChecksSpec).vars false #[.agg #[.slice none 0 0, .slice none 0 0, .int .i64 0, .int .i64 0], .agg #[.slice none 0 0, .slice none 0 0, .int .i64 0, .int .i64 0]].toList 8 = some x ∧ Rows.uptoSmall H (x.1 ++ x.2.1) = true := by
  refine ⟨([.agg [.nil, .nil, .lit (.int .i64 0), .lit (.int .i64 0)], .agg [.nil, .nil, .lit (.int .i64 0), .lit (.int .i64 0)]], [], []), ?_, ?_⟩
  · kernel_rfl
  · kernel_rfl
theorem graphChecks_lifted (os : Os) (started : os.Started) (H : Type) (enc : TypeId × Value → H) (F : Stop.Interp) :
    ReturnsInHanded {} Tryz.checked os 7 .any ((Rows.OpenSpec.upto Rows.graphChecksSpec).preRow enc Tryz.prog Tryz.f7 [] false LD) (((Rows.OpenSpec.upto Rows.graphChecksSpec).at F).post enc Tryz.prog Tryz.f7 false true false false) := by
  obtain ⟨xr, hxr, hsm⟩ := graphChecks_reads os enc
  refine returns_upto started (by kernel_rfl) Tryz.func7 #[.agg #[.slice none 0 0, .slice none 0 0, .int .i64 0, .int .i64 0], .agg #[.slice none 0 0, .slice none 0 0, .int .i64 0, .int .i64 0]] (by kernel_rfl) (by kernel_rfl) (by kernel_rfl) hxr hsm (by kernel_rfl) (wit_laid _ _) ?_
  intro W base args ds gs before hval0 hW hbk hz hE
  have hval : ∀ (j : Nat) t v, Tryz.f7.params[j]? = some t → args[j]? = some v → Value.okWide Tryz.prog W .any base t v := hval0
  have hW' := hW
  obtain ⟨p, q, hA0, hV, rfl, hfz, hnd⟩ := hW
  have hA : DataW.TrodAll enc Tryz.prog W 0 (fun _ => true) true Tryz.f7.params.toList args.toList ds p := hA0
  rw [Tryz.params7] at hA hval
  obtain ⟨v0, vs0, d0, ds0, p0, q0, hargs, rfl, rfl, h0, r0⟩ := trodAll_cons hA
  obtain ⟨v1, vs1, d1, ds1, p1, q1, rfl, rfl, rfl, h1, r1⟩ := trodAll_cons r0
  obtain ⟨rfl, rfl, rfl⟩ := trodAll_nil r1
  obtain ⟨rfl, rfl⟩ := trodVars_none hV
  obtain rfl : args = #[v0, v1] := by cases args; simp_all
  rw [Tryz.params7] at hz
  simp only [List.append_nil, Rows.uptoBulkAll] at hbk
  obtain ⟨z0, z1⟩ := fits_two hz
  obtain ⟨a0, x0, rfl, hx0, hr0, hk0⟩ := graph_inU (hval 0 25 v0 rfl rfl) h0 z0
  have hk0 := hk0 (by omega)
  obtain ⟨a1, x1, rfl, hx1, hr1, hk1⟩ := graph_inU (hval 1 25 v1 rfl rfl) h1 z1
  have hk1 := hk1 (by omega)
  clear hA0 hval0
  refine (gchecks_any hE hx0 hx1 hk0 hk1).mono fun e W' ⟨he, hg⟩ => ?_
  subst he
  exact ⟨_, rfl, law_post laidT (by decide +kernel) Tryz.underlying4 (by kernel_rfl) rfl hW' rfl hg⟩
theorem graphChecks_row : Rows.GraphChecksUptoSaid :=
  OpenClaim.holds_of_cond 7 Tryz.f7 rfl rfl rfl rfl rfl rfl rfl ⟨rfl, rfl, rfl, rfl, rfl⟩ rfl rfl rfl rfl rfl (by kernel_rfl) Tryz.func7 (by kernel_rfl)
    (of_decide_eq_true (by kernel_rfl)) (by unfold Func.isWrapper; first | (rw [if_pos (by decide +kernel)]; kernel_rfl) | (rw [if_neg (by decide +kernel)]; exact ⟨rfl, rfl⟩))
    (fun os started H enc _ F => by rw [OpenClaim.pre_eq_preRow]; exact graphChecks_lifted os started H enc F)
theorem gchecks_law_holds : Rows.GraphChecksUptoCardSaid :=
  Claim7.holds_tied_plain_at .later [] _ _ _ _
    graphChecks_row (fun _ h => by cases h) (by kernel_rfl) (fun _ h => by cases h) graphChecksUpto_row_tie rfl ⟨rfl, rfl⟩ (by kernel_rfl) rfl
    (fun f fn hf hfn => by
      obtain rfl : f = 7 := Option.some.inj ((show Tryz.prog.funcNamed "lattice/latticelaw05.GraphChecks" = some 7 by kernel_rfl).symm.trans hf) |>.symm
      obtain rfl : fn = Tryz.f7 := (Option.some.inj (Tryz.func7.symm.trans hfn)).symm
      exact ⟨by kernel_rfl, fun j t ht => by
        rw [Tryz.params7] at ht
        have hm : t ∈ [25, 25] := by simpa using Array.mem_of_getElem? ht
        have hall : ([25, 25].all fun u => !Tryz.prog.wantsStandIn u) = true := by kernel_rfl
        exact (show Tryz.prog.wantsStandIn t = false by simpa using List.all_eq_true.1 hall t hm)⟩)
    (by kernel_rfl)
#print axioms gchecks_law_holds
end Go.Proofs.YtihfnegakcghiaaGreatDoor
