/- The book: its smallest functions. -/
import Derived.Test.YtfpmdagchbbkcaaWrite
namespace Go.Proofs.Ytfpmdagchbbkcaa
open Go.RowKit

/-- A slice of bytes in memory of its own. -/
def OwnB (w : World) (v : Value) (l : List UInt8) : Prop := w.ownsRow 0 5 1 v l.length (bcells l)

theorem OwnB.rd {w : World} {v : Value} {l : List UInt8} (h : OwnB w v l) : RdB w v l := by
  rcases h.2 with ⟨rfl, h0⟩ | ⟨g, cap, cur, rfl, _, hg, hnc, hcm, hcs, htake⟩
  · have : l = [] := List.eq_nil_of_length_eq_zero h0
    subst this
    exact ⟨none, 0, rfl, ⟨Nat.le_refl _, by simp [maxLen], fun _ => rfl⟩, fun ad h => by cases h⟩
  · refine ⟨some ⟨g, 0, none⟩, cap, rfl, ⟨hnc, hcm, fun h => by cases h⟩, fun ad had => ?_⟩
    cases had
    refine ⟨rfl, fun i b hi => ?_⟩
    have := ownsRow_cell h i (.int .u8 (b.toNat : Int)) (by simp [bcells, hi])
    rw [addr_add] at this; exact this
theorem OwnB.shape {w : World} {v : Value} {l : List UInt8} (h : OwnB w v l) : ∃ a c, v = .slice a l.length c := by
  obtain ⟨a, c, e, _⟩ := h.rd; exact ⟨a, c, e⟩
theorem OwnB.nil (w : World) : OwnB w (.slice none 0 0) [] := World.ownsRow_nil _ _ _ _
theorem OwnB.below {w w' : World} {v : Value} {l : List UInt8} (h : OwnB w v l) (hb : Below w.heap.size w w') : OwnB w' v l := ownsRow_heap h fun g hg => hb.block g (h.lt g hg).2
theorem OwnB.touch {S : Nat → Prop} {w w' : World} {v : Value} {l : List UInt8} (h : OwnB w v l) (g : Touch S w w') (hs : OffF S v) : OwnB w' v l := ownsRow_heap h fun b hb => g.block b (h.lt b hb).2 (hs b hb)
theorem bcells_one (l : List UInt8) : ∀ u ∈ bcells l, u.oneCell' = true := by
  intro u hu; simp only [bcells, List.mem_map] at hu; obtain ⟨b, _, rfl⟩ := hu; rfl
theorem bcells_append (l m : List UInt8) : bcells (l ++ m) = bcells l ++ bcells m := by simp [bcells]

theorem info_u8 : ∃ i, Try.prog.info? 5 = some i ∧ i.zero = some (.int .u8 0) ∧ i.size = 1 ∧ i.bytes = 1 := info_parts (by kernel_rfl)

/-- append of bytes that lie at an address. -/
theorem append_bytes {w : World} {v : Value} {l : List UInt8} (hown : OwnB w v l) (ad : Addr) (c : Nat) (m : List UInt8) (hm : ∀ i b, m[i]? = some b → w.cell? (ad.add i) = some (.int .u8 (b.toNat : Int))) (hlen : l.length + m.length ≤ 140737488355328) (ty : TypeId) :
    ∃ v' w', (Builtin.append_ #[34, 34] ty #[v, .slice (some ad) m.length c]).run Try.prog w = .ok v' w' ∧ OwnB w' v' (l ++ m) ∧ Touch (fun b => v.ownBlock = some b) w w' ∧
      (v'.ownBlock = v.ownBlock ∨ v'.ownBlock = some w.heap.size) ∧ w.heap.size ≤ w'.heap.size := by
  obtain ⟨i0, h1, h2, h3, h4⟩ := info_u8
  obtain ⟨v', w', a1, a2, a3, a4, a5⟩ := append_law (P := Try.prog) (w := w) 34 ty 5 i0 (.int .u8 0) 1 1 Try.underlying34 h1 h2 h3 h4 rfl v l.length (bcells l) hown ad m.length c (bcells m) (by simp [bcells]) (by
    intro j u hu
    simp only [bcells, List.getElem?_map, Option.map_eq_some_iff] at hu
    obtain ⟨b, hb, rfl⟩ := hu
    exact hm j b hb) (bcells_one m) (by unfold maxLen; omega) (by omega)
  exact ⟨v', w', a1, by unfold OwnB; rw [List.length_append, bcells_append]; exact a2, a3, a4, a5⟩
/-- append of a slice of bytes that can be read. -/
theorem append_rd {w : World} {v : Value} {l : List UInt8} (hown : OwnB w v l) (a : Option Addr) (n c : Nat) (m : List UInt8) (hm : RdB w (.slice a n c) m) (hlen : l.length + m.length ≤ 140737488355328) (ty : TypeId) :
    ∃ v' w', (Builtin.append_ #[34, 34] ty #[v, .slice a n c]).run Try.prog w = .ok v' w' ∧ OwnB w' v' (l ++ m) ∧ Touch (fun b => v.ownBlock = some b) w w' ∧
      (v'.ownBlock = v.ownBlock ∨ v'.ownBlock = some w.heap.size) ∧ w.heap.size ≤ w'.heap.size := by
  obtain ⟨a', cap, heq, h1, h2⟩ := hm
  cases heq
  cases a with
  | none =>
    have hc := h1.2.2 rfl
    have hn : m = [] := List.eq_nil_of_length_eq_zero (by omega)
    subst hn; subst hc
    obtain ⟨i0, h1, h2, h3, h4⟩ := info_u8
    refine ⟨v, w, append_law_nil (P := Try.prog) 34 ty 5 i0 1 Try.underlying34 h1 h3 v l.length (bcells l) hown, by rw [List.append_nil]; exact hown, Touch.refl _ _, .inl rfl, Nat.le_refl _⟩
  | some ad =>
    obtain ⟨hs, hcell⟩ := h2 ad rfl
    obtain ⟨b, o, sp⟩ := ad
    simp only at hs; subst hs
    exact append_bytes hown ⟨b, o, none⟩ c m (fun i x hx => by rw [addr_add]; exact hcell i x hx) hlen ty

/-! ### bytes.Clone -/
set_option maxRecDepth 100000 in
set_option maxHeartbeats 400000 in
theorem clone_any (a : Option Addr) (n c : Nat) (l : List UInt8) (w : World) (hrd : RdB w (.slice a n c) l) (hlen : l.length ≤ 140737488355328) :
    Calls Try.prog 37 #[.slice a n c] w fun e w' => ∃ v, e = .returned v ∧ OwnB w' v l ∧ Below w.heap.size w w' ∧ (∀ g, v.ownBlock = some g → w.heap.size ≤ g) := by
  cases a with
  | none =>
    obtain ⟨a', cap, heq, h1, h2⟩ := hrd
    cases heq
    have hn : l = [] := List.eq_nil_of_length_eq_zero (by have := h1.2.2 rfl; omega)
    subst hn
    clear hlen h1 h2
    have he := Lib.run_eql_slice_nil (P := Try.prog) w 34 5 none 0 c 0 0 Try.underlying34
    go_enter Try.func37, Try.ntmps37
    go_wp2
    go_ret
    exact ⟨_, rfl, OwnB.nil _, Below.refl _ _, fun g hg => by cases hg⟩
  | some ad =>
    have hB : Below w.heap.size w (w.alloc (.cells #[] 5)) := (Below.refl _ _).alloc (Nat.le_refl _) _
    have hown : OwnB (w.alloc (.cells #[] 5)) (.slice (some ⟨w.heap.size, 0, none⟩) 0 0) [] := ownsRow_of_heap (heap_alloc_new _ _) (Nat.le_refl _) (by simp [maxLen]) rfl rfl rfl
    obtain ⟨v', w', happ, h1, h2, h3, h4⟩ := append_rd hown (some ad) n c l (hrd.below hB) (by simpa using hlen) 34
    have Hf : Hid (OwnB w' v' l ∧ Below w.heap.size w w' ∧ ∀ g, v'.ownBlock = some g → w.heap.size ≤ g) := by
      refine ⟨h1, ?_, fun g hg => ?_⟩
      · exact h2.below hB (fun b hb e => by simp [Value.ownBlock] at e; omega) hB.size
      · rcases h3 with e | e
        · rw [e] at hg; simp [Value.ownBlock] at hg; omega
        · rw [e] at hg; simp at hg; omega
    clear h1 h2 h3 h4 hown hrd hB hlen
    have he := Lib.run_eql_slice_nil (P := Try.prog) w 34 5 (some ad) n c 0 0 Try.underlying34
    go_enter Try.func37, Try.ntmps37
    go_wp2_with (refine wpList_append rfl rfl rfl rfl happ ?_)
    go_ret
    exact ⟨_, rfl, Hf.out⟩

/-! ### low -/
def lo8 (x : Nat) : Nat := x % 256
def hi8 (x : Nat) : Nat := x / 256
theorem low_next (w : World) (B : Nat) (x : Nat) (_ : x < 18446744073709551616) (hc : w.cell? ⟨B, 0, none⟩ = some (.int .u64 (x : Int))) (hf : w.frozen? ⟨B, 0, none⟩ = false) :
    Calls Try.prog 66 #[.pointer (some ⟨B, 0, none⟩)] w fun e w' => e = .returned (.int .u8 (lo8 x : Int)) ∧ w' = w.setCell ⟨B, 0, none⟩ (.int .u64 (hi8 x : Int)) := by
  go_enter Try.func66, Try.ntmps66
  go_wp2
  go_ret
  exact ⟨rfl, rfl⟩

/-- The k lowest bytes of a number. -/
def leB (x k : Nat) : List UInt8 := (List.range k).map fun i => UInt8.ofNat (x / 256 ^ i % 256)
theorem leB_succ (x k : Nat) : leB x (k + 1) = leB x k ++ [UInt8.ofNat (x / 256 ^ k % 256)] := by simp [leB, List.range_succ]
theorem leB_length (x k : Nat) : (leB x k).length = k := by simp [leB]
/-- An int64 as its 64 bits. -/
def u64 (n : Int) : Nat := (n % 18446744073709551616).toNat
theorem u64_lt (n : Int) : u64 n < 18446744073709551616 := by unfold u64; omega
theorem wrap_u64 (n : Int) : IntKind.u64.wrap n = (u64 n : Int) := by simp [IntKind.wrap, IntKind.signed, IntKind.bits, u64]; omega

set_option maxRecDepth 100000 in
set_option maxHeartbeats 400000 in
theorem low_any (n : Int) (w : World) :
    Calls Try.prog 57 #[.int .i64 n] w fun e w' => ∃ v, e = .returned v ∧ OwnB w' v (leB (u64 n) 8) ∧ Below w.heap.size w w' ∧ (∀ g, v.ownBlock = some g → w.heap.size ≤ g) := by
  go_enter Try.func57, Try.ntmps57
  go_wp2
  generalize hw1 : w.alloc _ = w1
  have hb1 : Below w.heap.size w w1 := by rw [← hw1]; exact (Below.refl _ _).alloc (Nat.le_refl _) _
  have hs1 : w.heap.size + 1 ≤ w1.heap.size := by rw [← hw1]; simp
  have c1 : w1.cell? ⟨w.heap.size, 0, none⟩ = some (.int .u64 ((u64 n : Nat) : Int)) := by rw [← hw1, wrap_u64]; simp [go_sem]
  have f1 : w1.frozen? ⟨w.heap.size, 0, none⟩ = false := by rw [← hw1]; simp [go_sem]
  clear hw1
  have hx := u64_lt n
  generalize hxx : u64 n = x at *
  have Hxx := Lib.hid hxx
  clear hxx
  go_loopw [5, 9] (fun v i wr => ∃ (k y : Nat), k ≤ 8 ∧ i = .int .i64 (k : Int) ∧ OwnB wr v (leB x k) ∧ Below w.heap.size w wr ∧ wr.cell? ⟨w.heap.size, 0, none⟩ = some (.int .u64 (y : Int)) ∧ wr.frozen? ⟨w.heap.size, 0, none⟩ = false ∧
      (∀ g, v.ownBlock = some g → w.heap.size < g) ∧ w.heap.size + 1 ≤ wr.heap.size ∧ y = x / 256 ^ k) (fun _ i _ => 8 - (intOf i).toNat)
  case atStart => exact ⟨0, x, by omega, rfl, OwnB.nil _, hb1, c1, f1, (fun g hg => by cases hg), hs1, by simp⟩
  case round =>
    obtain ⟨k, y, hk, rfl, hown, hb, hc, hf, hg, hsz, hy⟩ := hrel
    have hyx : y < 18446744073709551616 := by rw [hy]; exact Nat.lt_of_le_of_lt (Nat.div_le_self _ _) hx
    by_cases hlt : k < 8
    · have hW1 : Touch (fun b => b = w.heap.size) wr (wr.setCell ⟨w.heap.size, 0, none⟩ (.int .u64 (hi8 y : Int))) := (Touch.refl _ _).setCell (.inl (by exact rfl)) _
      have c2 : (wr.setCell ⟨w.heap.size, 0, none⟩ (.int .u64 (hi8 y : Int))).cell? ⟨w.heap.size, 0, none⟩ = some (.int .u64 (hi8 y : Int)) := World.cell?_setCell_same' _ _ _ (by rw [hc]; rfl)
      have f2 : (wr.setCell ⟨w.heap.size, 0, none⟩ (.int .u64 (hi8 y : Int))).frozen? ⟨w.heap.size, 0, none⟩ = false := by rw [World.frozen?_setCell]; exact hf
      have hb2 : Below w.heap.size w (wr.setCell ⟨w.heap.size, 0, none⟩ (.int .u64 (hi8 y : Int))) := belowSet hb (Nat.le_refl _) _
      have hown2 : OwnB (wr.setCell ⟨w.heap.size, 0, none⟩ (.int .u64 (hi8 y : Int))) u5 (leB x k) := hown.touch hW1 (fun g h e => by have := hg g h; omega)
      generalize hW : wr.setCell ⟨w.heap.size, 0, none⟩ (.int .u64 (hi8 y : Int)) = W1 at *
      have hB3 : Below W1.heap.size W1 (W1.alloc (.cells #[.int .u8 (lo8 y : Int)] 5)) := (Below.refl _ _).alloc (Nat.le_refl _) _
      have hsz1 := hW1.size
      have hby : ((UInt8.ofNat (x / 256 ^ k % 256)).toNat : Int) = (lo8 y : Int) := by
        rw [← hy]; simp [lo8, UInt8.toNat_ofNat']
      obtain ⟨v', w', happ, h1, h2, h3, h4⟩ := append_bytes (hown2.below hB3) ⟨W1.heap.size, 0, none⟩ 1 [UInt8.ofNat (x / 256 ^ k % 256)] (by
        intro i b hi
        cases i with
        | zero =>
          simp at hi; subst hi
          rw [addr_add, hby]; simp [go_sem]
        | succ i => simp at hi) (by simp [leB_length]; omega) 34
      have hfin : OwnB w' v' (leB x (k + 1)) ∧ Below w.heap.size w w' ∧ w'.cell? ⟨w.heap.size, 0, none⟩ = some (.int .u64 (hi8 y : Int)) ∧ w'.frozen? ⟨w.heap.size, 0, none⟩ = false ∧ (∀ g, v'.ownBlock = some g → w.heap.size < g) ∧ w.heap.size + 1 ≤ w'.heap.size ∧ hi8 y = x / 256 ^ (k + 1) := by
        have hne : ¬ (u5.ownBlock = some w.heap.size) := fun e => by have := hg _ e; omega
        refine ⟨by rw [leB_succ]; exact h1, h2.below (hb2.trans (hB3.mono (by omega))) (fun b hb' e => by have := hg _ e; omega) (by simp; omega), h2.cell (belowCell hB3 (ltOf c2) c2) hne, h2.frozen (belowFrozen hB3 (ltOf c2) f2) (by have := ltOf c2; simp; omega) hne, fun g hg' => ?_, by simp at h4; omega, by rw [Nat.pow_succ, ← Nat.div_div_eq_div_mul, ← hy]; rfl⟩
        rcases h3 with e | e
        · exact hg g (by rw [← e]; exact hg')
        · rw [e] at hg'; simp at hg'; omega
      have Hf := Lib.hid hfin
      have HW := Lib.hid hW
      have Hn := Lib.hid (low_next wr w.heap.size y hyx hc hf)
      have Ha := Lib.hid happ
      clear hfin hW hown hown2 h1 h2 h3 h4 hby hy hx hyx hb hb2 c1 f1 c2 f2 happ hc hf
      go_wp2_with (first
        | (go_at_call 66; refine Hn.out.mono ?_; rintro e w'' ⟨rfl, rfl⟩; rw [HW.out])
        | (refine wpList_append rfl rfl rfl rfl Ha.out ?_))
      go_roundw
      case rel => exact ⟨k + 1, hi8 y, by omega, by go_num, Hf.out⟩
      case measure => simp [intOf]; omega
    · obtain rfl : k = 8 := by omega
      have Hf : Hid _ := Lib.hid (And.intro hown (And.intro hb hg))
      clear hown hb hg hc hf hy hyx
      go_wp2
      go_ret
      exact ⟨_, rfl, by rw [Hxx.out]; exact Hf.out.1, Hf.out.2.1, fun g h => Nat.le_of_lt (Hf.out.2.2 g h)⟩

/-! ### padded -/
def padB (l : List UInt8) : List UInt8 := l ++ List.replicate ((512 - l.length % 512) % 512) 0
theorem padB_length (l : List UInt8) : (padB l).length % 512 = 0 := by
  simp only [padB, List.length_append, List.length_replicate]; omega

set_option maxRecDepth 100000 in
set_option maxHeartbeats 400000 in
theorem padded_any (a : Option Addr) (n c : Nat) (l : List UInt8) (w : World) (hrd : RdB w (.slice a n c) l) (hlen : l.length ≤ 33554432) :
    Calls Try.prog 42 #[.slice a n c] w fun e w' => ∃ v, e = .returned v ∧ OwnB w' v (padB l) ∧ Below w.heap.size w w' ∧ (∀ g, v.ownBlock = some g → w.heap.size ≤ g) := by
  have Hc := Lib.hid (clone_any a n c l w hrd (by omega))
  clear hrd
  go_enter Try.func42, Try.ntmps42
  go_wp2_with (go_at_call 37; refine Hc.out.mono ?_; rintro e w1 ⟨v1, rfl, h1, h2, h3⟩; have H1 := Lib.hid h1; have H2 := Lib.hid h2; have H3 := Lib.hid h3; clear h1 h2 h3)
  go_loopw [3] (fun v wr => ∃ (k q : Nat) (a' : Option Addr) (c' : Nat), v = .slice a' q c' ∧ OwnB wr v (l ++ List.replicate k 0) ∧ Below w.heap.size w wr ∧ (∀ g, v.ownBlock = some g → w.heap.size ≤ g) ∧ k ≤ (512 - l.length % 512) % 512 ∧ q = l.length + k)
    (fun v _ => match v with | .slice _ q _ => 33554432 + 1024 - q | _ => 0)
  case atStart =>
    obtain ⟨a', c', e⟩ := H1.out.shape
    exact ⟨0, l.length, a', c', e, by simpa using H1.out, H2.out, H3.out, by omega, rfl⟩
  case round =>
    obtain ⟨k, q, a', c', rfl, hown, hb, hg, hk, hq⟩ := hrel
    by_cases hlt : k < (512 - l.length % 512) % 512
    · have hB3 : Below wr.heap.size wr (wr.alloc (.cells #[.int .u8 0] 5)) := (Below.refl _ _).alloc (Nat.le_refl _) _
      obtain ⟨v', w', happ, h1, h2, h3, h4⟩ := append_bytes (hown.below hB3) ⟨wr.heap.size, 0, none⟩ 1 [0] (by
        intro i b hi
        cases i with
        | zero => simp at hi; subst hi; rw [addr_add]; simp [go_sem]
        | succ i => simp at hi) (by simp; omega) 34
      have hfin : OwnB w' v' (l ++ List.replicate (k + 1) 0) ∧ Below w.heap.size w w' ∧ (∀ g, v'.ownBlock = some g → w.heap.size ≤ g) := by
        refine ⟨by rw [List.replicate_succ', ← List.append_assoc]; exact h1, h2.below (hb.trans (hB3.mono hb.size)) (fun b hb' e => by have := hg _ e; omega) (by have := hb.size; simp; omega), fun g hg' => ?_⟩
        rcases h3 with e | e
        · exact hg g (by rw [← e]; exact hg')
        · rw [e] at hg'; have := hb.size; simp at hg'; omega
      obtain ⟨a2, c2, e2⟩ := h1.shape
      have e3 : (l ++ List.replicate k 0 ++ [0]).length = q + 1 := by simp; omega
      rw [e3] at e2
      subst e2
      have Hf := Lib.hid hfin
      have Ha := Lib.hid happ
      have Hq : Hid (q = l.length + k ∧ q < 33554432 + 1024) := Lib.hid ⟨hq, by omega⟩
      have hmod1 : (((q : Int) % 512) == 0) = false := by rw [beq_eq_false_iff_ne]; omega
      have hmod2 : (((q : Int) % 512) != 0) = true := by rw [bne_iff_ne]; omega
      have Hk := Lib.hid hk
      have Hl := Lib.hid hlt
      clear hfin happ hown h1 h2 h3 h4 hb hq hk hlt hlen
      go_wp2_with (refine wpList_append rfl rfl rfl rfl Ha.out ?_)
      go_roundw
      case rel => exact ⟨k + 1, q + 1, a2, c2, rfl, Hf.out.1, Hf.out.2.1, Hf.out.2.2, by have := Hl.out; omega, by have := Hq.out; omega⟩
      case measure => have := Hq.out; simp; omega
    · have hke : k = (512 - l.length % 512) % 512 := by omega
      have Hf : Hid (OwnB wr (.slice a' q c') (padB l) ∧ Below w.heap.size w wr ∧ ∀ g, (Value.slice a' q c').ownBlock = some g → w.heap.size ≤ g) := Lib.hid ⟨by rw [padB, ← hke]; exact hown, hb, hg⟩
      have hmod1 : (((q : Int) % 512) == 0) = true := by rw [beq_iff_eq]; omega
      have hmod2 : (((q : Int) % 512) != 0) = false := by simp; omega
      clear hown hb hg hq hk hlt hlen hke
      go_wp2
      go_ret
      exact ⟨_, rfl, Hf.out⟩
end Go.Proofs.Ytfpmdagchbbkcaa
