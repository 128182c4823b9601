/- Values that may be and have one text are the same. Plain. -/
import Derived.Test.YtnkaegdnjfpliaaGreatDoorTxt
namespace Go.Proofs.YtnkaegdnjfpliaaGreatDoor
set_option linter.unusedSimpArgs false
set_option linter.unusedVariables false
open Go

/-! ### Numbers -/
def decVal (l : List UInt8) : Nat := l.foldl (fun a c => 10 * a + (c.toNat - 48)) 0
theorem decVal_snoc (l : List UInt8) (c : UInt8) : decVal (l ++ [c]) = 10 * decVal l + (c.toNat - 48) := by simp [decVal]
theorem decVal_digits : ∀ u : Nat, decVal (Lib.decDigits u) = u := by
  intro u
  induction u using Nat.strongRecOn with
  | _ u ih =>
    rw [Lib.decDigits]
    split
    · rename_i h
      simp only [decVal, List.foldl_cons, List.foldl_nil, UInt8.toNat_ofNat']
      omega
    · rename_i h
      rw [decVal_snoc, ih (u / 10) (by omega), UInt8.toNat_ofNat']
      omega
theorem digits_are : ∀ u : Nat, ∀ c ∈ Lib.decDigits u, 48 ≤ c.toNat ∧ c.toNat ≤ 57 := by
  intro u
  induction u using Nat.strongRecOn with
  | _ u ih =>
    rw [Lib.decDigits]
    split
    · rename_i h
      intro c hc
      simp only [List.mem_singleton] at hc
      subst hc
      rw [UInt8.toNat_ofNat']; omega
    · rename_i h
      intro c hc
      rcases List.mem_append.1 hc with hc | hc
      · exact ih (u / 10) (by omega) c hc
      · simp only [List.mem_singleton] at hc
        subst hc
        rw [UInt8.toNat_ofNat']; omega
theorem digits_ne (u : Nat) : Lib.decDigits u ≠ [] := by
  rw [Lib.decDigits]; split <;> simp
/-- What a number's text is of. -/
def numC (c : UInt8) : Bool := c == 45 || digitB c
theorem itoa_are (n : Int) : ∀ c ∈ Lib.itoa n, numC c = true := by
  intro c hc
  unfold Lib.itoa at hc
  unfold numC digitB
  split at hc
  · rcases List.mem_cons.1 hc with rfl | hc
    · rfl
    · have := digits_are _ c hc
      simp [this]
  · have := digits_are _ c hc
    simp [this]
theorem itoa_head (n : Int) : ∃ c r, Lib.itoa n = c :: r ∧ numC c = true := by
  cases h : Lib.itoa n with
  | nil =>
    exfalso
    unfold Lib.itoa at h
    split at h
    · cases h
    · exact digits_ne _ h
  | cons c r => exact ⟨c, r, rfl, itoa_are n c (by rw [h]; simp)⟩
theorem itoa_inj {n m : Int} (h : Lib.itoa n = Lib.itoa m) : n = m := by
  unfold Lib.itoa at h
  split at h <;> split at h
  · have := congrArg decVal (List.cons.inj h).2
    rw [decVal_digits, decVal_digits] at this
    omega
  · exfalso
    have := digits_are m.toNat 45 (by rw [← h]; simp)
    revert this; decide
  · exfalso
    have := digits_are n.toNat 45 (by rw [h]; simp)
    revert this; decide
  · have := congrArg decVal h
    rw [decVal_digits, decVal_digits] at this
    omega
/-- The begin of bytes that is of some. -/
theorem takeWhile_all {P : UInt8 → Bool} {l x : List UInt8} (hl : ∀ c ∈ l, P c = true) (hx : ∀ c r, x = c :: r → P c = false) : (l ++ x).takeWhile P = l := by
  induction l with
  | nil =>
    cases x with
    | nil => rfl
    | cons c r => simp [List.takeWhile, hx c r rfl]
  | cons a l ih =>
    simp only [List.cons_append, List.takeWhile_cons, hl a (by simp), if_true]
    rw [ih fun c hc => hl c (by simp [hc])]
theorem split_all {P : UInt8 → Bool} {l m x y : List UInt8} (hl : ∀ c ∈ l, P c = true) (hm : ∀ c ∈ m, P c = true) (hx : ∀ c r, x = c :: r → P c = false) (hy : ∀ c r, y = c :: r → P c = false) (h : l ++ x = m ++ y) : l = m ∧ x = y := by
  have e : l = m := by
    have := congrArg (List.takeWhile P) h
    rwa [takeWhile_all hl hx, takeWhile_all hm hy] at this
  subst e
  exact ⟨rfl, List.append_cancel_left h⟩
/-- What may stand behind a value's text. -/
def Ends (x : List UInt8) : Prop := ∀ c r, x = c :: r → c = 44 ∨ c = 93 ∨ c = 125 ∨ c = 62
theorem Ends.num {x : List UInt8} (h : Ends x) : ∀ c r, x = c :: r → numC c = false := by
  intro c r e
  rcases h c r e with rfl | rfl | rfl | rfl <;> rfl
theorem itoa_split {n m : Int} {x y : List UInt8} (hx : Ends x) (hy : Ends y) (h : Lib.itoa n ++ x = Lib.itoa m ++ y) : n = m ∧ x = y := by
  obtain ⟨h1, h2⟩ := split_all (itoa_are n) (itoa_are m) hx.num hy.num h
  exact ⟨itoa_inj h1, h2⟩

/-! ### Quoted texts -/
def unhex (c : UInt8) : Nat := if c.toNat < 58 then c.toNat - 48 else c.toNat - 87
def unesc : List UInt8 → UInt8 × List UInt8
  | 92 :: 39 :: r => (39, r)
  | 92 :: 92 :: r => (92, r)
  | 92 :: 110 :: r => (10, r)
  | 92 :: 116 :: r => (9, r)
  | 92 :: 114 :: r => (13, r)
  | 92 :: 117 :: _ :: _ :: h :: k :: r => (UInt8.ofNat (16 * unhex h + unhex k), r)
  | c :: r => (c, r)
  | [] => (0, [])
theorem unhex_hex : ∀ n < 16, unhex (hexB n) = n := by decide
theorem unesc_esc (c : UInt8) (r : List UInt8) : unesc (escB c ++ r) = (c, r) := by
  unfold escB
  split
  · rename_i h; subst h; rfl
  · split
    · rename_i h; subst h; rfl
    · split
      · rename_i h; subst h; rfl
      · split
        · rename_i h; subst h; rfl
        · split
          · rename_i h; subst h; rfl
          · split
            · rename_i h
              have hc := c.toNat_lt
              show (UInt8.ofNat (16 * unhex (hexB (c.toNat / 16)) + unhex (hexB (c.toNat % 16))), r) = (c, r)
              rw [unhex_hex _ (by omega), unhex_hex _ (by omega)]
              congr 1
              apply UInt8.toNat_inj.1
              rw [UInt8.toNat_ofNat']; omega
            · rename_i h1 h2 h3 h4 h5 h6
              show unesc (c :: r) = (c, r)
              unfold unesc
              split <;> simp_all
theorem esc_head (c : UInt8) : ∃ d r, escB c = d :: r ∧ d ≠ 39 := by
  unfold escB
  split
  · exact ⟨_, _, rfl, by decide⟩
  · rename_i h
    repeat' split
    all_goals first
      | exact ⟨_, _, rfl, by decide⟩
      | exact ⟨_, _, rfl, h⟩
theorem quoted_split : ∀ (s t x y : List UInt8), s.flatMap escB ++ 39 :: x = t.flatMap escB ++ 39 :: y → s = t ∧ x = y := by
  intro s
  induction s with
  | nil =>
    intro t x y h
    cases t with
    | nil => simpa using h
    | cons d t =>
      obtain ⟨e, r, he, hne⟩ := esc_head d
      simp only [List.flatMap_nil, List.nil_append, List.flatMap_cons, he, List.cons_append, List.cons.injEq] at h
      exact absurd h.1.symm hne
  | cons c s ih =>
    intro t x y h
    cases t with
    | nil =>
      obtain ⟨e, r, he, hne⟩ := esc_head c
      simp only [List.flatMap_nil, List.nil_append, List.flatMap_cons, he, List.cons_append, List.cons.injEq] at h
      exact absurd h.1 hne
    | cons d t =>
      simp only [List.flatMap_cons, List.append_assoc] at h
      have h2 := congrArg unesc h
      rw [unesc_esc, unesc_esc] at h2
      obtain ⟨rfl, h3⟩ := Prod.mk.inj h2
      obtain ⟨rfl, rfl⟩ := ih t x y h3
      exact ⟨rfl, rfl⟩
theorem quote_split {s t x y : List UInt8} (h : quoteB s ++ x = quoteB t ++ y) : s = t ∧ x = y := by
  unfold quoteB at h
  simp only [List.cons_append, List.append_assoc, List.nil_append, List.cons.injEq, true_and] at h
  exact quoted_split s t x y h

/-! ### Names -/
def wordC (c : UInt8) : Bool := letterB c || digitB c
theorem plain_are {s : List UInt8} (h : plainB s = true) : (∀ c ∈ s, wordC c = true) ∧ ∃ c r, s = c :: r ∧ c ≠ 96 := by
  cases s with
  | nil => simp [plainB] at h
  | cons c r =>
    simp only [plainB, Bool.and_eq_true, List.all_eq_true] at h
    refine ⟨fun d hd => ?_, c, r, rfl, ?_⟩
    · rcases List.mem_cons.1 hd with rfl | hd
      · unfold wordC; rw [h.1]; rfl
      · exact h.2 d hd
    · rintro rfl
      exact absurd h.1 (by decide)
theorem ticked_split : ∀ (s t x y : List UInt8), s.flatMap tickB ++ 96 :: 58 :: x = t.flatMap tickB ++ 96 :: 58 :: y → s = t ∧ x = y := by
  intro s
  induction s with
  | nil =>
    intro t x y h
    cases t with
    | nil => simpa using h
    | cons d t =>
      exfalso
      simp only [List.flatMap_nil, List.nil_append, List.flatMap_cons, tickB] at h
      split at h
      · simp at h
      · rename_i hd
        simp only [List.cons_append, List.nil_append, List.cons.injEq] at h
        exact hd h.1.symm
  | cons c s ih =>
    intro t x y h
    cases t with
    | nil =>
      exfalso
      simp only [List.flatMap_nil, List.nil_append, List.flatMap_cons, tickB] at h
      split at h
      · simp at h
      · rename_i hd
        simp only [List.cons_append, List.nil_append, List.cons.injEq] at h
        exact hd h.1
    | cons d t =>
      simp only [List.flatMap_cons, List.append_assoc, tickB] at h
      split at h <;> split at h
      · rename_i h1 h2
        subst h1; subst h2
        simp only [List.cons_append, List.nil_append, List.cons.injEq, true_and] at h
        obtain ⟨rfl, rfl⟩ := ih t x y h
        exact ⟨rfl, rfl⟩
      · rename_i h1 h2
        subst h1
        simp only [List.cons_append, List.nil_append, List.cons.injEq] at h
        exact absurd h.1.symm h2
      · rename_i h1 h2
        subst h2
        simp only [List.cons_append, List.nil_append, List.cons.injEq] at h
        exact absurd h.1 h1
      · simp only [List.cons_append, List.nil_append, List.cons.injEq] at h
        obtain ⟨rfl, h⟩ := h
        obtain ⟨rfl, rfl⟩ := ih t x y h
        exact ⟨rfl, rfl⟩
theorem name_split {s t x y : List UInt8} (h : nameB s ++ 58 :: x = nameB t ++ 58 :: y) : s = t ∧ x = y := by
  unfold nameB at h
  have w58 : ∀ (z : List UInt8) c r, (58 :: z : List UInt8) = c :: r → wordC c = false := by
    intro z c r e; obtain ⟨rfl, _⟩ := List.cons.inj e; rfl
  by_cases h1 : plainB s = true <;> by_cases h2 : plainB t = true
  · rw [if_pos h1, if_pos h2] at h
    obtain ⟨e1, e2⟩ := split_all (plain_are h1).1 (plain_are h2).1 (w58 x) (w58 y) h
    exact ⟨e1, (List.cons.inj e2).2⟩
  · rw [if_pos h1, if_neg h2] at h
    obtain ⟨_, c, r, rfl, hc⟩ := plain_are h1
    simp only [List.cons_append, List.cons.injEq] at h
    exact absurd h.1 hc
  · rw [if_neg h1, if_pos h2] at h
    obtain ⟨_, c, r, rfl, hc⟩ := plain_are h2
    simp only [List.cons_append, List.cons.injEq] at h
    exact absurd h.1.symm hc
  · rw [if_neg h1, if_neg h2] at h
    simp only [List.cons_append, List.append_assoc, List.nil_append, List.cons.injEq, true_and] at h
    exact ticked_split s t x y h

/-! ### Rows -/
theorem tails_split {α : Type} (f : α → List UInt8) (e : UInt8) (he : e = 93 ∨ e = 125) : ∀ l l' : List α, (∀ a ∈ l, ∀ b ∈ l', ∀ x y, Ends x → Ends y → f a ++ x = f b ++ y → a = b ∧ x = y) →
    ∀ x y, Lib.joinTail [44, 32] (l.map f) ++ e :: x = Lib.joinTail [44, 32] (l'.map f) ++ e :: y → l = l' ∧ x = y := by
  have hh : ∀ (m : List α) z, Ends (Lib.joinTail [44, 32] (m.map f) ++ e :: z) := by
    intro m z c r h
    cases m with
    | nil =>
      simp only [List.map_nil, Lib.joinTail, List.flatten_nil, List.nil_append, List.cons.injEq] at h
      rw [← h.1]; rcases he with rfl | rfl <;> simp
    | cons a m =>
      simp only [List.map_cons, Lib.joinTail, List.flatten_cons, List.cons_append, List.cons.injEq] at h
      exact .inl h.1.symm
  intro l
  induction l with
  | nil =>
    intro l' _ x y h
    cases l' with
    | nil => simpa [Lib.joinTail] using h
    | cons b l' =>
      simp only [List.map_nil, List.map_cons, Lib.joinTail, List.flatten_nil, List.nil_append, List.flatten_cons, List.cons_append, List.cons.injEq] at h
      rcases he with rfl | rfl <;> exact absurd h.1 (by decide)
  | cons a l ih =>
    intro l' H x y h
    cases l' with
    | nil =>
      simp only [List.map_nil, List.map_cons, Lib.joinTail, List.flatten_nil, List.nil_append, List.flatten_cons, List.cons_append, List.cons.injEq] at h
      rcases he with rfl | rfl <;> exact absurd h.1 (by decide)
    | cons b l' =>
      simp only [List.map_cons, Lib.joinTail, List.flatten_cons, List.cons_append, List.nil_append, List.append_assoc, List.cons.injEq, true_and] at h
      obtain ⟨rfl, h2⟩ := H a (by simp) b (by simp) _ _ (hh l x) (hh l' y) h
      obtain ⟨rfl, rfl⟩ := ih l' (fun a ha b hb => H a (by simp [ha]) b (by simp [hb])) x y h2
      exact ⟨rfl, rfl⟩
theorem items_split {α : Type} (f : α → List UInt8) (e : UInt8) (he : e = 93 ∨ e = 125) (l l' : List α) (H : ∀ a ∈ l, ∀ b ∈ l', ∀ x y, Ends x → Ends y → f a ++ x = f b ++ y → a = b ∧ x = y)
    (Hh : ∀ a, a ∈ l ∨ a ∈ l' → ∀ z r, f a ++ z ≠ e :: r) (x y : List UInt8) (h : Lib.join (l.map f) [44, 32] ++ e :: x = Lib.join (l'.map f) [44, 32] ++ e :: y) : l = l' ∧ x = y := by
  have hh : ∀ (m : List α) z, Ends (Lib.joinTail [44, 32] (m.map f) ++ e :: z) := by
    intro m z c r h
    cases m with
    | nil =>
      simp only [List.map_nil, Lib.joinTail, List.flatten_nil, List.nil_append, List.cons.injEq] at h
      rw [← h.1]; rcases he with rfl | rfl <;> simp
    | cons a m =>
      simp only [List.map_cons, Lib.joinTail, List.flatten_cons, List.cons_append, List.cons.injEq] at h
      exact .inl h.1.symm
  cases l with
  | nil =>
    cases l' with
    | nil => simpa [Lib.join_nil] using h
    | cons b l' =>
      rw [List.map_nil, List.map_cons, Lib.join_nil, Lib.join_cons, List.append_assoc, List.nil_append] at h
      exact absurd h.symm (Hh b (.inr (by simp)) _ _)
  | cons a l =>
    cases l' with
    | nil =>
      rw [List.map_nil, List.map_cons, Lib.join_nil, Lib.join_cons, List.append_assoc, List.nil_append] at h
      exact absurd h (Hh a (.inl (by simp)) _ _)
    | cons b l' =>
      rw [List.map_cons, List.map_cons, Lib.join_cons, Lib.join_cons, List.append_assoc, List.append_assoc] at h
      obtain ⟨rfl, h2⟩ := H a (by simp) b (by simp) _ _ (hh l x) (hh l' y) h
      obtain ⟨rfl, rfl⟩ := tails_split f e he l l' (fun a ha b hb => H a (by simp [ha]) b (by simp [hb])) x y h2
      exact ⟨rfl, rfl⟩
/-! ### Texts -/
def kindOf : List UInt8 → Int
  | [] => -1
  | c :: r => if c = 110 then 0 else if c = 116 ∨ c = 102 then 1 else if numC c then 2 else if c = 39 then 3 else if c = 91 then 4 else if c = 123 then 5 else if r.headD 0 = 110 then 6 else 7
theorem numC_not {c : UInt8} (h : numC c = true) : c ≠ 110 ∧ c ≠ 116 ∧ c ≠ 102 ∧ c ≠ 93 ∧ c ≠ 125 := by
  refine ⟨?_, ?_, ?_, ?_, ?_⟩ <;> (rintro rfl; exact absurd h (by decide))
theorem textV_mk (k : Int) (b : Bool) (n : Int) (t : List UInt8) (ks : List (List UInt8)) (l : List V) : textV (.mk k b n t ks l) =
    if k = 1 then (if b then [116, 114, 117, 101] else [102, 97, 108, 115, 101])
    else if k = 2 then Lib.itoa n
    else if k = 3 then quoteB t
    else if k = 6 then [60, 110] ++ Lib.itoa n ++ [62]
    else if k = 7 then [60, 114] ++ Lib.itoa n ++ [62]
    else if k = 0 then [110, 117, 108, 108]
    else if k = 5 then 123 :: (Lib.join (entriesV ks l) [44, 32] ++ [125])
    else 91 :: (Lib.join (textsV l) [44, 32] ++ [93]) := by rw [textV]
theorem kind_of (v : V) (h0 : 0 ≤ v.kind) (h7 : v.kind ≤ 7) (x : List UInt8) : kindOf (textV v ++ x) = v.kind := by
  cases v with
  | mk k b n t ks l =>
    simp only [V.kind] at *
    rw [textV_mk]
    have hk : k = 0 ∨ k = 1 ∨ k = 2 ∨ k = 3 ∨ k = 4 ∨ k = 5 ∨ k = 6 ∨ k = 7 := by omega
    rcases hk with rfl | rfl | rfl | rfl | rfl | rfl | rfl | rfl
    · simp [kindOf]
    · cases b <;> simp [kindOf]
    · obtain ⟨c, r, e, hc⟩ := itoa_head n
      obtain ⟨g1, g2, g3, _⟩ := numC_not hc
      simp [e, kindOf, hc, g1, g2, g3]
    · simp [quoteB, kindOf, numC, digitB]
    · simp [kindOf, numC, digitB]
    · simp [kindOf, numC, digitB]
    · simp [kindOf, numC, digitB]
    · simp [kindOf, numC, digitB]
theorem text_head (v : V) (h0 : 0 ≤ v.kind) (h7 : v.kind ≤ 7) (z r : List UInt8) : textV v ++ z ≠ 93 :: r ∧ textV v ++ z ≠ 125 :: r := by
  cases v with
  | mk k b n t ks l =>
    simp only [V.kind] at *
    rw [textV_mk]
    have hk : k = 0 ∨ k = 1 ∨ k = 2 ∨ k = 3 ∨ k = 4 ∨ k = 5 ∨ k = 6 ∨ k = 7 := by omega
    rcases hk with rfl | rfl | rfl | rfl | rfl | rfl | rfl | rfl
    · simp
    · cases b <;> simp
    · obtain ⟨c, q, e, hc⟩ := itoa_head n
      obtain ⟨_, _, _, g1, g2⟩ := numC_not hc
      simp [e, g1, g2]
    · simp [quoteB]
    · simp
    · simp
    · simp
    · simp
def entryB (p : List UInt8 × V) : List UInt8 := nameB p.1 ++ [58, 32] ++ textV p.2
theorem entriesV_eq : ∀ (ks : List (List UInt8)) (l : List V), ks.length = l.length → entriesV ks l = (ks.zip l).map entryB := by
  intro ks
  induction ks with
  | nil => intro l h; cases l with
    | nil => simp [entriesV]
    | cons => simp at h
  | cons k ks ih => intro l h; cases l with
    | nil => simp at h
    | cons a l => simp [entriesV, entryB, ih l (by simpa using h)]
theorem name_head (s z r : List UInt8) : nameB s ++ z ≠ 93 :: r ∧ nameB s ++ z ≠ 125 :: r := by
  unfold nameB
  split
  · rename_i h
    obtain ⟨hw, c, q, rfl, _⟩ := plain_are h
    have := hw c (by simp)
    constructor <;> (rintro e; simp only [List.cons_append, List.cons.injEq] at e; rw [e.1] at this; exact absurd this (by decide))
  · simp
theorem zip_inj : ∀ {ks ks' : List (List UInt8)} {l l' : List V}, ks.length = l.length → ks'.length = l'.length → ks.zip l = ks'.zip l' → ks = ks' ∧ l = l' := by
  intro ks ks' l l' h1 h2 h
  have e1 := congrArg (List.map Prod.fst) h
  have e2 := congrArg (List.map Prod.snd) h
  rw [List.map_fst_zip (by omega), List.map_fst_zip (by omega)] at e1
  rw [List.map_snd_zip (by omega), List.map_snd_zip (by omega)] at e2
  exact ⟨e1, e2⟩
/-- One text, one value. -/
theorem text_split {u : List UInt8 → Bool} : ∀ a : V, mayV u a = true → ∀ b : V, mayV u b = true → ∀ x y, Ends x → Ends y → textV a ++ x = textV b ++ y → a = b ∧ x = y := by
  refine V.ind fun k b n t ks l ih => ?_
  intro ha v hb x y hx hy h
  obtain ⟨h1, h2⟩ := mayV_iff.1 ha
  obtain ⟨g1, g2⟩ := mayV_iff.1 hb
  have f1 := oneV_iff.1 h1
  have f2 := oneV_iff.1 g1
  have hk : k = v.kind := by
    have e1 := kind_of (.mk k b n t ks l) f1.lo f1.hi x
    have e2 := kind_of v f2.lo f2.hi y
    rw [h, e2] at e1
    exact e1.symm
  cases v with
  | mk k' b' n' t' ks' l' =>
    obtain ⟨p1, p2, p3, p4, p5, p6, p7, _, _, p10, _, _⟩ := f1
    obtain ⟨_, _, q3, q4, q5, q6, q7, _, _, q10, _, _⟩ := f2
    simp only [V.kind, V.b, V.n, V.text, V.keys, V.list] at *
    subst hk
    rw [textV_mk, textV_mk] at h
    have hkk : k = 0 ∨ k = 1 ∨ k = 2 ∨ k = 3 ∨ k = 4 ∨ k = 5 ∨ k = 6 ∨ k = 7 := by omega
    rcases hkk with rfl | rfl | rfl | rfl | rfl | rfl | rfl | rfl
    · rw [p3 (by decide), q3 (by decide), p4 (by decide) (by decide) (by decide), q4 (by decide) (by decide) (by decide), p5 (by decide), q5 (by decide), p6 (by decide), q6 (by decide), p7 (by decide) (by decide), q7 (by decide) (by decide)]
      simpa using h
    · rw [p4 (by decide) (by decide) (by decide), q4 (by decide) (by decide) (by decide), p5 (by decide), q5 (by decide), p6 (by decide), q6 (by decide), p7 (by decide) (by decide), q7 (by decide) (by decide)]
      cases b <;> cases b' <;> simp at h ⊢
      · exact h
      · exact h
    · rw [p3 (by decide), q3 (by decide), p5 (by decide), q5 (by decide), p6 (by decide), q6 (by decide), p7 (by decide) (by decide), q7 (by decide) (by decide)]
      simp only [if_neg (show ¬ ((2 : Int) = 1) by decide), if_true] at h
      obtain ⟨rfl, rfl⟩ := itoa_split hx hy h
      exact ⟨rfl, rfl⟩
    · rw [p3 (by decide), q3 (by decide), p4 (by decide) (by decide) (by decide), q4 (by decide) (by decide) (by decide), p6 (by decide), q6 (by decide), p7 (by decide) (by decide), q7 (by decide) (by decide)]
      simp only [if_neg (show ¬ ((3 : Int) = 1) by decide), if_neg (show ¬ ((3 : Int) = 2) by decide), if_true] at h
      obtain ⟨rfl, rfl⟩ := quote_split h
      exact ⟨rfl, rfl⟩
    · rw [p3 (by decide), q3 (by decide), p4 (by decide) (by decide) (by decide), q4 (by decide) (by decide) (by decide), p5 (by decide), q5 (by decide), p6 (by decide), q6 (by decide)]
      simp only [if_neg (show ¬ ((4 : Int) = 1) by decide), if_neg (show ¬ ((4 : Int) = 2) by decide), if_neg (show ¬ ((4 : Int) = 3) by decide), if_neg (show ¬ ((4 : Int) = 6) by decide), if_neg (show ¬ ((4 : Int) = 7) by decide), if_neg (show ¬ ((4 : Int) = 0) by decide), if_neg (show ¬ ((4 : Int) = 5) by decide), List.cons_append, List.append_assoc, List.nil_append, List.cons.injEq, true_and, textsV_eq] at h
      obtain ⟨rfl, rfl⟩ := items_split textV 93 (.inl rfl) l l' (fun a ha b hb x y hx hy e => ih a ha (h2 a ha) b (g2 b hb) x y hx hy e)
        (fun a ha z r => by
          have hm : mayV u a = true := by rcases ha with ha | ha; exact h2 a ha; exact g2 a ha
          have f := oneV_iff.1 (mayV_iff.1 hm).1
          exact (text_head a f.lo f.hi z r).1) x y h
      exact ⟨rfl, rfl⟩
    · rw [p3 (by decide), q3 (by decide), p4 (by decide) (by decide) (by decide), q4 (by decide) (by decide) (by decide), p5 (by decide), q5 (by decide)]
      have hl1 := p10 rfl
      have hl2 := q10 rfl
      simp only [if_neg (show ¬ ((5 : Int) = 1) by decide), if_neg (show ¬ ((5 : Int) = 2) by decide), if_neg (show ¬ ((5 : Int) = 3) by decide), if_neg (show ¬ ((5 : Int) = 6) by decide), if_neg (show ¬ ((5 : Int) = 7) by decide), if_neg (show ¬ ((5 : Int) = 0) by decide), if_true, List.cons_append, List.append_assoc, List.nil_append, List.cons.injEq, true_and, entriesV_eq _ _ hl1, entriesV_eq _ _ hl2] at h
      obtain ⟨e, rfl⟩ := items_split entryB 125 (.inr rfl) (ks.zip l) (ks'.zip l') (fun a ha b hb x y hx hy e => by
          obtain ⟨k1, a1⟩ := a
          obtain ⟨k2, b1⟩ := b
          have ha1 := (List.of_mem_zip ha).2
          have hb1 := (List.of_mem_zip hb).2
          simp only [entryB, List.append_assoc, List.cons_append, List.nil_append] at e
          obtain ⟨rfl, e2⟩ := name_split e
          obtain ⟨rfl, rfl⟩ := ih a1 ha1 (h2 a1 ha1) b1 (g2 b1 hb1) x y hx hy (List.cons.inj e2).2
          exact ⟨rfl, rfl⟩)
        (fun a _ z r => by
          simp only [entryB, List.append_assoc]
          exact (name_head _ _ _).2) x y h
      obtain ⟨rfl, rfl⟩ := zip_inj hl1 hl2 e
      exact ⟨rfl, rfl⟩
    · rw [p3 (by decide), q3 (by decide), p5 (by decide), q5 (by decide), p6 (by decide), q6 (by decide), p7 (by decide) (by decide), q7 (by decide) (by decide)]
      simp only [if_neg (show ¬ ((6 : Int) = 1) by decide), if_neg (show ¬ ((6 : Int) = 2) by decide), if_neg (show ¬ ((6 : Int) = 3) by decide), if_true, List.cons_append, List.append_assoc, List.nil_append, List.cons.injEq, true_and] at h
      have he : ∀ z : List UInt8, Ends (62 :: z) := fun z c r e => .inr (.inr (.inr (List.cons.inj e).1.symm))
      obtain ⟨rfl, h'⟩ := itoa_split (he x) (he y) h
      exact ⟨rfl, (List.cons.inj h').2⟩
    · rw [p3 (by decide), q3 (by decide), p5 (by decide), q5 (by decide), p6 (by decide), q6 (by decide), p7 (by decide) (by decide), q7 (by decide) (by decide)]
      simp only [if_neg (show ¬ ((7 : Int) = 1) by decide), if_neg (show ¬ ((7 : Int) = 2) by decide), if_neg (show ¬ ((7 : Int) = 3) by decide), if_neg (show ¬ ((7 : Int) = 6) by decide), if_true, List.cons_append, List.append_assoc, List.nil_append, List.cons.injEq, true_and] at h
      have he : ∀ z : List UInt8, Ends (62 :: z) := fun z c r e => .inr (.inr (.inr (List.cons.inj e).1.symm))
      obtain ⟨rfl, h'⟩ := itoa_split (he x) (he y) h
      exact ⟨rfl, (List.cons.inj h').2⟩
theorem ends_nil : Ends [] := fun c r e => by cases e
theorem text_inj {u : List UInt8 → Bool} {a b : V} (ha : mayV u a = true) (hb : mayV u b = true) (h : textV a = textV b) : a = b :=
  (text_split a ha b hb [] [] ends_nil ends_nil (by rw [h])).1
end Go.Proofs.YtnkaegdnjfpliaaGreatDoor
