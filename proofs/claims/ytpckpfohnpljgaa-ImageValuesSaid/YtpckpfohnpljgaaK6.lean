/- Lemmas: an abstract machine over the loaded program, proved sound against the model once; what the program's functions compute. -/
import Derived.Test.YtpckpfohnpljgaaK5
import Derived.Test.YtpckpfohnpljgaaK2
import Derived.Test.YtpckpfohnpljgaaK1
import Derived.Test.YtpckpfohnpljgaaK4
import Derived.Test.YtpckpfohnpljgaaProg
/-
Are images the same: the program's answer, the reference's, the statements'.
-/
namespace Go.AM
set_option linter.unusedSimpArgs false
set_option linter.unusedVariables false
theorem map_eq_iff {α β γ : Type} (f : α → γ) (g : β → γ) (a : List α) (b : List β) (hl : a.length = b.length) : a.map f = b.map g ↔ ∀ i, ∀ (h : i < a.length), f a[i] = g (b[i]'(hl ▸ h)) := by
  constructor
  · intro h i hi
    have h1 : (a.map f)[i]? = (b.map g)[i]? := by rw [h]
    rw [List.getElem?_map, List.getElem?_map, List.getElem?_eq_getElem hi, List.getElem?_eq_getElem (hl ▸ hi)] at h1
    simpa using h1
  · intro h
    apply List.ext_getElem (by simp [hl])
    intro i h1 h2
    simp at h1
    simp [h i h1]
theorem cmpI_zero {x y : It} (hx : x.ok) (hy : y.ok) : cmpI x y = 0 ↔ x.canon = y.canon := by
  have h1 : cmpN (key x.p) (key y.p) = 0 ↔ AM.canon x.p = AM.canon y.p := by
    constructor
    · intro h
      refine keyC_inj (canon_lt hx.1) (canon_lt hy.1) ?_
      show key x.p = key y.p
      unfold cmpN at h
      split at h
      · omega
      · split at h <;> omega
    · intro h
      have : key x.p = key y.p := by unfold key; rw [h]
      unfold cmpN; rw [this]; simp
  unfold It.canon cmpI
  by_cases h : AM.canon x.p = AM.canon y.p
  · rw [if_neg (by simp [h1.2 h])]
    simp only [h, It.mk.injEq, true_and]
    unfold cmpV
    split
    · omega
    · split <;> omega
  · have : cmpN (key x.p) (key y.p) ≠ 0 := fun h2 => h (h1.1 h2)
    rw [if_pos this]
    simp [h, this]
theorem c_law04_Is (x y : It) (sg) : LL.call n_c_law04_Is [eI x, eR y] sg sg.length = some (.i .i64 (if x = y then 0 else -1), sg, sg.length) := by
  refine wp_call e_c_law04_Is rfl ?_
  have hxy : x = y ↔ x.p = y.p ∧ x.v = y.v := by cases x; cases y; simp
  by_cases h1 : x.p = y.p
  · have b1 : ((x.p : Int) != y.p) = false := by simp [h1]
    by_cases h2 : x.v = y.v
    · have b2 : (x.v != y.v) = false := by simp [h2]
      have : x = y := hxy.2 ⟨h1, h2⟩
      simp [F_c_law04_Is, b1, b2]
      simp [this]
    · have b2 : (x.v != y.v) = true := by simpa using h2
      have : ¬ x = y := fun h => h2 (hxy.1 h).2
      simp [F_c_law04_Is, b1, b2]
      simp [this]
  · have b1 : ((x.p : Int) != y.p) = true := by simp; omega
    have : ¬ x = y := fun h => h1 (hxy.1 h).1
    simp [F_c_law04_Is, b1]
    simp [this]
theorem c_law04_Are (a b : List It) (ha : a.length ≤ 1099511627776) (sg) : LL.call n_c_law04_Are [.l .z 2 (a.map eI), .l .z 2 (b.map eR)] sg sg.length = some (.i .i64 (if a = b then 0 else -1), sg, sg.length) := by
  refine wp_call e_c_law04_Are rfl ?_
  by_cases hl : a.length = b.length
  · have b0 : ((a.length : Int) != b.length) = false := by simp; omega
    have hiff := map_eq_iff id id a b hl
    simp only [List.map_id, id] at hiff
    simp [F_c_law04_Are, b0]
    refine wc_up a.length (fun i => ⟨[(0, .v (.l .z 2 (a.map eI))), (1, .v (.l .z 2 (b.map eR))), (12, .v (.i .i64 b.length)), (13, .v (.i .i64 i))], [], sg, sg.length⟩) (fun i => ∀ j, j < i → ∀ (h : j < a.length), a[j] = b[j]) ?_ ?_ 0 (by omega) (by omega)
    · intro i hi hp ih
      have hib : i < b.length := by omega
      have hi' : (i : Int) < b.length := by omega
      have hi2 : (i : Int) < a.length := by omega
      have h1 := c_law04_Is a[i] b[i] sg
      have w1 : IntKind.i64.wrap ((i : Int) + 1) = i + 1 := wrap64 (by omega)
      simp at h1
      by_cases he : a[i] = b[i]
      · rw [if_pos he] at h1
        simp [hi', hib, hi, hi2, h1]
        have := ih (fun j hj h => by
          by_cases e : j = i
          · subst e; exact he
          · exact hp j (by omega) h)
        simpa [w1] using this
      · rw [if_neg he] at h1
        have : ¬ a = b := fun h => he (hiff.1 h i hi)
        simp [hi', hib, hi, hi2, h1]
        simp [this]
    · intro hp
      have : a = b := hiff.2 (fun i h => hp i h h)
      simp [← hl]
      simp [this]
  · have b0 : ((a.length : Int) != b.length) = true := by simp; omega
    have : ¬ a = b := fun h => hl (by rw [h])
    simp [F_c_law04_Are, b0]
    simp [this]
theorem c_slices_Equal (a b : List Int) (ha : a.length ≤ 1099511627776) (sg) : LL.call n_slices_Equal_int64_int64 [.l .z 1 (a.map (.i .i64)), .l .z 1 (b.map (.i .i64))] sg sg.length = some (.b (decide (a = b)), sg, sg.length) := by
  refine wp_call e_slices_Equal_int64_int64 rfl ?_
  by_cases hl : a.length = b.length
  · have b0 : ((a.length : Int) != b.length) = false := by simp; omega
    have hiff := map_eq_iff id id a b hl
    simp only [List.map_id, id] at hiff
    simp [F_slices_Equal_int64_int64, b0]
    refine wc_up a.length (fun i => ⟨[(0, .v (.l .z 1 (a.map (.i .i64)))), (1, .v (.l .z 1 (b.map (.i .i64)))), (12, .v (.i .i64 a.length)), (13, .v (.i .i64 i))], [], sg, sg.length⟩) (fun i => ∀ j, j < i → ∀ (h : j < a.length), a[j] = b[j]) ?_ ?_ 0 (by omega) (by omega)
    · intro i hi hp ih
      have hib : i < b.length := by omega
      have hi' : (i : Int) < b.length := by omega
      have hi2 : (i : Int) < a.length := by omega
      have w1 : IntKind.i64.wrap ((i : Int) + 1) = i + 1 := wrap64 (by omega)
      by_cases he : a[i] = b[i]
      · have hbe : (a[i] != b[i]) = false := by simpa using he
        simp [hi', hib, hi, hi2, hbe]
        have := ih (fun j hj h => by
          by_cases e : j = i
          · subst e; exact he
          · exact hp j (by omega) h)
        simpa [w1] using this
      · have hbe : (a[i] != b[i]) = true := by simpa using he
        have : ¬ a = b := fun h => he (hiff.1 h i hi)
        simp [hi', hib, hi, hi2, hbe]
        simp [this]
    · intro hp
      have : a = b := hiff.2 (fun i h => hp i h h)
      simp
      simp [this]
  · have b0 : ((a.length : Int) != b.length) = true := by simp; omega
    have : ¬ a = b := fun h => hl (by rw [h])
    simp [F_slices_Equal_int64_int64, b0]
    simp [this]
theorem c_Same_1_1 (x y : It) (hx : x.ok) (hy : y.ok) (sg) : LL.call n_image_Image_Same_1_1 [eI x, eI y] sg sg.length = some (.b (decide (x.canon = y.canon)), sg, sg.length) := by
  refine wp_call e_image_Image_Same_1_1 rfl ?_
  have h1 := c_pile_Item_Cmp x y hx hy sg
  simp at h1
  simp [F_image_Image_Same_1_1, h1]
  have hz := cmpI_zero hx hy
  by_cases h : cmpI x y = 0
  · simp [h, hz.1 h]
  · have h2 : ¬ x.canon = y.canon := fun h' => h (hz.2 h')
    simp [h, h2]
theorem c_EqualFunc_1 (a b : List It) (hoa : ∀ y ∈ a, y.ok) (hob : ∀ y ∈ b, y.ok) (ha : a.length ≤ 1099511627776) (sg) :
    LL.call n_slices_EqualFunc_pile_Item_pile_Item_pile_Item_pile_Item_1 [.l .z 2 (a.map eI), .l .z 2 (b.map eI), .fn n_image_Image_Same_1_1 []] sg sg.length = some (.b (decide (a.map It.canon = b.map It.canon)), sg, sg.length) := by
  refine wp_call e_slices_EqualFunc_pile_Item_pile_Item_pile_Item_pile_Item_1 rfl ?_
  by_cases hl : a.length = b.length
  · have b0 : ((a.length : Int) != b.length) = false := by simp; omega
    have hiff := map_eq_iff It.canon It.canon a b hl
    simp [F_slices_EqualFunc_pile_Item_pile_Item_pile_Item_pile_Item_1, b0]
    refine wc_up a.length (fun i => ⟨[(1, .v (.l .z 2 (b.map eI))), (2, .v (.fn n_image_Image_Same_1_1 [])), (15, .v (.l .z 2 (a.map eI))), (16, .v (.i .i64 a.length)), (17, .v (.i .i64 i))], [], sg, sg.length⟩) (fun i => ∀ j, j < i → ∀ (h : j < a.length), a[j].canon = (b[j]'(hl ▸ h)).canon) ?_ ?_ 0 (by omega) (by omega)
    · intro i hi hp ih
      have hib : i < b.length := by omega
      have hi' : (i : Int) < b.length := by omega
      have hi2 : (i : Int) < a.length := by omega
      have w1 : IntKind.i64.wrap ((i : Int) + 1) = i + 1 := wrap64 (by omega)
      have h1 := c_Same_1_1 a[i] b[i] (hoa _ (List.getElem_mem _)) (hob _ (List.getElem_mem _)) sg
      simp at h1
      by_cases he : a[i].canon = b[i].canon
      · simp only [he, decide_true] at h1
        simp [hi', hib, hi, hi2, h1]
        have := ih (fun j hj h => by
          by_cases e : j = i
          · subst e; exact he
          · exact hp j (by omega) h)
        simpa [w1] using this
      · simp only [he, decide_false] at h1
        have : ¬ a.map It.canon = b.map It.canon := fun h => he (hiff.1 h i hi)
        simp [hi', hib, hi, hi2, h1]
        simp [this]
    · intro hp
      have : a.map It.canon = b.map It.canon := hiff.2 (fun i h => hp i h h)
      simp
      simp [this]
  · have b0 : ((a.length : Int) != b.length) = true := by simp; omega
    have : ¬ a.map It.canon = b.map It.canon := fun h => hl (by have := congrArg List.length h; simpa using this)
    simp [F_slices_EqualFunc_pile_Item_pile_Item_pile_Item_pile_Item_1, b0]
    simp [this]
theorem c_Same_1 (a b : List It) (hoa : ∀ y ∈ a, y.ok) (hob : ∀ y ∈ b, y.ok) (ha : a.length ≤ 1099511627776) (sg) :
    LL.call n_image_Image_Same_1 [.l .z 2 (a.map eI), .l .z 2 (b.map eI)] sg sg.length = some (.b (decide (a.map It.canon = b.map It.canon)), sg, sg.length) := by
  refine wp_call e_image_Image_Same_1 rfl ?_
  have h1 := c_EqualFunc_1 a b hoa hob ha sg
  simp [F_image_Image_Same_1, h1]
theorem c_EqualFunc (a b : List (List It)) (hoa : ∀ l ∈ a, (∀ y ∈ l, y.ok) ∧ l.length ≤ 1099511627776) (hob : ∀ l ∈ b, (∀ y ∈ l, y.ok)) (ha : a.length ≤ 1099511627776) (sg) :
    LL.call n_slices_EqualFunc_pile_Item_pile_Item_pile_Item_pile_Item [.l .z 1 (a.map (eL 2 eI)), .l .z 1 (b.map (eL 2 eI)), .fn n_image_Image_Same_1 []] sg sg.length = some (.b (decide (a.map (·.map It.canon) = b.map (·.map It.canon))), sg, sg.length) := by
  refine wp_call e_slices_EqualFunc_pile_Item_pile_Item_pile_Item_pile_Item rfl ?_
  by_cases hl : a.length = b.length
  · have b0 : ((a.length : Int) != b.length) = false := by simp; omega
    have hiff := map_eq_iff (·.map It.canon) (·.map It.canon) a b hl
    simp [F_slices_EqualFunc_pile_Item_pile_Item_pile_Item_pile_Item, b0]
    refine wc_up a.length (fun i => ⟨[(1, .v (.l .z 1 (b.map (eL 2 eI)))), (2, .v (.fn n_image_Image_Same_1 [])), (15, .v (.l .z 1 (a.map (eL 2 eI)))), (16, .v (.i .i64 a.length)), (17, .v (.i .i64 i))], [], sg, sg.length⟩) (fun i => ∀ j, j < i → ∀ (h : j < a.length), a[j].map It.canon = (b[j]'(hl ▸ h)).map It.canon) ?_ ?_ 0 (by omega) (by omega)
    · intro i hi hp ih
      have hib : i < b.length := by omega
      have hi' : (i : Int) < b.length := by omega
      have hi2 : (i : Int) < a.length := by omega
      have w1 : IntKind.i64.wrap ((i : Int) + 1) = i + 1 := wrap64 (by omega)
      have h1 := c_Same_1 a[i] b[i] (hoa _ (List.getElem_mem _)).1 (hob _ (List.getElem_mem _)) (hoa _ (List.getElem_mem _)).2 sg
      by_cases he : a[i].map It.canon = b[i].map It.canon
      · simp only [he, decide_true] at h1
        simp [hi', hib, hi, hi2, eL, h1]
        have := ih (fun j hj h => by
          by_cases e : j = i
          · subst e; exact he
          · exact hp j (by omega) h)
        simpa [w1] using this
      · simp only [he, decide_false] at h1
        have : ¬ a.map (·.map It.canon) = b.map (·.map It.canon) := fun h => he (hiff.1 h i hi)
        simp [hi', hib, hi, hi2, eL, h1]
        simp [this]
    · intro hp
      have : a.map (·.map It.canon) = b.map (·.map It.canon) := hiff.2 (fun i h => hp i h h)
      simp
      simp [this]
  · have b0 : ((a.length : Int) != b.length) = true := by simp; omega
    have : ¬ a.map (·.map It.canon) = b.map (·.map It.canon) := fun h => hl (by have := congrArg List.length h; simpa using this)
    simp [F_slices_EqualFunc_pile_Item_pile_Item_pile_Item_pile_Item, b0]
    simp [this]
instance : DecidableEq Im := fun x y => decidable_of_iff (x.k = y.k ∧ x.p = y.p ∧ x.c = y.c ∧ x.ls = y.ls ∧ x.cs = y.cs) (by cases x; cases y; simp)
theorem told_iff (x y : Im) : toldI x = toldI y ↔ x.k = y.k ∧ x.p = y.p ∧ x.c = y.c ∧ x.cs = y.cs ∧ x.ls.map (·.map It.canon) = y.ls.map (·.map It.canon) := by
  unfold toldI
  constructor
  · intro h; injection h with h1 h2 h3 h4 h5; exact ⟨h1, h2, h3, h5, h4⟩
  · rintro ⟨h1, h2, h3, h4, h5⟩; rw [h1, h2, h3, h4, h5]
theorem c_image_Same (x y : Im) (hx : x.ok) (hy : y.ok) (sx : x.small) (sg) : LL.call n_image_Image_Same [eIm x, eIm y] sg sg.length = some (.b (decide (toldI x = toldI y)), sg, sg.length) := by
  refine wp_call e_image_Image_Same rfl ?_
  have hiff := told_iff x y
  have h1 := c_slices_Equal x.cs y.cs sx.2.1 sg
  have h2 := c_EqualFunc x.ls y.ls (fun l hl => ⟨hx.1 l hl, sx.2.2 l hl⟩) hy.1 sx.1 sg
  by_cases q1 : x.k = y.k
  · have b1 : (x.k != y.k) = false := by simpa using q1
    by_cases q2 : x.p = y.p
    · have b2 : (x.p != y.p) = false := by simpa using q2
      by_cases q3 : x.c = y.c
      · have b3 : (x.c != y.c) = false := by simpa using q3
        by_cases q4 : x.cs = y.cs
        · simp only [q4, decide_true] at h1
          simp [F_image_Image_Same, eIm, b1, b2, b3, q4, h1, h2]
          simp [hiff, q1, q2, q3, q4]
        · simp only [q4, decide_false] at h1
          simp [F_image_Image_Same, eIm, b1, b2, b3, h1]
          simp [hiff, q4]
      · have b3 : (x.c != y.c) = true := by simpa using q3
        simp [F_image_Image_Same, eIm, b1, b2, b3]
        simp [hiff, q3]
    · have b2 : (x.p != y.p) = true := by simpa using q2
      simp [F_image_Image_Same, eIm, b1, b2]
      simp [hiff, q2]
  · have b1 : (x.k != y.k) = true := by simpa using q1
    simp [F_image_Image_Same, eIm, b1]
    simp [hiff, q1]
end Go.AM

/-
Layer 4: a pile's items come in order.
-/
namespace Go.AM
set_option linter.unusedSimpArgs false
set_option linter.unusedVariables false

abbrev leI (a b : It) : Prop := ¬ ltI b a
theorem leI_refl (a : It) : leI a a := by unfold leI ltI; omega
theorem leI_trans {a b c : It} (h1 : leI a b) (h2 : leI b c) : leI a c := ltI_trans' h1 h2
theorem leI_of_lt {a b : It} (h : ltI a b) : leI a b := by unfold leI ltI at *; omega

theorem swp_get {h : List It} {i j : Nat} (hi : i < h.length) (hj : j < h.length) (k : Nat) : (swp h i j)[k]! = if k = j then h[i]! else if k = i then h[j]! else h[k]! := by
  unfold swp
  simp only [List.getElem!_eq_getElem?_getD, List.getElem?_set, List.length_set]
  by_cases e : j = k
  · subst e; simp [hj]
  · rw [if_neg e, if_neg (Ne.symm e)]
    by_cases e2 : i = k
    · subst e2; simp [hi]
    · rw [if_neg e2, if_neg (Ne.symm e2)]

/-- From s on, no item is behind its children. -/
def HP (h : List It) (s n : Nat) : Prop := ∀ j, 1 ≤ j → j < n → s ≤ (j - 1) / 2 → leI h[(j - 1) / 2]! h[j]!
def PreH (h : List It) (i s n : Nat) : Prop := s ≤ i ∧ (∀ j, 1 ≤ j → j < n → s ≤ (j - 1) / 2 → (j - 1) / 2 ≠ i → leI h[(j - 1) / 2]! h[j]!) ∧
  (1 ≤ i → s ≤ (i - 1) / 2 → ∀ c, (c - 1) / 2 = i → 1 ≤ c → c < n → leI h[(i - 1) / 2]! h[c]!)

theorem pre_swp {h : List It} {i s n c : Nat} (hn : n ≤ h.length) (hp : PreH h i s n) (hc : c = 2 * i + 1 ∨ c = 2 * i + 2) (hcn : c < n) (hlt : ltI h[c]! h[i]!)
    (hsib : ∀ d, (d = 2 * i + 1 ∨ d = 2 * i + 2) → d < n → leI h[c]! h[d]!) : PreH (swp h i c) c s n := by
  obtain ⟨h1, h2, h3⟩ := hp
  have hi : i < h.length := by omega
  have hcl : c < h.length := by omega
  refine ⟨by omega, fun j j1 j2 j3 j4 => ?_, fun _ _ d d1 d2 d3 => ?_⟩
  · rw [swp_get hi hcl, swp_get hi hcl, if_neg j4]
    by_cases e : j = c
    · rw [if_pos e, if_pos (by omega)]
      exact leI_of_lt hlt
    · rw [if_neg e]
      by_cases e2 : j = i
      · rw [if_pos e2, if_neg (by omega)]
        subst e2
        exact h3 j1 j3 c (by omega) (by omega) hcn
      · rw [if_neg e2]
        by_cases e3 : (j - 1) / 2 = i
        · rw [if_pos e3]
          exact hsib j (by omega) j2
        · rw [if_neg e3]
          exact h2 j j1 j2 j3 e3
  · rw [swp_get hi hcl, swp_get hi hcl, if_neg (by omega), if_pos (by omega), if_neg (by omega), if_neg (by omega)]
    have := h2 d d2 d3 (by omega) (by omega)
    rw [d1] at this; exact this

theorem hp_stop {h : List It} {i s n : Nat} (hp : PreH h i s n) (hle : ∀ d, (d = 2 * i + 1 ∨ d = 2 * i + 2) → d < n → leI h[i]! h[d]!) : HP h s n := by
  intro j j1 j2 j3
  by_cases e : (j - 1) / 2 = i
  · rw [e]; exact hle j (by omega) j2
  · exact hp.2.1 j j1 j2 j3 e

theorem dn_hp {h : List It} {i n s : Nat} (hn : n ≤ h.length) (hp : PreH h i s n) : HP (dn h i n).1 s n := by
  fun_induction dn h i n with
  | case1 h i h1 h2 h3 ih =>
    refine ih (by rw [swp_len]; exact hn) (pre_swp hn hp (.inr rfl) h2.1 ((cmpI_lt _ _).1 h3) ?_)
    rintro d (rfl | rfl) hd
    · exact leI_of_lt ((cmpI_lt _ _).1 h2.2)
    · exact leI_refl _
  | case2 h i h1 h2 h3 =>
    refine hp_stop hp ?_
    have e3 : leI h[i]! h[2 * i + 2]! := (cmpI_ge _ _).1 (by omega)
    rintro d (rfl | rfl) hd
    · exact leI_trans e3 (leI_of_lt ((cmpI_lt _ _).1 h2.2))
    · exact e3
  | case3 h i h1 h2 h3 ih =>
    refine ih (by rw [swp_len]; exact hn) (pre_swp hn hp (.inl rfl) h1 ((cmpI_lt _ _).1 h3) ?_)
    rintro d (rfl | rfl) hd
    · exact leI_refl _
    · exact (cmpI_ge _ _).1 (Int.not_lt.1 (fun e => h2 ⟨hd, e⟩))
  | case4 h i h1 h2 h3 =>
    refine hp_stop hp ?_
    have e3 : leI h[i]! h[2 * i + 1]! := (cmpI_ge _ _).1 (by omega)
    rintro d (rfl | rfl) hd
    · exact e3
    · exact leI_trans e3 ((cmpI_ge _ _).1 (Int.not_lt.1 (fun e => h2 ⟨hd, e⟩)))
  | case5 h i h1 =>
    refine hp_stop hp ?_
    rintro d (rfl | rfl) hd <;> omega
theorem dn_above {h : List It} {i n : Nat} (hn : n ≤ h.length) (k : Nat) (hk : n ≤ k) : (dn h i n).1[k]! = h[k]! := by
  fun_induction dn h i n with
  | case1 h i h1 h2 h3 ih => rw [ih (by rw [swp_len]; exact hn), swp_get (by omega) (by omega), if_neg (by omega), if_neg (by omega)]
  | case2 h i h1 h2 h3 => rfl
  | case3 h i h1 h2 h3 ih => rw [ih (by rw [swp_len]; exact hn), swp_get (by omega) (by omega), if_neg (by omega), if_neg (by omega)]
  | case4 h i h1 h2 h3 => rfl
  | case5 h i h1 => rfl

theorem hini_hp : ∀ (k : Nat) (h : List It), HP h k h.length → HP (hini h k) 0 h.length
  | 0, h, hp => hp
  | k + 1, h, hp => by
    rw [hini]
    have e := dn_len h k h.length (Nat.le_refl _)
    have := hini_hp k (dn h k h.length).1 (by
      rw [e]
      refine dn_hp (Nat.le_refl _) ⟨Nat.le_refl _, fun j j1 j2 j3 j4 => hp j j1 j2 (by omega), fun h1 h2 => by omega⟩)
    rw [e] at this; exact this
theorem newH_hp (l : List It) : HP (newH l) 0 (newH l).length := by
  rw [newH_len]
  have := hini_hp (l.length / 2) (l.map It.canon) (fun j j1 j2 j3 => by simp at j2; omega)
  simpa [newH] using this

theorem hp_min {h : List It} {n : Nat} (hp : HP h 0 n) : ∀ k, k < n → leI h[0]! h[k]! := by
  intro k
  induction k using Nat.strongRecOn with
  | ind k ih =>
    intro hk
    by_cases e : k = 0
    · subst e; exact leI_refl _
    · exact leI_trans (ih ((k - 1) / 2) (by omega) (by omega)) (hp k (by omega) hk (Nat.zero_le _))
theorem popH_first {h : List It} (h0 : h ≠ []) : (popH h).1 = h[0]! := by
  have hpos : 0 < h.length := List.length_pos_iff.2 h0
  show (dn (swp h 0 (h.length - 1)) 0 (h.length - 1)).1[h.length - 1]! = _
  rw [dn_above (by rw [swp_len]; omega) _ (Nat.le_refl _), swp_get hpos (by omega), if_pos rfl]
theorem popH_hp {h : List It} (h0 : h ≠ []) (hp : HP h 0 h.length) : HP (popH h).2 0 (popH h).2.length := by
  have hpos : 0 < h.length := List.length_pos_iff.2 h0
  rw [popH_len h0]
  have e : HP (dn (swp h 0 (h.length - 1)) 0 (h.length - 1)).1 0 (h.length - 1) := by
    refine dn_hp (by rw [swp_len]; omega) ⟨Nat.le_refl _, fun j j1 j2 j3 j4 => ?_, fun h1 => by omega⟩
    rw [swp_get hpos (by omega), swp_get hpos (by omega), if_neg (by omega), if_neg (by omega), if_neg (by omega), if_neg (by omega)]
    exact hp j j1 (by omega) j3
  intro j j1 j2 j3
  have e2 : ∀ k, k < h.length - 1 → (popH h).2[k]! = (dn (swp h 0 (h.length - 1)) 0 (h.length - 1)).1[k]! := by
    intro k hk
    simp only [popH, List.getElem!_eq_getElem?_getD, List.getElem?_take, if_pos hk]
  rw [e2 _ (by omega), e2 _ j2]
  exact e j j1 j2 j3

theorem allH_perm (h : List It) : (allH h).Perm h := by
  fun_induction allH h with
  | case1 => exact .refl _
  | case2 h h0 ih => exact (ih.cons _).trans (popH_perm h0)
theorem allH_ordered (h : List It) (hp : HP h 0 h.length) : (allH h).Pairwise leI := by
  fun_induction allH h with
  | case1 => exact .nil
  | case2 h h0 ih =>
    refine List.pairwise_cons.2 ⟨fun y hy => ?_, ih (popH_hp h0 hp)⟩
    have hy2 : y ∈ h := (popH_perm h0).mem_iff.1 (List.mem_cons_of_mem _ ((allH_perm _).mem_iff.1 hy))
    obtain ⟨k, hk, rfl⟩ := List.mem_iff_getElem.1 hy2
    rw [popH_first h0]
    have := hp_min hp k hk
    rwa [getElem!_pos h k hk] at this

theorem leI_antisymm {a b : It} (ha : a.ok) (hb : b.ok) (ca : a.canon = a) (cb : b.canon = b) (h1 : leI a b) (h2 : leI b a) : a = b := by
  have : cmpI a b = 0 := by
    have e1 := (cmpI_ge a b).2 h2
    have e2 := (cmpI_ge b a).2 h1
    rw [cmpI_swap] at e2
    omega
  have := (cmpI_zero ha hb).1 this
  rwa [ca, cb] at this
theorem ordered_unique {l m : List It} (hl : ∀ x ∈ l, x.ok ∧ x.canon = x) (h1 : l.Pairwise leI) (h2 : m.Pairwise leI) (hp : l.Perm m) : l = m := by
  refine List.Perm.eq_of_pairwise (le := leI) (fun a b ha hb e1 e2 => ?_) h1 h2 hp
  have hb' := hl b (hp.mem_iff.2 hb)
  have ha' := hl a ha
  exact leI_antisymm ha'.1 hb'.1 ha'.2 hb'.2 e1 e2

theorem allH_sort (l : List It) (hok : ∀ x ∈ l, x.ok) : allH (newH l) = sortI (l.map It.canon) := by
  refine ordered_unique (fun x hx => ?_) (allH_ordered _ (newH_hp l)) ((ordered_pw _).1 (sortI_ordered _)) ?_
  · have := (newH_perm l).mem_iff.1 ((allH_perm _).mem_iff.1 hx)
    obtain ⟨y, hy, rfl⟩ := List.mem_map.1 this
    exact ⟨canon_okI (hok y hy), by simp [It.canon, canon_canon]⟩
  · exact (allH_perm _).trans ((newH_perm l).trans (sortI_perm _).symm)
theorem c_Sorted (l : List It) (hl : l.length < 1000000000) (hok : ∀ x ∈ l, x.ok) (sg : List (List D)) :
    LL.call n_pile_Sorted [.l .z 2 (l.map eI)] sg sg.length = some (.l .o 2 ((sortI (l.map It.canon)).map eI), sg, sg.length) := by
  rw [c_pile_Sorted l hl hok sg, allH_sort l hok]
end Go.AM

/-
Layer 12, 17: what an image says.
-/
namespace Go.AM
set_option linter.unusedSimpArgs false
set_option linter.unusedVariables false

/-- What a structure holds. -/
structure Vl where
  k : Int
  is : List It
  n : Int
  deriving DecidableEq
def eVl (K : K) (v : Vl) : D := .a [.i .i64 v.k, .l K 2 (v.is.map eI), .i .i64 v.n]
def eVr (K : K) (v : Vl) : D := .a [.i .i64 v.k, .l K 2 (v.is.map eR), .i .i64 v.n]
def valI (x : Im) : Vl := ⟨x.k, if x.k = 1 then sortI (x.ls.flatten.map It.canon) else x.ls.flatten, x.cs.sum⟩

theorem isum_nn : ∀ l : List Int, (∀ n ∈ l, 0 ≤ n) → 0 ≤ l.sum
  | [], _ => by simp
  | x :: l, h => by
    have := isum_nn l (fun n hn => h n (by simp [hn]))
    have := h x (by simp)
    simp only [List.sum_cons]; omega

theorem c_image_Value (x : Im) (ho : x.ok) (hs : x.ls.length ≤ 1099511627776 ∧ x.cs.length ≤ 1099511627776) (hc : ∀ n ∈ x.cs, 0 ≤ n) (hsum : x.cs.sum ≤ 1152921504606846976) (hit : x.ls.flatten.length < 1000000000) (sg) :
    LL.call n_image_Image_Value [eIm x] sg sg.length = some (eVl .o (valI x), sg, sg.length) := by
  generalize hr : eVl .o (valI x) = r
  refine wp_call e_image_Image_Value rfl ?_
  simp [F_image_Image_Value, eIm]
  obtain ⟨is, his⟩ : ∃ is, is = (valI x).is := ⟨_, rfl⟩
  have hsk : ∀ i, 0 ≤ (x.cs.take i).sum ∧ (x.cs.take i).sum ≤ x.cs.sum := by
    intro i
    have h1 : 0 ≤ (x.cs.take i).sum := isum_nn _ (fun n hn => hc n (List.mem_of_mem_take hn))
    have h2 : 0 ≤ (x.cs.drop i).sum := isum_nn _ (fun n hn => hc n (List.mem_of_mem_drop hn))
    have h3 : (x.cs.take i).sum + (x.cs.drop i).sum = x.cs.sum := by rw [← List.sum_append, List.take_append_drop]
    omega
  obtain ⟨fl, hfl⟩ : ∃ fl : Nat → List It, ∀ i, fl i = (x.ls.take i).flatten := ⟨_, fun _ => rfl⟩
  have fl0 : fl 0 = [] := by rw [hfl]; rfl
  have fln : fl x.ls.length = x.ls.flatten := by rw [hfl, List.take_length]
  have fls : ∀ i (hi : i < x.ls.length), fl (i + 1) = fl i ++ x.ls[i] := by
    intro i hi
    rw [hfl, hfl, List.take_succ_eq_append_getElem hi, List.flatten_append, List.flatten_cons, List.flatten_nil, List.append_nil]
  have fll : ∀ i, (fl i).length ≤ x.ls.flatten.length := by
    intro i
    have e : x.ls.flatten = (x.ls.take i).flatten ++ (x.ls.drop i).flatten := by rw [← List.flatten_append, List.take_append_drop]
    rw [hfl, e]; simp
  have e0 : (.l .o 2 [] : D) = .l .o 2 ((fl 0).map eI) := by rw [fl0]; rfl
  refine wc_up x.ls.length (fun i => ⟨[(1, .q (.ptr 1 0)), (2, .q (.ptr 2 0)), (3, .q (.ptr 3 0)), (12, .v (.l .z 1 (x.ls.map (eL 2 eI)))), (13, .v (.i .i64 x.ls.length)), (14, .v (.i .i64 i))],
    [(1, [.i .i64 x.k, .i .i64 x.p, .i .u64 x.c, .l .z 1 (x.ls.map (eL 2 eI)), .l .z 1 (x.cs.map (.i .i64))]), (2, [.i .i64 0, .l .o 2 [], .i .i64 0]), (3, [.i .i64 x.k, if i = 0 then .l .o 2 [] else .l .o 2 ((fl i).map eI), .i .i64 0])], sg, sg.length⟩) (fun _ => True) ?_ ?_ 0 (by omega) trivial
  · intro i hi _ ih
    have ih := ih trivial
    have w1 : IntKind.i64.wrap ((i : Int) + 1) = ((i + 1 : Nat) : Int) := by rw [wrap64 (by omega)]; omega
    have hlen := fll (i + 1)
    have e1 : (if i = 0 then .l .o 2 [] else .l .o 2 ((fl i).map eI) : D) = .l .o 2 ((fl i).map eI) := by
      split
      · rename_i h; subst h; exact e0
      · rfl
    rw [fls i hi] at ih hlen
    rw [List.length_append] at hlen
    simp only [e1]
    simp [hi, w1, eL]
    refine ⟨by omega, ?_⟩
    simpa using ih
  · intro _
    have e1 : (if x.ls.length = 0 then .l .o 2 [] else .l .o 2 ((fl x.ls.length).map eI) : D) = .l .o 2 ((fl x.ls.length).map eI) := by
      split
      · rename_i h; rw [h]; exact e0
      · rfl
    simp only [e1]
    simp only [fln]
    obtain ⟨is0, his0⟩ : ∃ is0, is0 = x.ls.flatten := ⟨_, rfl⟩
    have S1 := c_Sorted is0 (by rw [his0]; exact hit) (fun y hy => by
        rw [his0] at hy
        obtain ⟨l, hl, hy⟩ := List.mem_flatten.1 hy
        exact ho.1 l hl y hy) sg
    rw [← his0]
    have L : ∀ js : List It, js = is → True := fun _ _ => trivial
    simp
    refine bq_i (fun c1 => ?_) (fun c1 => ?_) <;> (have c1' := c1) <;> simp at c1'
    · have ei : sortI (is0.map It.canon) = is := by rw [his, his0]; simp [valI, c1']
      rw [ei] at S1
      simp [S1]
      refine wc_up x.cs.length (fun i => ⟨[(2, .q (.ptr 2 0)), (3, .q (.ptr 3 0)), (32, .v (.l .z 1 (x.cs.map (.i .i64)))), (33, .v (.i .i64 x.cs.length)), (34, .v (.i .i64 i))],
        [(2, [.i .i64 0, .l .o 2 [], .i .i64 0]), (3, [.i .i64 x.k, .l .o 2 (is.map eI), .i .i64 (x.cs.take i).sum])], sg, sg.length⟩) (fun _ => True) ?_ ?_ 0 (by omega) trivial
      · intro i hi _ ih
        have ih := ih trivial
        have w1 : IntKind.i64.wrap ((i : Int) + 1) = ((i + 1 : Nat) : Int) := by rw [wrap64 (by omega)]; omega
        have hs1 := hsk (i + 1)
        have e2 : (x.cs.take (i + 1)).sum = (x.cs.take i).sum + x.cs[i] := by rw [List.take_succ_eq_append_getElem hi, List.sum_append]; simp
        rw [e2] at ih hs1
        have w2 : IntKind.i64.wrap ((x.cs.take i).sum + x.cs[i]) = (x.cs.take i).sum + x.cs[i] := wrap64 (by omega)
        simp [hi, w1, w2]
        simpa using ih
      · intro _
        subst hr
        simp [List.take_length, eVl, his, valI]
    · have ei : is0 = is := by rw [his, his0]; simp [valI, c1']
      rw [ei]
      simp
      refine wc_up x.cs.length (fun i => ⟨[(2, .q (.ptr 2 0)), (3, .q (.ptr 3 0)), (32, .v (.l .z 1 (x.cs.map (.i .i64)))), (33, .v (.i .i64 x.cs.length)), (34, .v (.i .i64 i))],
        [(2, [.i .i64 0, .l .o 2 [], .i .i64 0]), (3, [.i .i64 x.k, .l .o 2 (is.map eI), .i .i64 (x.cs.take i).sum])], sg, sg.length⟩) (fun _ => True) ?_ ?_ 0 (by omega) trivial
      · intro i hi _ ih
        have ih := ih trivial
        have w1 : IntKind.i64.wrap ((i : Int) + 1) = ((i + 1 : Nat) : Int) := by rw [wrap64 (by omega)]; omega
        have hs1 := hsk (i + 1)
        have e2 : (x.cs.take (i + 1)).sum = (x.cs.take i).sum + x.cs[i] := by rw [List.take_succ_eq_append_getElem hi, List.sum_append]; simp
        rw [e2] at ih hs1
        have w2 : IntKind.i64.wrap ((x.cs.take i).sum + x.cs[i]) = (x.cs.take i).sum + x.cs[i] := wrap64 (by omega)
        simp [hi, w1, w2]
        simpa using ih
      · intro _
        subst hr
        simp [List.take_length, eVl, his, valI]
end Go.AM

/-
Layer 4, 17: the reference's order, its value of an image.
-/
namespace Go.AM
set_option linter.unusedSimpArgs false
set_option linter.unusedVariables false

def withI (x : It) : List It → List It
  | [] => [x]
  | y :: l => if cmpI x y < 0 then x :: y :: l else y :: withI x l

theorem c_ref04_With (x : It) (l : List It) (hx : x.ok) (hl : ∀ y ∈ l, y.ok) (hn : l.length < 1000000000) (sg) :
    LL.call n_c_ref04_With [.l .z 2 (l.map eR), eR x] sg sg.length = some (.l .o 2 ((withI x l).map eR), sg, sg.length) := by
  generalize hr : withI x l = r
  refine wp_call e_c_ref04_With rfl ?_
  simp [F_c_ref04_With]
  refine wc_list l (fun i (a : List It × Bool) => ⟨[(3, .q (.ptr 3 0)), (5, .v (.l .o 2 (a.1.map eR))), (6, .v (.b a.2)), (10, .v (.l .z 2 (l.map eR))), (11, .v (.i .i64 l.length)), (12, .v (.i .i64 i))],
    [(3, [.i .u64 x.p, .i .i64 x.v])], sg, sg.length⟩) (fun rest a => a.1 ++ (if a.2 then rest else withI x rest) = r ∧ a.1.length + rest.length ≤ l.length + (if a.2 then 1 else 0)) ?_ ?_ ([], false) ⟨by simpa using hr, by simp⟩
  · rintro i y rest ⟨o, b⟩ hi hlt ⟨h1, h2⟩ ih
    simp only at h1 h2
    simp at h2
    have w1 : IntKind.i64.wrap ((i : Int) + 1) = (i : Int) + 1 := wrap64 (by omega)
    have hlt' : (i : Int) < l.length := by omega
    have C1 := c_ref04_Cmp x y hx (hl _ (mem_of_get hi)) sg
    simp at C1
    cases b with
    | true =>
      simp at h1
      have ih := ih (o ++ [y], true) ⟨by simpa using h1, by simp at h2 ⊢; omega⟩
      simp at h2
      simp [hlt', hi, w1]
      exact ⟨by omega, by simpa using ih⟩
    | false =>
      simp [withI] at h1
      simp at h2
      simp [hlt', hi, w1, C1]
      refine bq_i (fun c => ?_) (fun c => ?_) <;> (have c' := c) <;> simp at c'
      · rw [if_pos c'] at h1
        have ih := ih (o ++ [x] ++ [y], true) ⟨by simpa using h1, by simp; omega⟩
        simp [c, w1]
        exact ⟨by omega, by omega, by simpa using ih⟩
      · rw [if_neg (by omega)] at h1
        have ih := ih (o ++ [y], false) ⟨by simpa using h1, by simp; omega⟩
        simp [c, w1]
        exact ⟨by omega, by simpa using ih⟩
  · rintro ⟨o, b⟩ ⟨h1, h2⟩
    simp only at h1 h2
    simp at h2
    cases b with
    | true =>
      simp at h1
      subst h1
      simp
    | false =>
      simp [withI] at h1
      subst h1
      simp at h2
      simp
      omega

theorem withI_perm (x : It) : ∀ l : List It, (withI x l).Perm (x :: l)
  | [] => .refl _
  | y :: l => by
    unfold withI
    split
    · exact .refl _
    · exact ((withI_perm x l).cons y).trans (.swap x y l)
theorem withI_len (x : It) (l : List It) : (withI x l).length = l.length + 1 := by have := (withI_perm x l).length_eq; simpa using this
theorem withI_ordered (x : It) : ∀ l : List It, l.Pairwise leI → (withI x l).Pairwise leI
  | [], _ => by simp [withI]
  | y :: l, h => by
    obtain ⟨h1, h2⟩ := List.pairwise_cons.1 h
    unfold withI
    split
    · rename_i hc
      have hxy : leI x y := leI_of_lt ((cmpI_lt _ _).1 hc)
      refine List.pairwise_cons.2 ⟨fun z hz => ?_, h⟩
      rcases List.mem_cons.1 hz with rfl | hz
      · exact hxy
      · exact leI_trans hxy (h1 z hz)
    · rename_i hc
      have hyx : leI y x := (cmpI_ge _ _).1 (by omega)
      refine List.pairwise_cons.2 ⟨fun z hz => ?_, withI_ordered x l h2⟩
      rcases List.mem_cons.1 ((withI_perm x l).mem_iff.1 hz) with rfl | hz
      · exact hyx
      · exact h1 z hz
def withs (l : List It) (o : List It) : List It := l.foldl (fun o x => withI x o) o
theorem withs_perm : ∀ (l o : List It), (withs l o).Perm (o ++ l)
  | [], o => by simp [withs]
  | x :: l, o => by
    refine (withs_perm l (withI x o)).trans ?_
    exact ((withI_perm x o).append_right l).trans List.perm_middle.symm
theorem withs_ordered : ∀ (l o : List It), o.Pairwise leI → (withs l o).Pairwise leI
  | [], o, h => h
  | x :: l, o, h => withs_ordered l _ (withI_ordered x o h)
theorem withs_sort (l : List It) (h : ∀ x ∈ l, x.ok ∧ x.canon = x) : withs l [] = sortI l := by
  refine ordered_unique (fun x hx => h x ?_) (withs_ordered l [] .nil) ((ordered_pw _).1 (sortI_ordered _)) ?_
  · have := (withs_perm l []).mem_iff.1 hx
    simpa using this
  · have := withs_perm l []
    exact (by simpa using this : (withs l []).Perm l).trans (sortI_perm l).symm

theorem c_ref17_Value (x : Im) (ho : x.ok) (hs : x.ls.length ≤ 1099511627776 ∧ x.cs.length ≤ 1099511627776) (hc : ∀ n ∈ x.cs, 0 ≤ n) (hsum : x.cs.sum ≤ 1152921504606846976) (hit : x.ls.flatten.length < 1000000000) (sg) :
    LL.call n_c_ref17_Value [eRm x] sg sg.length = some (eVr .o ⟨x.k, if x.k = 1 then withs x.ls.flatten [] else x.ls.flatten, x.cs.sum⟩, sg, sg.length) := by
  generalize hr : eVr .o ⟨x.k, if x.k = 1 then withs x.ls.flatten [] else x.ls.flatten, x.cs.sum⟩ = r
  refine wp_call e_c_ref17_Value rfl ?_
  have hsk : ∀ i, 0 ≤ (x.cs.take i).sum ∧ (x.cs.take i).sum ≤ x.cs.sum := by
    intro i
    have h1 : 0 ≤ (x.cs.take i).sum := isum_nn _ (fun n hn => hc n (List.mem_of_mem_take hn))
    have h2 : 0 ≤ (x.cs.drop i).sum := isum_nn _ (fun n hn => hc n (List.mem_of_mem_drop hn))
    have h3 : (x.cs.take i).sum + (x.cs.drop i).sum = x.cs.sum := by rw [← List.sum_append, List.take_append_drop]
    omega
  obtain ⟨g, hg⟩ : ∃ g : List It → List It → List It, ∀ l o, g l o = if x.k = 1 then withs l o else o ++ l := ⟨_, fun _ _ => rfl⟩
  obtain ⟨gl, hgl⟩ : ∃ gl : It → List It → List It, ∀ y o, gl y o = if x.k = 1 then withI y o else o ++ [y] := ⟨_, fun _ _ => rfl⟩
  have gc : ∀ y l o, g (y :: l) o = g l (gl y o) := by
    intro y l o
    rw [hg, hg, hgl]
    split <;> simp [withs]
  have ga : ∀ l m o, g (l ++ m) o = g m (g l o) := by
    intro l m o
    rw [hg, hg, hg]
    split <;> simp [withs]
  have gn : ∀ o, g [] o = o := by intro o; rw [hg]; split <;> simp [withs]
  have glen : ∀ y o, (gl y o).length = o.length + 1 := by intro y o; rw [hgl]; split <;> simp [withI_len]
  have gok : ∀ y o, y.ok → (∀ z ∈ o, z.ok) → ∀ z ∈ gl y o, z.ok := by
    intro y o hy ho z hz
    rw [hgl] at hz
    split at hz
    · rcases List.mem_cons.1 ((withI_perm y o).mem_iff.1 hz) with rfl | hz
      · exact hy
      · exact ho z hz
    · simp at hz
      rcases hz with hz | rfl
      · exact ho z hz
      · exact hy
  simp [F_c_ref17_Value, eRm]
  refine wc_list x.ls (fun i (o : List It) => ⟨[(1, .q (.ptr 1 0)), (2, .q (.ptr 2 0)), (3, .q (.ptr 3 0)), (14, .v (.l .z 1 (x.ls.map (eL 2 eR)))), (15, .v (.i .i64 x.ls.length)), (16, .v (.i .i64 i))],
    [(1, [.i .i64 x.k, .i .i64 x.p, .i .u64 x.c, .l .z 1 (x.ls.map (eL 2 eR)), .l .z 1 (x.cs.map (.i .i64))]), (2, [.i .i64 0, .l .o 2 [], .i .i64 0]), (3, [.i .i64 x.k, .l .o 2 (o.map eR), .i .i64 0])], sg, sg.length⟩)
    (fun rest o => g rest.flatten o = g x.ls.flatten [] ∧ o.length + rest.flatten.length = x.ls.flatten.length ∧ (∀ z ∈ o, z.ok)) ?_ ?_ [] ⟨rfl, by simp, by simp⟩
  · rintro i l rest o hi hlt ⟨h1, h2, h3⟩ ih
    have w1 : IntKind.i64.wrap ((i : Int) + 1) = (i : Int) + 1 := wrap64 (by omega)
    have hlt' : (i : Int) < x.ls.length := by omega
    have hlo := ho.1 l (mem_of_get hi)
    simp only [List.flatten_cons] at h1 h2
    rw [ga] at h1
    rw [List.length_append] at h2
    simp [hlt', hi, eL]
    refine wc_list l (fun j (o' : List It) => ⟨[(1, .q (.ptr 1 0)), (2, .q (.ptr 2 0)), (3, .q (.ptr 3 0)), (14, .v (.l .z 1 (x.ls.map (eL 2 eR)))), (15, .v (.i .i64 x.ls.length)), (16, .v (.i .i64 i)), (20, .v (.l .z 2 (l.map eR))), (21, .v (.i .i64 l.length)), (22, .v (.i .i64 j))],
      [(1, [.i .i64 x.k, .i .i64 x.p, .i .u64 x.c, .l .z 1 (x.ls.map (eL 2 eR)), .l .z 1 (x.cs.map (.i .i64))]), (2, [.i .i64 0, .l .o 2 [], .i .i64 0]), (3, [.i .i64 x.k, .l .o 2 (o'.map eR), .i .i64 0])], sg, sg.length⟩)
      (fun rest' o' => g rest' o' = g l o ∧ o'.length + rest'.length = o.length + l.length ∧ (∀ z ∈ o', z.ok)) ?_ ?_ o ⟨rfl, rfl, h3⟩
    · rintro j y rest' o' hj hlj ⟨q1, q2, q3⟩ ih2
      have hlj' : (j : Int) < l.length := by omega
      have hy := hlo y (mem_of_get hj)
      have w2 : IntKind.i64.wrap ((j : Int) + 1) = (j : Int) + 1 := wrap64 (by omega)
      simp only [List.length_cons] at q2
      rw [gc] at q1
      have ih2 := ih2 (gl y o') ⟨q1, by rw [glen]; omega, gok y o' hy q3⟩
      rw [hgl] at ih2
      have W1 := c_ref04_With y o' hy q3 (by omega) sg
      simp at W1
      simp [hlj', hj]
      refine bq_i (fun c => ?_) (fun c => ?_) <;> (have c' := c) <;> simp at c'
      · rw [if_pos c'] at ih2
        simp [c, W1, w2]
        simpa using ih2
      · rw [if_neg c'] at ih2
        simp [c, w2]
        exact ⟨by omega, by simpa using ih2⟩
    · rintro o' ⟨q1, q2, q3⟩
      rw [gn] at q1
      subst q1
      simp only [List.length_nil] at q2
      have ih := ih _ ⟨h1, by omega, q3⟩
      simp [w1]
      simpa using ih
  · rintro o ⟨h1, h2, h3⟩
    rw [List.flatten_nil, gn, hg] at h1
    simp
    refine wc_up x.cs.length (fun i => ⟨[(2, .q (.ptr 2 0)), (3, .q (.ptr 3 0)), (43, .v (.l .z 1 (x.cs.map (.i .i64)))), (44, .v (.i .i64 x.cs.length)), (45, .v (.i .i64 i))],
      [(2, [.i .i64 0, .l .o 2 [], .i .i64 0]), (3, [.i .i64 x.k, .l .o 2 (o.map eR), .i .i64 (x.cs.take i).sum])], sg, sg.length⟩) (fun _ => True) ?_ ?_ 0 (by omega) trivial
    · intro i hi _ ih
      have ih := ih trivial
      have w1 : IntKind.i64.wrap ((i : Int) + 1) = ((i + 1 : Nat) : Int) := by rw [wrap64 (by omega)]; omega
      have hs1 := hsk (i + 1)
      have e2 : (x.cs.take (i + 1)).sum = (x.cs.take i).sum + x.cs[i] := by rw [List.take_succ_eq_append_getElem hi, List.sum_append]; simp
      rw [e2] at ih hs1
      have w2 : IntKind.i64.wrap ((x.cs.take i).sum + x.cs[i]) = (x.cs.take i).sum + x.cs[i] := wrap64 (by omega)
      simp [hi, w1, w2]
      simpa using ih
    · intro _
      subst hr
      simp at h1
      simp [List.take_length, eVr, ← h1]

/-- Of canonical items the reference says the same. -/
theorem c_ref17_ValueI (x : Im) (ho : x.ok) (hs : x.ls.length ≤ 1099511627776 ∧ x.cs.length ≤ 1099511627776) (hc : ∀ n ∈ x.cs, 0 ≤ n) (hsum : x.cs.sum ≤ 1152921504606846976) (hit : x.ls.flatten.length < 1000000000)
    (hcan : ∀ l ∈ x.ls, ∀ y ∈ l, y.canon = y) (sg) : LL.call n_c_ref17_Value [eRm x] sg sg.length = some (eVr .o (valI x), sg, sg.length) := by
  have hcan' : ∀ y ∈ x.ls.flatten, y.ok ∧ y.canon = y := by
    intro y hy
    obtain ⟨l, hl, hy⟩ := List.mem_flatten.1 hy
    exact ⟨ho.1 l hl y hy, hcan l hl y hy⟩
  have e : x.ls.flatten.map It.canon = x.ls.flatten := by
    refine (List.map_congr_left (fun y hy => (hcan' y hy).2)).trans (List.map_id _)
  rw [c_ref17_Value x ho hs hc hsum hit sg, valI, e, withs_sort _ hcan']

/-- A value of the program, one of the reference. -/
theorem c_law12_Is (v w : Vl) (hv : v.is.length ≤ 1099511627776) (sg) : LL.call n_c_law12_Is [eVl .z v, eVr .z w] sg sg.length = some (.i .i64 (if v = w then 0 else -1), sg, sg.length) := by
  generalize hr : (if v = w then (0 : Int) else -1) = r
  have A1 := c_law04_Are v.is w.is hv sg
  obtain ⟨k, is, n⟩ := v
  obtain ⟨k', is', n'⟩ := w
  simp at A1
  refine wp_call e_c_law12_Is rfl ?_
  simp [F_c_law12_Is, eVl, eVr]
  repeat' (refine bq_i (fun h => ?_) (fun h => ?_) <;> (have h' := h) <;> (try simp at h') <;> simp [h, h', A1])
  all_goals (subst hr; simp_all)

theorem makeI_flat (x : Raw) (h : x.ok) : (makeI x).ls.flatten.length ≤ 960 := by
  have := makeI_sum x h
  rwa [← List.length_flatten] at this
theorem makeI_csum (x : Raw) : (makeI x).cs.sum ≤ 17592186044400 := by
  have h1 := makeI_lens x
  have h2 := shape_le _ _ (makeI_legal x)
  have h4 := isum_le 1099511627775 (by omega) _ (makeI_cs x)
  have : ((makeI x).cs.length : Int) ≤ 16 := by omega
  omega
end Go.AM

/-
Are images the same: the reference's answer, the statements'.
-/
namespace Go.AM
set_option linter.unusedSimpArgs false
set_option linter.unusedVariables false
theorem c_ref17_Same (x y : Im) (hx : x.ok) (hy : y.ok) (sx : x.small) (sy : y.small) (sg) : LL.call n_c_ref17_Same [eRm x, eRm y] sg sg.length = some (.i .i64 (if toldI x = toldI y then 0 else -1), sg, sg.length) := by
  refine wp_call e_c_ref17_Same rfl ?_
  have hiff := told_iff x y
  obtain ⟨sx1, sx2, sx3⟩ := sx
  by_cases q1 : x.k = y.k
  case neg =>
    have b1 : (x.k != y.k) = true := by simpa using q1
    simp [F_c_ref17_Same, eRm, b1]
    simp [hiff, q1]
  have b1 : (x.k != y.k) = false := by simpa using q1
  by_cases q2 : x.p = y.p
  case neg =>
    have b2 : (x.p != y.p) = true := by simpa using q2
    simp [F_c_ref17_Same, eRm, b1, b2]
    simp [hiff, q2]
  have b2 : (x.p != y.p) = false := by simpa using q2
  by_cases q3 : x.c = y.c
  case neg =>
    have b3 : (x.c != y.c) = true := by simpa using q3
    simp [F_c_ref17_Same, eRm, b1, b2, b3]
    simp [hiff, q3]
  have b3 : (x.c != y.c) = false := by simpa using q3
  by_cases q4 : x.ls.length = y.ls.length
  case neg =>
    have b4 : ((x.ls.length : Int) != y.ls.length) = true := by simp; omega
    have : ¬ x.ls.map (·.map It.canon) = y.ls.map (·.map It.canon) := fun h => q4 (by have := congrArg List.length h; simpa using this)
    simp [F_c_ref17_Same, eRm, b1, b2, b3, b4]
    simp [hiff, this]
  have b4 : ((x.ls.length : Int) != y.ls.length) = false := by simp; omega
  by_cases q5 : x.cs.length = y.cs.length
  case neg =>
    have b5 : ((x.cs.length : Int) != y.cs.length) = true := by simp; omega
    have : ¬ x.cs = y.cs := fun h => q5 (by rw [h])
    simp [F_c_ref17_Same, eRm, b1, b2, b3, b4, b5]
    simp [hiff, this]
  have b5 : ((x.cs.length : Int) != y.cs.length) = false := by simp; omega
  have hcs := map_eq_iff id id x.cs y.cs q5
  simp only [List.map_id, id] at hcs
  have hls := map_eq_iff (·.map It.canon) (·.map It.canon) x.ls y.ls q4
  simp [F_c_ref17_Same, eRm, b1, b2, b3, b4, b5]
  refine wc_up x.cs.length (fun i => ⟨[(2, .q (.ptr 2 0)), (3, .q (.ptr 3 0)), (47, .v (.i .i64 x.cs.length)), (48, .v (.i .i64 i))], [(2, [.i .i64 x.k, .i .i64 x.p, .i .u64 x.c, .l .z 1 (x.ls.map (eL 2 eR)), .l .z 1 (x.cs.map (.i .i64))]), (3, [.i .i64 y.k, .i .i64 y.p, .i .u64 y.c, .l .z 1 (y.ls.map (eL 2 eR)), .l .z 1 (y.cs.map (.i .i64))])], sg, sg.length⟩) (fun i => ∀ j, j < i → ∀ (h : j < x.cs.length), x.cs[j] = y.cs[j]) ?_ ?_ 0 (by omega) (by omega)
  · intro i hi hp ih
    have hib : i < y.cs.length := by omega
    have hi' : (i : Int) < y.cs.length := by omega
    have hi2 : (i : Int) < x.cs.length := by omega
    have w1 : IntKind.i64.wrap ((i : Int) + 1) = i + 1 := wrap64 (by omega)
    by_cases he : x.cs[i] = y.cs[i]
    · have hbe : (x.cs[i] != y.cs[i]) = false := by simpa using he
      simp [hi', hib, hi, hi2, hbe]
      have := ih (fun j hj h => by
        by_cases e : j = i
        · subst e; exact he
        · exact hp j (by omega) h)
      simpa [w1] using this
    · have hbe : (x.cs[i] != y.cs[i]) = true := by simpa using he
      have : ¬ x.cs = y.cs := fun h => he (hcs.1 h i hi)
      simp [hi', hib, hi, hi2, hbe]
      simp [hiff, this]
  · intro hp
    have hcs : x.cs = y.cs := hcs.2 (fun i h => hp i h h)
    simp
    refine wc_up x.ls.length (fun i => ⟨[(2, .q (.ptr 2 0)), (3, .q (.ptr 3 0)), (65, .v (.i .i64 x.ls.length)), (66, .v (.i .i64 i))], [(2, [.i .i64 x.k, .i .i64 x.p, .i .u64 x.c, .l .z 1 (x.ls.map (eL 2 eR)), .l .z 1 (x.cs.map (.i .i64))]), (3, [.i .i64 y.k, .i .i64 y.p, .i .u64 y.c, .l .z 1 (y.ls.map (eL 2 eR)), .l .z 1 (y.cs.map (.i .i64))])], sg, sg.length⟩) (fun i => ∀ j, j < i → ∀ (h : j < x.ls.length), x.ls[j].map It.canon = (y.ls[j]'(q4 ▸ h)).map It.canon) ?_ ?_ 0 (by omega) (by omega)
    · intro i hi hp ih
      have hib : i < y.ls.length := by omega
      have hi' : (i : Int) < y.ls.length := by omega
      have hi2 : (i : Int) < x.ls.length := by omega
      have w1 : IntKind.i64.wrap ((i : Int) + 1) = i + 1 := wrap64 (by omega)
      have sl := sx3 x.ls[i] (List.getElem_mem _)
      by_cases q6 : x.ls[i].length = y.ls[i].length
      case neg =>
        have b6 : ((x.ls[i].length : Int) != y.ls[i].length) = true := by simp; omega
        have : ¬ x.ls.map (·.map It.canon) = y.ls.map (·.map It.canon) := fun h => q6 (by have := congrArg List.length (hls.1 h i hi); simpa using this)
        simp [hi', hib, hi, hi2, eL, b6]
        simp [hiff, this]
      have b6 : ((x.ls[i].length : Int) != y.ls[i].length) = false := by simp; omega
      have hls2 := map_eq_iff It.canon It.canon x.ls[i] y.ls[i] q6
      simp [hi', hib, hi, hi2, eL, b6]
      refine wc_up x.ls[i].length (fun j => ⟨[(2, .q (.ptr 2 0)), (3, .q (.ptr 3 0)), (6, .v (.i .i64 i)), (65, .v (.i .i64 x.ls.length)), (66, .v (.i .i64 i)), (87, .v (.i .i64 x.ls[i].length)), (88, .v (.i .i64 j))], [(2, [.i .i64 x.k, .i .i64 x.p, .i .u64 x.c, .l .z 1 (x.ls.map (eL 2 eR)), .l .z 1 (x.cs.map (.i .i64))]), (3, [.i .i64 y.k, .i .i64 y.p, .i .u64 y.c, .l .z 1 (y.ls.map (eL 2 eR)), .l .z 1 (y.cs.map (.i .i64))])], sg, sg.length⟩) (fun k => ∀ j, j < k → ∀ (h : j < x.ls[i].length), x.ls[i][j].canon = (y.ls[i][j]'(q6 ▸ h)).canon) ?_ ?_ 0 (by omega) (by omega)
      · intro j hj hq ih2
        have hjb : j < y.ls[i].length := by omega
        have hj' : (j : Int) < x.ls[i].length := by omega
        have hj2 : (j : Int) < y.ls[i].length := by omega
        have w2 : IntKind.i64.wrap ((j : Int) + 1) = j + 1 := wrap64 (by omega)
        have ox := hx.1 x.ls[i] (List.getElem_mem _) x.ls[i][j] (List.getElem_mem _)
        have oy := hy.1 y.ls[i] (List.getElem_mem _) y.ls[i][j] (List.getElem_mem _)
        have h1 := c_ref04_Cmp x.ls[i][j] y.ls[i][j] ox oy sg
        have hz := cmpI_zero ox oy
        simp at h1
        by_cases he : cmpI x.ls[i][j] y.ls[i][j] = 0
        · have hbe : (cmpI x.ls[i][j] y.ls[i][j] != 0) = false := by simpa using he
          simp [hi', hib, hi, hi2, hj, hjb, hj', hj2, eL, h1, hbe]
          have := ih2 (fun j' hj' h => by
            by_cases e : j' = j
            · subst e; exact hz.1 he
            · exact hq j' (by omega) h)
          simpa [w2] using this
        · have hbe : (cmpI x.ls[i][j] y.ls[i][j] != 0) = true := by simpa using he
          have : ¬ x.ls.map (·.map It.canon) = y.ls.map (·.map It.canon) := fun h => he (hz.2 (hls2.1 (hls.1 h i hi) j hj))
          simp [hi', hib, hi, hi2, hj, hjb, hj', hj2, eL, h1, hbe]
          simp [hiff, this]
      · intro hq
        have he := hls2.2 (fun j h => hq j h h)
        simp
        have := ih (fun j hj h => by
          by_cases e : j = i
          · subst e; exact he
          · exact hp j (by omega) h)
        simpa [w1] using this
    · intro hp
      have : x.ls.map (·.map It.canon) = y.ls.map (·.map It.canon) := hls.2 (fun i h => hp i h h)
      simp
      simp [hiff, this, hcs, q1, q2, q3]
/-- Is it the document's? -/
theorem c_law18_Is (x y : Im) (hx : x.ok) (sx : x.small) (hy : y.ok) (sy : y.small) (sg) : LL.call n_c_law18_Is [eIm x, eRm y] sg sg.length = some (.i .i64 (if x.ls = y.ls ∧ toldI x = toldI y then 0 else -1), sg, sg.length) := by
  refine wp_call e_c_law18_Is rfl ?_
  have hT := c_law17_Told x hx sx sg
  have hS := c_ref17_Same (toldI x) y (toldI_ok x hx) hy ⟨by simp [toldI]; exact sx.1, sx.2.1, by
    intro l hl
    simp only [toldI] at hl
    obtain ⟨m, hm, rfl⟩ := List.mem_map.1 hl
    simp; exact sx.2.2 m hm⟩ sy sg
  have htt : toldI (toldI x) = toldI x := by
    have : ∀ l : List It, (l.map It.canon).map It.canon = l.map It.canon := by
      intro l; rw [List.map_map]; apply List.map_congr_left; intro y _
      show It.canon (It.canon y) = It.canon y
      simp [It.canon, canon_canon]
    simp only [toldI, List.map_map]
    congr 1
    apply List.map_congr_left; intro l _; exact this l
  rw [htt] at hS
  have er : (eLK .z 2 eR : List It → D) = eL 2 eR := rfl
  generalize toldI x = t at *
  obtain ⟨sx1, sx2, sx3⟩ := sx
  simp [eIm, eRmK, eRm, er] at hT hS
  by_cases q4 : x.ls.length = y.ls.length
  case neg =>
    have b4 : ((x.ls.length : Int) != y.ls.length) = true := by simp; omega
    have : ¬ x.ls = y.ls := fun h => q4 (by rw [h])
    simp [F_c_law18_Is, eIm, eRm, b4]
    simp [this]
  have b4 : ((x.ls.length : Int) != y.ls.length) = false := by simp; omega
  have hls := map_eq_iff id id x.ls y.ls q4
  simp only [List.map_id, id] at hls
  simp [F_c_law18_Is, eIm, eRm, b4]
  refine wc_up x.ls.length (fun i => ⟨[(2, .q (.ptr 2 0)), (3, .q (.ptr 3 0)), (15, .v (.i .i64 y.ls.length)), (16, .v (.i .i64 i))], [(2, [.i .i64 x.k, .i .i64 x.p, .i .u64 x.c, .l .z 1 (x.ls.map (eL 2 eI)), .l .z 1 (x.cs.map (.i .i64))]), (3, [.i .i64 y.k, .i .i64 y.p, .i .u64 y.c, .l .z 1 (y.ls.map (eL 2 eR)), .l .z 1 (y.cs.map (.i .i64))])], sg, sg.length⟩) (fun i => ∀ j, j < i → ∀ (h : j < x.ls.length), x.ls[j] = (y.ls[j]'(q4 ▸ h))) ?_ ?_ 0 (by omega) (by omega)
  · intro i hi hp ih
    have hib : i < y.ls.length := by omega
    have hi' : (i : Int) < y.ls.length := by omega
    have hi2 : (i : Int) < x.ls.length := by omega
    have w1 : IntKind.i64.wrap ((i : Int) + 1) = i + 1 := wrap64 (by omega)
    have h1 := c_law04_Are x.ls[i] y.ls[i] (sx3 _ (List.getElem_mem _)) sg
    by_cases he : x.ls[i] = y.ls[i]
    · rw [if_pos he] at h1
      simp [hi', hib, hi, hi2, eL, h1]
      have := ih (fun j hj h => by
        by_cases e : j = i
        · subst e; exact he
        · exact hp j (by omega) h)
      simpa [w1] using this
    · rw [if_neg he] at h1
      have : ¬ x.ls = y.ls := fun h => he (hls.1 h i hi)
      simp [hi', hib, hi, hi2, eL, h1]
      simp [this]
  · intro hp
    have : x.ls = y.ls := hls.2 (fun i h => hp i h h)
    simp [← q4, hT, hS]
    simp [this]
end Go.AM

/-
What data a law is asked of, opened: numbers, bytes, raw images.
-/
namespace Go.AM
set_option linter.unusedSimpArgs false
set_option linter.unusedVariables false
theorem wf_i64 {n : Int} (h : (Lit.int .i64 n).wf = true) : -9223372036854775808 ≤ n ∧ n ≤ 9223372036854775807 := by
  simpa [Lit.wf, IntKind.min, IntKind.max, IntKind.signed, IntKind.bits] using h
theorem wf_u64 {n : Int} (h : (Lit.int .u64 n).wf = true) : 0 ≤ n ∧ n < 18446744073709551616 := by
  have : 0 ≤ n ∧ n ≤ 18446744073709551615 := by simpa [Lit.wf, IntKind.min, IntKind.max, IntKind.signed, IntKind.bits] using h
  omega
theorem wf_u32 {n : Int} (h : (Lit.int .u32 n).wf = true) : 0 ≤ n ∧ n < 4294967296 := by
  have : 0 ≤ n ∧ n ≤ 4294967295 := by simpa [Lit.wf, IntKind.min, IntKind.max, IntKind.signed, IntKind.bits] using h
  omega
theorem wf_u8 {n : Int} (h : (Lit.int .u8 n).wf = true) : 0 ≤ n ∧ n < 256 := by
  have : 0 ≤ n ∧ n ≤ 255 := by simpa [Lit.wf, IntKind.min, IntKind.max, IntKind.signed, IntKind.bits] using h
  omega
theorem fits_i {k : IntKind} {d : D} (h : Fits (.i k) [d]) : ∃ n, d = .i k n ∧ (Lit.int k n).wf = true := by
  cases h with | i k n h => exact ⟨n, rfl, h⟩
theorem fits_b {d : D} (h : Fits .b [d]) : ∃ x, d = .b x := by
  cases h with | b x => exact ⟨x, rfl⟩
theorem fits_s {d : D} (h : Fits .s [d]) : ∃ v, d = .s v ∧ v.size ≤ maxLen := by
  cases h with | s v h => exact ⟨v, rfl, h⟩
theorem fits_ints {k : IntKind} : ∀ xs : List D, (∀ x ∈ xs, Fits (.i k) x.cells) → (∀ x ∈ xs, ∃ c, x = c ∧ c.cells = [c]) → ∃ ns : List Int, xs = ns.map (.i k) ∧ ∀ n ∈ ns, (Lit.int k n).wf = true
  | [], _, _ => ⟨[], rfl, by simp⟩
  | x :: xs, h, hc => by
    obtain ⟨ns, e, hn⟩ := fits_ints xs (fun y hy => h y (by simp [hy])) (fun y hy => hc y (by simp [hy]))
    obtain ⟨c, rfl, h2⟩ := hc x (by simp)
    have := h x (by simp)
    rw [h2] at this
    obtain ⟨n, rfl, hw⟩ := fits_i this
    exact ⟨n :: ns, by simp [e], by simpa [hw] using hn⟩
theorem fits_l {k : IntKind} {d : D} (h : Fits (.l 1 false (.i k)) [d]) : ∃ ns : List Int, d = .l .z 1 (ns.map (.i k)) ∧ (∀ n ∈ ns, (Lit.int k n).wf = true) ∧ ns.length ≤ maxLen := by
  cases h with
  | l sz agg e xs hl hx ha =>
    obtain ⟨ns, e, hn⟩ := fits_ints xs hx (by simpa using ha)
    subst e
    exact ⟨ns, rfl, hn, by simpa using hl⟩
abbrev tItem : Ty := .st [.i .u64, .i .i64]
abbrev tRaw : Ty := .st [.i .i64, .i .i64, .i .u64, .l 2 true tItem, .l 1 false (.i .i64), .i .i64]
theorem fitss_cons1 {f : Ty} {fs : List Ty} {cs : List D} (h : Fitss (f :: fs) cs) (hf : ∀ c, Fits f c → ∃ d, c = [d]) : ∃ d r, cs = d :: r ∧ Fits f [d] ∧ Fitss fs r := by
  cases h with
  | cons h k => obtain ⟨d, rfl⟩ := hf _ h; exact ⟨d, _, rfl, h, k⟩
theorem one_i (k : IntKind) (c : List D) (h : Fits (.i k) c) : ∃ d, c = [d] := by cases h; exact ⟨_, rfl⟩
theorem one_l (sz : Nat) (a : Bool) (T : Ty) (c : List D) (h : Fits (.l sz a T) c) : ∃ d, c = [d] := by cases h; exact ⟨_, rfl⟩
theorem one_s (c : List D) (h : Fits .s c) : ∃ d, c = [d] := by cases h; exact ⟨_, rfl⟩
theorem one_b (c : List D) (h : Fits .b c) : ∃ d, c = [d] := by cases h; exact ⟨_, rfl⟩
theorem fitss_nil {cs : List D} (h : Fitss [] cs) : cs = [] := by cases h; rfl
theorem fits_item {cs : List D} (h : Fits tItem cs) : ∃ x : It, D.a cs = eR x ∧ x.ok := by
  cases h with
  | st h =>
    obtain ⟨d1, r, rfl, h1, h⟩ := fitss_cons1 h (one_i _)
    obtain ⟨d2, r, rfl, h2, h⟩ := fitss_cons1 h (one_i _)
    have := fitss_nil h; subst this
    obtain ⟨n1, rfl, w1⟩ := fits_i h1
    obtain ⟨n2, rfl, w2⟩ := fits_i h2
    have := wf_u64 w1
    have := wf_i64 w2
    refine ⟨⟨n1.toNat, n2⟩, ?_, ?_, ?_⟩
    · have : ((n1.toNat : Nat) : Int) = n1 := by omega
      simp [this]
    · simp; omega
    · simpa using this
theorem fits_items : ∀ xs : List D, (∀ x ∈ xs, Fits tItem x.cells) → (∀ x ∈ xs, ∃ cs, x = .a cs) → ∃ ns : List It, xs = ns.map eR ∧ ∀ n ∈ ns, n.ok
  | [], _, _ => ⟨[], rfl, by simp⟩
  | x :: xs, h, hc => by
    obtain ⟨ns, e, hn⟩ := fits_items xs (fun y hy => h y (by simp [hy])) (fun y hy => hc y (by simp [hy]))
    obtain ⟨cs, rfl⟩ := hc x (by simp)
    obtain ⟨y, e2, hy⟩ := fits_item (h _ (by simp : D.a cs ∈ D.a cs :: xs))
    exact ⟨y :: ns, by rw [e, List.map_cons, ← e2]; rfl, by simpa [hy] using hn⟩
theorem fits_raw {cs : List D} (h : Fits tRaw cs) : ∃ x : Raw, D.a cs = eRaw x ∧ x.ok := by
  cases h with
  | st h =>
    obtain ⟨d1, r, rfl, h1, h⟩ := fitss_cons1 h (one_i _)
    obtain ⟨d2, r, rfl, h2, h⟩ := fitss_cons1 h (one_i _)
    obtain ⟨d3, r, rfl, h3, h⟩ := fitss_cons1 h (one_i _)
    obtain ⟨d4, r, rfl, h4, h⟩ := fitss_cons1 h (one_l _ _ _)
    obtain ⟨d5, r, rfl, h5, h⟩ := fitss_cons1 h (one_l _ _ _)
    obtain ⟨d6, r, rfl, h6, h⟩ := fitss_cons1 h (one_i _)
    have := fitss_nil h; subst this
    obtain ⟨n1, rfl, w1⟩ := fits_i h1
    obtain ⟨n2, rfl, w2⟩ := fits_i h2
    obtain ⟨n3, rfl, w3⟩ := fits_i h3
    obtain ⟨n5, rfl, w5, l5⟩ := fits_l h5
    obtain ⟨n6, rfl, w6⟩ := fits_i h6
    cases h4 with
    | l sz agg e xs hl hx ha =>
      obtain ⟨is, rfl, hi⟩ := fits_items xs hx (by simpa using ha)
      exact ⟨⟨n1, n2, n3, is, n5, n6⟩, rfl, hi, wf_u64 w3, wf_i64 w6⟩
end Go.AM

/-
The methods that interface values bear: a table of them is right.
-/
namespace Go.AM
set_option linter.unusedSimpArgs false
set_option linter.unusedVariables false

/-- A row of the table: a pointer method of a pointer; a value's own method; a method of a list that a pointer leads to. -/
def chkM (P : Program) (t : TypeId) (nm : String) (f : FuncId) : Bool := match P.info? t with
  | some i => match i.methods.find? (·.name == nm) with
    | some m => m.path.toList.isEmpty && (match m.func with
      | some (g, true) => (match P.underlying t with | some (.pointer _) => g == f && decide (f < Q0) | _ => false)
      | some (g, false) => (match P.underlying t with
        | some (.pointer e) => decide (Q0 ≤ f) && g == f - Q0 && aggT P e == some false && szT P e == some 1
        | some _ => g == f && decide (f < Q0)
        | none => false)
      | none => false)
    | none => false
  | none => false

theorem wrap_ok (ts : Array TypeId) (t : TypeId) (a : Addr) (s1 s2 : String) : Builtin.ssaWrapNilChk_ ts t #[.pointer (some a), strVal s1, strVal s2] = pure (.pointer (some a)) := rfl

theorem meth_one {P : Program} {t nm f} (h : chkM P t nm f = true) :
    (f < Q0 → ∀ v w, (method (P.types.size + Made.depth) t v nm).run P w = .ok (f, v) w) ∧
    (Q0 ≤ f → ∀ b off u w, World.cell? w ⟨b, off, none⟩ = some u → (method (P.types.size + Made.depth) t (.pointer (some ⟨b, off, none⟩)) nm).run P w = .ok (f - Q0, u) w) := by
  unfold chkM at h
  split at h
  · rename_i i hi
    split at h
    · rename_i m hm
      simp only [Bool.and_eq_true] at h
      obtain ⟨hp, h⟩ := h
      have hp' : m.path.toList = [] := List.isEmpty_iff.1 hp
      obtain ⟨n, hn⟩ : ∃ n, P.types.size + Made.depth = n + 1 := ⟨P.types.size + 99, rfl⟩
      rw [hn]
      split at h
      · rename_i g hg
        split at h
        · rename_i e hu
          simp only [Bool.and_eq_true, beq_iff_eq, decide_eq_true_eq] at h
          obtain ⟨rfl, hf⟩ := h
          refine ⟨fun _ v w => ?_, fun hq => absurd hf (Nat.not_lt.2 hq)⟩
          simp [method, typeInfo, hi, hm, hp', follow, hg, receiverAt, underlying, hu, Place.get]
        · cases h
      · rename_i g hg
        split at h
        · rename_i e hu
          simp only [Bool.and_eq_true, beq_iff_eq, decide_eq_true_eq] at h
          obtain ⟨⟨⟨hf, hgf⟩, ha⟩, hs⟩ := h
          refine ⟨fun hq => absurd hq (Nat.not_lt.2 hf), fun _ b off u w hc => ?_⟩
          have hrun := run_load' (P := P) (w := w) (t := e) (b := b) (off := off) (us := [u]) ha hs (.inr rfl) rfl (fun j v hj => by
            cases j with
            | zero => simp at hj; subst hj; simpa using hc
            | succ j => simp at hj)
          simp only [Instr.loadAt, Instr.sureAddr] at hrun
          have hpe : m.path = #[] := by simpa using hp
          simp at hrun
          simp [method, typeInfo, hi, hm, hp', hpe, follow, hg, receiverAt, underlying, hu, Place.get, wrap_ok, asAddr, hrun, hgf]
        · rename_i d hne hu
          simp only [Bool.and_eq_true, beq_iff_eq, decide_eq_true_eq] at h
          obtain ⟨rfl, hf⟩ := h
          refine ⟨fun _ v w => ?_, fun hq => absurd hf (Nat.not_lt.2 hq)⟩
          simp [method, typeInfo, hi, hm, hp', follow, hg, receiverAt, underlying, hu, Place.get]
        · cases h
      · cases h
    · cases h
  · cases h

theorem meth_all {P : Program} {T : List (TypeId × String × FuncId)} (h : T.all (fun p => chkM P p.1 p.2.1 p.2.2) = true) :
    MethOK P (fun t nm => (T.find? fun p => p.1 == t && p.2.1 == nm).map (·.2.2)) := by
  intro t nm f hf
  simp only [Option.map_eq_some_iff] at hf
  obtain ⟨⟨t', nm', f'⟩, h1, rfl⟩ := hf
  have h2 := List.find?_some h1
  simp only [Bool.and_eq_true, beq_iff_eq] at h2
  obtain ⟨rfl, rfl⟩ := h2
  exact meth_one (List.all_eq_true.1 h _ (List.mem_of_find?_eq_some h1))

end Go.AM

/- Every function of the table is the program's. -/
namespace Go.AM
set_option linter.unusedVariables false
open Go.Proofs
set_option maxRecDepth 100000
theorem fol : Try.prog.follows .mixedOrders = true := by kernel_rfl
theorem tab_ok : tab.all (fun p => chkFn Try.prog EE.fbits EE.frb (rid p.1) p.2) = true := by kernel_rfl
theorem look_in {α : Type} {k : Nat} {x : α} : ∀ {l : List (Nat × α)}, look k l = some x → (k, x) ∈ l
  | (j, y) :: r, h => by
    simp only [look] at h
    split at h
    · rename_i e; cases h; subst e; simp
    · exact List.mem_cons_of_mem _ (look_in h)
theorem env_ok : EnvOK Try.prog EE := fun f af h => List.all_eq_true.1 tab_ok (f, af) (look_in h)
theorem meth_ok : methL.all (fun p => chkM Try.prog p.1 p.2.1 p.2.2) = true := by kernel_rfl
theorem lib_ok : Lib Try.prog EE.fbits EE.frb EE.meth where
  bits := fun f h n w => by cases h; rfl
  frb := fun f h n w => by cases h; rfl
  meth := meth_all meth_ok
end Go.AM

namespace Go.AM
open Go.Proofs
set_option linter.unusedSimpArgs false
set_option linter.unusedVariables false

theorem imageValues (x y : Raw) (t : Bool) (hx : x.ok) (hy : y.ok) : LL.call n_c_law17_ImageValues [eRaw x, eRaw y, .b t] [] 0 = some (.b true, [], 0) := by
  refine wp_call e_c_law17_ImageValues rfl ?_
  have ha := c_law17_awake
  cases t with
  | true =>
    have m1 := c_law17_Make x hx []
    have o1 := makeI_ok x hx
    have s1 := makeI_small x hx
    have v1 := c_image_Value (makeI x) o1 ⟨s1.1, s1.2.1⟩ (fun n hn => (makeI_cs x n hn).1) (by have := makeI_csum x; omega) (by have := makeI_flat x hx; omega) []
    have v2 := c_ref17_ValueI (makeI x) o1 ⟨s1.1, s1.2.1⟩ (fun n hn => (makeI_cs x n hn).1) (by have := makeI_csum x; omega) (by have := makeI_flat x hx; omega) (fun l hl z hz => ((makeI_ls x hx l hl).2 z hz).2) []
    have hvl : (valI (makeI x)).is.length ≤ 1099511627776 := by
      have := makeI_flat x hx
      simp only [valI]
      split <;> (try simp only [sortI_len, List.length_map]) <;> omega
    have is1 := c_law12_Is (valI (makeI x)) (valI (makeI x)) hvl []
    have is1 : LL.call n_c_law12_Is [eVl .z (valI (makeI x)), eVr .z (valI (makeI x))] [] 0 = some (.i .i64 0, [], 0) := by rw [if_pos rfl] at is1; exact is1
    have t1 := c_law17_Told (makeI x) o1 s1 []
    have e1 := toldI_make x hx
    rw [e1] at t1
    have q1 := c_image_Same (makeI x) (makeI x) o1 o1 s1 []
    have q2 := c_ref17_Same (makeI x) (makeI x) o1 o1 s1 s1 []
    have q3 := c_image_Same (makeI x) (makeI x) o1 o1 s1 []
    rw [e1] at q1 q2
    have hw : ∀ x, eRaw x = .a [.i .i64 x.k, .i .i64 x.p, .i .u64 x.c, .l .z 2 (x.is.map eR), .l .z 1 (x.cs.map (.i .i64)), .i .i64 x.sp] := fun _ => rfl
    generalize valI (makeI x) = v at *
    generalize makeI x = a at *
    have ee : (eLK .z 2 eI : List It → D) = eL 2 eI := rfl
    have er : (eLK .z 2 eR : List It → D) = eL 2 eR := rfl
    simp [eImK, hw, eIm, eRmK, eRm, ee, er, eVl, eVr] at m1 v1 v2 is1 t1 q1 q2 q3
    rw [hw, hw]
    simp [F_c_law17_ImageValues, ha, m1, v1, v2, is1, t1, q1, q2, q3, ee, er]
  | false =>
    have hy' := hy
    have m1 := c_law17_Make x hx []
    have m2 := c_law17_Make y hy []
    have o1 := makeI_ok x hx
    have o2 := makeI_ok y hy
    have s1 := makeI_small x hx
    have s2 := makeI_small y hy
    have v1 := c_image_Value (makeI x) o1 ⟨s1.1, s1.2.1⟩ (fun n hn => (makeI_cs x n hn).1) (by have := makeI_csum x; omega) (by have := makeI_flat x hx; omega) []
    have v2 := c_ref17_ValueI (makeI x) o1 ⟨s1.1, s1.2.1⟩ (fun n hn => (makeI_cs x n hn).1) (by have := makeI_csum x; omega) (by have := makeI_flat x hx; omega) (fun l hl z hz => ((makeI_ls x hx l hl).2 z hz).2) []
    have hvl : (valI (makeI x)).is.length ≤ 1099511627776 := by
      have := makeI_flat x hx
      simp only [valI]
      split <;> (try simp only [sortI_len, List.length_map]) <;> omega
    have is1 := c_law12_Is (valI (makeI x)) (valI (makeI x)) hvl []
    have is1 : LL.call n_c_law12_Is [eVl .z (valI (makeI x)), eVr .z (valI (makeI x))] [] 0 = some (.i .i64 0, [], 0) := by rw [if_pos rfl] at is1; exact is1
    have t1 := c_law17_Told (makeI x) o1 s1 []
    have t2 := c_law17_Told (makeI y) o2 s2 []
    have e1 := toldI_make x hx
    have e2 := toldI_make y hy
    rw [e1] at t1
    rw [e2] at t2
    have q1 := c_image_Same (makeI x) (makeI y) o1 o2 s1 []
    have q2 := c_ref17_Same (makeI x) (makeI y) o1 o2 s1 s2 []
    have q3 := c_image_Same (makeI x) (makeI x) o1 o1 s1 []
    rw [e1, e2] at q1 q2
    have hw : ∀ x, eRaw x = .a [.i .i64 x.k, .i .i64 x.p, .i .u64 x.c, .l .z 2 (x.is.map eR), .l .z 1 (x.cs.map (.i .i64)), .i .i64 x.sp] := fun _ => rfl
    generalize valI (makeI x) = v at *
    generalize makeI x = a at *
    generalize makeI y = b at *
    have ee : (eLK .z 2 eI : List It → D) = eL 2 eI := rfl
    have er : (eLK .z 2 eR : List It → D) = eL 2 eR := rfl
    simp [eImK, hw, eIm, eRmK, eRm, ee, er, eVl, eVr] at m1 m2 v1 v2 is1 t1 t2 q1 q2 q3
    rw [hw, hw]
    simp [F_c_law17_ImageValues, ha, m1, m2, v1, v2, is1, t1, t2, q1, q2, q3, ee, er]
    by_cases hab : a = b
    · subst hab; simp [q3]
    · simp [hab, q3]
def args_ImageValues : List (Bool × Ty) := [(true, tRaw), (true, tRaw), (false, .b)]
theorem args_ImageValues_ok : tyA Try.prog [26, 26, 4] = some args_ImageValues := by kernel_rfl
theorem law_ImageValues (ds : List D) (h : FitA args_ImageValues ds) : ∃ sg lo, (lim EE).call n_c_law17_ImageValues ds [] 0 = some (.b true, sg, lo) := by
  cases h with
  | a h1 k =>
    obtain ⟨x, e1, hx⟩ := fits_raw h1
    cases k with
    | a h2 k =>
      obtain ⟨y, e2, hy⟩ := fits_raw h2
      cases k with
      | c h3 k =>
        obtain ⟨t, rfl⟩ := fits_b h3
        cases k
        rw [e1, e2]
        exact ⟨[], 0, imageValues x y t hx hy⟩
end Go.AM
