/- Lemmas: an abstract machine over the loaded program, proved sound against the model once; what the program's functions compute. -/
import Derived.Test.YtpckpfohnpljgaaK5
import Derived.Test.YtpckpfohnpljgaaK2
import Derived.Test.YtpckpfohnpljgaaK4
import Derived.Test.YtpckpfohnpljgaaProg
/-
Layer 19, the reference: read.
-/
namespace Go.AM
set_option linter.unusedSimpArgs false
set_option linter.unusedVariables false
theorem signR_stay {x : Oc} (h : x.e ≠ 0) : (signR x).1 = x := by unfold signR; rw [numR_err h]
theorem wholeR_stay {x : Oc} (h : x.e ≠ 0) (n : Int) : (wholeR x n).1 = x := by
  unfold wholeR bytesR; rw [if_pos (.inl h)]
theorem numR_ne (x : Oc) (most : Nat) : (numR x most).2 ≠ 0 → (numR x most).1.e = 0 := by
  unfold numR
  split
  · simp
  split
  · simp
  split
  · simp
  · simp
def itemsZ : Nat → Oc → List It → List It
  | 0, _, acc => acc
  | n + 1, x, acc =>
    if (signR (wholeR x 8).1).1.e ≠ 0 ∨ canon (backB (wholeR x 8).2) ≠ backB (wholeR x 8).2 then acc ++ [⟨backB (wholeR x 8).2, (signR (wholeR x 8).1).2⟩] else
    itemsZ n (signR (wholeR x 8).1).1 (acc ++ [⟨backB (wholeR x 8).2, (signR (wholeR x 8).1).2⟩])
theorem itemsZ_succ (n x acc) : itemsZ (n + 1) x acc = if (signR (wholeR x 8).1).1.e ≠ 0 ∨ canon (backB (wholeR x 8).2) ≠ backB (wholeR x 8).2 then acc ++ [⟨backB (wholeR x 8).2, (signR (wholeR x 8).1).2⟩] else
    itemsZ n (signR (wholeR x 8).1).1 (acc ++ [⟨backB (wholeR x 8).2, (signR (wholeR x 8).1).2⟩]) := rfl
def takeZ (x : Oc) : List It := itemsZ (numR x 1000).2 (numR x 1000).1 []
theorem itemsZ_eq : ∀ (n : Nat) (x : Oc) (acc), (itemsG n x acc).1.e = 0 → itemsZ n x acc = (itemsG n x acc).2
  | 0, x, acc, h => rfl
  | n + 1, x, acc, h => by
    rw [itemsG_succ] at h ⊢
    rw [itemsZ_succ]
    split at h
    · contradiction
    rename_i h1
    rw [if_neg h1]
    split at h
    · simp [failR] at h
    rename_i h2
    rw [if_neg h2, if_neg (by rintro (h | h) <;> contradiction)]
    exact itemsZ_eq n _ _ h
theorem takeZ_eq {x : Oc} (h : (takeS x).1.e = 0) : takeZ x = (takeS x).2 := itemsZ_eq _ _ _ h
theorem itemsZ_len : ∀ (n : Nat) (x : Oc) (acc), (itemsZ n x acc).length ≤ acc.length + n
  | 0, x, acc => by simp [itemsZ]
  | n + 1, x, acc => by
    rw [itemsZ_succ]
    split
    · simp
    · have := itemsZ_len n (signR (wholeR x 8).1).1 (acc ++ [⟨backB (wholeR x 8).2, (signR (wholeR x 8).1).2⟩])
      simp at this; omega
theorem takeZ_len (x : Oc) : (takeZ x).length ≤ 1000 := by
  have := itemsZ_len (numR x 1000).2 (numR x 1000).1 []
  have := numR_le x 1000
  unfold takeZ; simp at *; omega
theorem c_ref19_items (x : Oc) (hx : x.ok) (sg) : LL.call n_c_ref19_items [eRn x] sg sg.length = some (.t [eRn (takeS x).1, .l .o 2 ((takeZ x).map eR)], sg, sg.length) := by
  have hn := c_ref01_Number x hx 1000 (by omega) sg
  have hle := numR_le x 1000
  have hx1 := numR_ok hx 1000
  have hne := numR_ne x 1000
  unfold takeS takeZ
  generalize (numR x 1000).1 = x1 at *
  generalize (numR x 1000).2 = n at *
  simp at hn
  refine wp_call e_c_ref19_items rfl ?_
  simp [F_c_ref19_items, hn]
  refine wc_ind (fun a : Nat × Oc × List It × AM.K => ⟨[(1, .q (.ptr 1 0)), (2, .q (.ptr 2 0)), (4, .v (.l a.2.2.2 2 (a.2.2.1.map eR))), (5, .v (.i .u64 n)), (6, .v (.i .u64 a.1))], [(1, [.s (bs a.2.1.s), .i .i64 a.2.1.e]), (2, [.s (bs []), .i .i64 0])], sg, sg.length⟩) (fun a => n - a.1)
    (fun a => a.1 ≤ n ∧ ((itemsG n x1 [] = itemsG (n - a.1) a.2.1 a.2.2.1 ∧ itemsZ n x1 [] = itemsZ (n - a.1) a.2.1 a.2.2.1 ∧ (a.1 < n → a.2.1.e = 0)) ∨ (a.2.1.e ≠ 0 ∧ (itemsG n x1 []).1 = a.2.1 ∧ itemsZ n x1 [] = a.2.2.1)) ∧ a.2.1.ok ∧ a.2.2.1.length ≤ a.1 ∧ a.2.2.2 = .o) ?_ (0, x1, [], .o) ⟨by simp, .inl ⟨rfl, rfl, fun h => hne (by omega)⟩, hx1, by simp, rfl⟩
  rintro ⟨i, y, acc, K⟩ ⟨h1, h2, h4, h5, h6⟩ ih
  simp only at h1 h2 h4 h5 h6
  subst h6
  have hk := c_ref01_Whole y h4 sg
  have hv := c_ref01_Signed (wholeR y 8).1 (wholeR_ok h4 8) sg
  have hkl := wholeR_lt y
  have hok := signR_ok (wholeR_ok h4 8)
  have hbk := c_ref19_float (wholeR y 8).2 hkl sg
  simp at hk hv hbk
  rcases h2 with ⟨h2, h3, h7⟩ | ⟨h2, h3, h7⟩
  · by_cases hi : i < n
    · have hi' : (i : Int) < n := by omega
      obtain ⟨m, hm⟩ : ∃ m, n - i = m + 1 := ⟨n - i - 1, by omega⟩
      have hm2 : n - (i + 1) = m := by omega
      rw [hm] at h2 h3
      rw [itemsG_succ] at h2
      rw [itemsZ_succ] at h3
      have he := h7 hi
      have heb : (y.e == 0) = true := by simpa using he
      have w1 : IntKind.u64.wrap ((i : Int) + 1) = i + 1 := wrapu64 (by omega)
      simp [hi, hi', heb, hk, hv, hbk]
      refine bq_i (fun a => ?_) (fun a => ?_) <;> (have a' := a) <;> simp at a' <;> simp [a]
      · have hne2 : (signR (wholeR y 8).1).1.e = 0 := a'
        by_cases hc : canon (backB (wholeR y 8).2) = backB (wholeR y 8).2
        · rw [if_neg (by simpa using a'), if_neg (by simpa using hc)] at h2
          rw [if_neg (by rintro (h | h) <;> contradiction)] at h3
          simp [hc]
          refine ⟨by omega, ?_⟩
          have := ih (i + 1, (signR (wholeR y 8).1).1, acc ++ [⟨backB (wholeR y 8).2, (signR (wholeR y 8).1).2⟩], .o) (by simp; omega) ⟨hi, .inl ⟨by rw [h2, hm2], by rw [h3, hm2], fun _ => a'⟩, hok, by simp; omega, rfl⟩
          simpa [w1] using this
        · rw [if_neg (by simpa using a'), if_pos (by simpa using hc)] at h2
          rw [if_pos (.inr hc)] at h3
          simp [hc]
          refine ⟨by omega, ?_⟩
          have := ih (i + 1, failR 2, acc ++ [⟨backB (wholeR y 8).2, (signR (wholeR y 8).1).2⟩], .o) (by simp; omega) ⟨hi, .inr ⟨by simp [failR], by rw [h2], by rw [h3]⟩, failR_ok 2, by simp; omega, rfl⟩
          simpa [w1, failR] using this
      · rw [if_pos a'] at h2
        rw [if_pos (.inl a')] at h3
        refine ⟨by omega, ?_⟩
        have := ih (i + 1, (signR (wholeR y 8).1).1, acc ++ [⟨backB (wholeR y 8).2, (signR (wholeR y 8).1).2⟩], .o) (by simp; omega) ⟨hi, .inr ⟨a', by rw [h2], by rw [h3]⟩, hok, by simp; omega, rfl⟩
        simpa [w1] using this
    · have hi' : ¬ (i : Int) < n := by omega
      rw [show n - i = 0 by omega] at h2 h3
      simp [hi, hi']
      simp [h2, h3, itemsG, itemsZ]
  · have heb : (y.e == 0) = false := by simpa using h2
    by_cases hi : i < n
    · have hi' : (i : Int) < n := by omega
      simp [hi, hi', heb, h3, h7]
    · have hi' : ¬ (i : Int) < n := by omega
      simp [hi, hi', h3, h7]
def listsZ : Nat → Oc → List (List It) → List (List It)
  | 0, _, acc => acc
  | n + 1, x, acc => listsZ n (takeS x).1 (acc ++ [takeZ x])
theorem listsZ_succ (n x acc) : listsZ (n + 1) x acc = listsZ n (takeS x).1 (acc ++ [takeZ x]) := rfl
theorem listsZ_eq : ∀ (n : Nat) (x : Oc) (acc), (listsG n x acc).1.e = 0 → listsZ n x acc = (listsG n x acc).2
  | 0, x, acc, h => rfl
  | n + 1, x, acc, h => by
    rw [listsG_succ] at h ⊢
    rw [listsZ_succ]
    have he : (takeS x).1.e = 0 := by
      by_cases h2 : (takeS x).1.e = 0
      · exact h2
      · rw [listsG_stay h2] at h; exact absurd h h2
    rw [takeZ_eq he]
    exact listsZ_eq n _ _ h
theorem listsG_fst (n x) : ∀ acc acc', (listsG n x acc).1 = (listsG n x acc').1 := by
  induction n generalizing x with
  | zero => intro acc acc'; rfl
  | succ n ih => intro acc acc'; rw [listsG_succ, listsG_succ]; exact ih _ _ _
theorem c_ref19_Read (k : Int) (hk : 1 ≤ k ∧ k ≤ 4) (mt dt : List UInt8) (hm : mt.length ≤ 1099511627776) (hd : dt.length ≤ 1099511627776) (sg) :
    LL.call n_c_ref19_Read [.i .i64 k, .s (bs mt), .s (bs dt)] sg sg.length = some (.t [eRmK .o .z .o (readI k mt dt).2, .i .i64 (readI k mt dt).1], sg, sg.length) := by
  generalize hr : readI k mt dt = r
  have oka : (⟨mt, 0⟩ : Oc).ok := hm
  have okb : (⟨dt, 0⟩ : Oc).ok := hd
  have hN1 := c_ref01_Number ⟨mt, 0⟩ oka 255 (by omega) sg
  have le1 := numR_le ⟨mt, 0⟩ 255
  have ok1 := numR_ok oka 255
  simp only [readI] at hr
  generalize (numR ⟨mt, 0⟩ 255).1 = x1 at *
  generalize (numR ⟨mt, 0⟩ 255).2 = p at *
  have hN2 := c_ref01_Number x1 ok1 18446744073709551615 (by omega) sg
  have ok2 := numR_ok ok1 18446744073709551615
  generalize (numR x1 18446744073709551615).1 = x2 at *
  generalize (numR x1 18446744073709551615).2 = c at *
  have hE := c_ref19_end x2 ok2 sg
  generalize endR x2 = x3 at *
  have w1 : IntKind.i64.wrap (p : Int) = p := wrap64 (by omega)
  refine wp_call e_c_ref19_Read rfl ?_
  simp at hN1 hN2 hE
  have g1 := shape_get1 (p := (p : Int)) hk
  have g2 := shape_get2 (p := (p : Int)) hk
  obtain ⟨s1, s2, s3, s4⟩ := shape_nat hk (p := (p : Int)) (by omega)
  rw [s1] at g1
  rw [s2] at g2
  have hk0 : 0 ≤ k := by omega
  simp [F_c_ref19_Read, hN1, hN2, hE, w1]
  refine bq_i (fun e => ?_) (fun e => ?_) <;> (have e' := e) <;> simp at e' <;> simp [e]
  · rw [if_pos e'] at hr
    subst hr
    simp [e', eRmK, zeroI]
  rw [if_neg (by simpa using e')] at hr
  generalize (shapeN k p).1 = a at *
  generalize (shapeN k p).2 = b at *
  simp [g1, g2, hk0, w1]
  refine wc_ind (fun t : Nat × Oc × List (List It) => ⟨[(6, .q (.ptr 6 0)), (13, .q (.ptr 13 0)), (14, .q (.ptr 14 0)), (15, .v (.i .i64 a)), (16, .v (.i .i64 b)), (17, .v (.i .i64 t.1))], [(6, [.i .i64 0, .i .i64 0, .i .u64 0, .l .o 1 [], .l .o 1 []]), (13, [.i .i64 k, .i .i64 p, .i .u64 c, .l .o 1 (t.2.2.map (eL 2 eR)), .l .o 1 []]), (14, [.s (bs t.2.1.s), .i .i64 t.2.1.e])], sg, sg.length⟩) (fun t => a - t.1)
    (fun t => t.1 ≤ a ∧ (listsG a ⟨dt, 0⟩ []).1 = (listsG (a - t.1) t.2.1 []).1 ∧ listsZ a ⟨dt, 0⟩ [] = listsZ (a - t.1) t.2.1 t.2.2 ∧ t.2.1.ok ∧ t.2.2.length ≤ t.1) ?_ (0, ⟨dt, 0⟩, []) ⟨by simp, rfl, rfl, okb, by simp⟩
  rintro ⟨i, y, acc⟩ ⟨h1, h2, h3, h4, h5⟩ ih
  simp only at h1 h2 h3 h4 h5
  have hI := c_ref19_items y h4 sg
  simp at hI
  by_cases hi : i < a
  · have hi' : (i : Int) < a := by omega
    obtain ⟨m, hm⟩ : ∃ m, a - i = m + 1 := ⟨a - i - 1, by omega⟩
    have hm2 : a - (i + 1) = m := by omega
    rw [hm, listsG_succ, listsG_fst m _ _ []] at h2
    rw [hm, listsZ_succ] at h3
    have w2 : IntKind.i64.wrap ((i : Int) + 1) = i + 1 := wrap64 (by omega)
    simp [hi, hi', hI]
    refine ⟨by omega, ?_⟩
    have := ih (i + 1, (takeS y).1, acc ++ [takeZ y]) (by simp; omega) ⟨hi, by rw [h2, hm2], by rw [h3, hm2], takeS_ok h4, by simp; omega⟩
    simpa [w2, eL] using this
  · have hi' : ¬ (i : Int) < a := by omega
    rw [show a - i = 0 by omega] at h2 h3
    simp [hi, hi']
    have hL1 : (listsG a ⟨dt, 0⟩ []).1 = y := h2
    have hL2 : listsZ a ⟨dt, 0⟩ [] = acc := h3
    refine wc_ind (fun t : Nat × Oc × List Int => ⟨[(6, .q (.ptr 6 0)), (13, .q (.ptr 13 0)), (14, .q (.ptr 14 0)), (16, .v (.i .i64 b)), (20, .v (.i .i64 t.1))], [(6, [.i .i64 0, .i .i64 0, .i .u64 0, .l .o 1 [], .l .o 1 []]), (13, [.i .i64 k, .i .i64 p, .i .u64 c, .l .o 1 (acc.map (eL 2 eR)), .l .o 1 (t.2.2.map (.i .i64))]), (14, [.s (bs t.2.1.s), .i .i64 t.2.1.e])], sg, sg.length⟩) (fun t => b - t.1)
      (fun t => t.1 ≤ b ∧ countsG b y [] = countsG (b - t.1) t.2.1 t.2.2 ∧ t.2.1.ok ∧ t.2.2.length ≤ t.1) ?_ (0, y, []) ⟨by simp, rfl, h4, by simp⟩
    rintro ⟨j, z, cs⟩ ⟨g1, g2, g3, g4⟩ ih2
    simp only at g1 g2 g3 g4
    have hn := c_ref01_Number z g3 1125899906842624 (by omega) sg
    have hn2 := numR_le z 1125899906842624
    have hE := c_ref19_end z g3 sg
    simp at hn hE
    by_cases hj : j < b
    · have hj' : (j : Int) < b := by omega
      obtain ⟨m, hm⟩ : ∃ m, b - j = m + 1 := ⟨b - j - 1, by omega⟩
      have hm2 : b - (j + 1) = m := by omega
      rw [hm, countsG_succ] at g2
      have w2 : IntKind.i64.wrap ((j : Int) + 1) = j + 1 := wrap64 (by omega)
      have w3 : IntKind.i64.wrap ((numR z 1125899906842624).2 : Int) = (numR z 1125899906842624).2 := wrap64 (by omega)
      simp [hj, hj', hn, w3]
      refine ⟨by omega, ?_⟩
      have := ih2 (j + 1, (numR z 1125899906842624).1, cs ++ [((numR z 1125899906842624).2 : Int)]) (by simp; omega) ⟨hj, by rw [g2, hm2], numR_ok g3 _, by simp; omega⟩
      simpa [w2] using this
    · have hj' : ¬ (j : Int) < b := by omega
      rw [show b - j = 0 by omega] at g2
      have hR : (readG a b ⟨dt, 0⟩).1 = endR z ∧ (readG a b ⟨dt, 0⟩).2.2 = cs := by unfold readG; rw [hL1, g2]; exact ⟨rfl, rfl⟩
      simp [hj, hj', hE]
      refine bq_i (fun f => ?_) (fun f => ?_) <;> (have f' := f) <;> simp at f' <;> simp [f]
      · rw [if_pos (by rw [hR.1]; exact f')] at hr
        subst hr
        simp [hR.1, f', eRmK, zeroI]
      · have hy : y.e = 0 := by
          by_cases h : y.e = 0
          · exact h
          · have := readG_stay (a := a) (b := b) (x := ⟨dt, 0⟩) (by rw [hL1]; exact h)
            rw [hR.1, hL1, f'] at this
            exact absurd this.symm h
        have hls : (readG a b ⟨dt, 0⟩).2.1 = acc := by
          rw [← hL2]; exact (listsZ_eq a ⟨dt, 0⟩ [] (by rw [hL1]; exact hy)).symm
        rw [if_neg (by rw [hR.1]; simpa using f'), hls, hR.2] at hr
        subst hr
        have er : (eLK .z 2 eR : List It → D) = eL 2 eR := rfl
        simp [eRmK, er]
end Go.AM

/-
Layer 19: an image as sections, by the program and by the reference.
-/
namespace Go.AM
set_option linter.unusedSimpArgs false
set_option linter.unusedVariables false
def itemB (y : It) : List UInt8 := fixB (key y.p) 8 ++ numB (zig y.v)
def itemsB (l : List It) : List UInt8 := numB l.length ++ l.flatMap itemB
def dataB (x : Im) : List UInt8 := x.ls.flatMap itemsB ++ x.cs.flatMap (fun n => numB n.toNat)
def metaB (x : Im) : List UInt8 := numB x.p.toNat ++ numB x.c.toNat
/-- What may be written: no number below 0. -/
def Im.wr (x : Im) : Prop := (0 ≤ x.p ∧ x.p ≤ 9223372036854775807) ∧ (0 ≤ x.c ∧ x.c < 18446744073709551616) ∧ (∀ n ∈ x.cs, 0 ≤ n ∧ n ≤ 9223372036854775807) ∧ (∀ l ∈ x.ls, ∀ y ∈ l, y.ok) ∧ (dataB x).length ≤ 1099511627776 ∧ x.ls.length ≤ 1099511627776 ∧ x.cs.length ≤ 1099511627776 ∧ ∀ l ∈ x.ls, l.length ≤ 1099511627776
theorem c_octet_Long {K : AM.K} (hK : Ko K) (b : List UInt8) (n : Nat) (hn : n < 18446744073709551616) (hb : b.length ≤ 1099511627776) (sg) : LL.call n_octet_Long [.l K 1 (b.map eB), .i .u64 n] sg sg.length = some (.l .o 1 ((b ++ fixB n 8).map eB), sg, sg.length) := by
  refine wp_call e_octet_Long rfl ?_
  have h := c_octet_fixed_uint64 hK b n hn hb sg
  simp at h
  simp [F_octet_Long, h]
theorem c_section_Items {K : AM.K} (hK : Ko K) (b : List UInt8) (l : List It) (ho : ∀ y ∈ l, y.ok) (hb : (b ++ itemsB l).length ≤ 1099511627776) (hl : l.length ≤ 1099511627776) (sg) :
    LL.call n_section_Items [.l K 1 (b.map eB), .l .z 2 (l.map eI)] sg sg.length = some (.l .o 1 ((b ++ itemsB l).map eB), sg, sg.length) := by
  refine wp_call e_section_Items rfl ?_
  have hb0 : b.length ≤ 1099511627776 := by simp [itemsB] at hb; omega
  have hn := c_octet_Num hK b l.length (by omega) hb0 sg
  have w0 : IntKind.u64.wrap (l.length : Int) = l.length := wrapu64 (by omega)
  simp at hn
  simp [F_section_Items, hn, w0]
  rw [← List.map_append]
  refine wc_list l (fun i c => ⟨[(0, .v (.l .o 1 (c.map eB))), (12, .v (.l .z 2 (l.map eI))), (13, .v (.i .i64 l.length)), (14, .v (.i .i64 i))], [], sg, sg.length⟩) (fun r (c : List UInt8) => c ++ r.flatMap itemB = b ++ itemsB l) ?_ ?_ (b ++ numB l.length) (by simp [itemsB])
  · intro i y r c hi hlt hc ih
    have hlt' : (i : Int) < l.length := by omega
    have hy := ho y (mem_of_get hi)
    have hlen := congrArg List.length hc
    have hc1 : c.length ≤ 1099511627776 := by simp at hlen hb; omega
    have hc2 : (c ++ fixB (key y.p) 8).length ≤ 1099511627776 := by simp [itemB] at hlen hb ⊢; omega
    have h1 := c_real_Key y.p hy.1 sg
    have h2 := c_octet_Long (.inl rfl) c (key y.p) (key_lt hy.1) hc1 sg
    have h3 := c_octet_Int (.inl rfl) (c ++ fixB (key y.p) 8) y.v hy.2 hc2 sg
    have w1 : IntKind.i64.wrap ((i : Int) + 1) = i + 1 := wrap64 (by omega)
    simp at h2 h3
    simp [hlt', hi, h1, h2, h3]
    have := ih (c ++ itemB y) (by rw [← hc]; simp)
    simpa [w1, itemB] using this
  · intro c hc
    simp at hc
    simp [hc]
theorem c_section_meta (x : Im) (h : x.wr) (sg) : LL.call n_section_meta [eIm x] sg sg.length = some (.s (bs (metaB x)), sg, sg.length) := by
  refine wp_call e_section_meta rfl ?_
  obtain ⟨hp, hc, -⟩ := h
  have w0 : IntKind.u64.wrap x.p = x.p.toNat := by rw [wrapu64 (by omega)]; omega
  have h1 := c_octet_Num (.inl rfl) [] x.p.toNat (by omega) (by simp) sg
  have h2 := c_octet_Num (.inl rfl) (numB x.p.toNat) x.c.toNat (by omega) (by have := numB_len10 (n := x.p.toNat) (by omega); omega) sg
  have e : ((x.c.toNat : Nat) : Int) = x.c := by omega
  rw [e] at h2
  generalize hpe : x.p.toNat = p at *
  generalize hce : x.c.toNat = c at *
  simp at h1 h2
  simp [F_section_meta, eIm, w0, h1, h2, metaB, hpe, hce]
theorem c_section_data (x : Im) (h : x.wr) (sg) : LL.call n_section_data [eIm x] sg sg.length = some (.s (bs (dataB x)), sg, sg.length) := by
  refine wp_call e_section_data rfl ?_
  obtain ⟨-, -, hcs, hls, htot, hL1, hL2, hL3⟩ := h
  simp [F_section_data, eIm]
  refine wc_list x.ls (fun i c => ⟨[(1, .q (.ptr 1 0)), (3, .v (.l .o 1 (c.map eB))), (9, .v (.l .z 1 (x.ls.map (eL 2 eI)))), (10, .v (.i .i64 x.ls.length)), (11, .v (.i .i64 i))], [(1, [.i .i64 x.k, .i .i64 x.p, .i .u64 x.c, .l .z 1 (x.ls.map (eL 2 eI)), .l .z 1 (x.cs.map (.i .i64))])], sg, sg.length⟩)
    (fun r (c : List UInt8) => c ++ r.flatMap itemsB ++ x.cs.flatMap (fun n => numB n.toNat) = dataB x) ?_ ?_ [] rfl
  · intro i l r c hi hlt hc ih
    have hlt' : (i : Int) < x.ls.length := by omega
    have hl := hls l (mem_of_get hi)
    have hlen := congrArg List.length hc
    have h1 := c_section_Items (.inl rfl) c l hl (by simp at hlen ⊢; omega) (hL3 l (mem_of_get hi)) sg
    have w1 : IntKind.i64.wrap ((i : Int) + 1) = i + 1 := wrap64 (by omega)
    simp at h1
    simp [hlt', hi, eL, h1]
    have := ih (c ++ itemsB l) (by rw [← hc]; simp)
    simpa [w1] using this
  · intro c hc
    simp only [List.flatMap_nil, List.append_nil] at hc
    simp
    refine wc_list x.cs (fun i c => ⟨[(3, .v (.l .o 1 (c.map eB))), (20, .v (.l .z 1 (x.cs.map (.i .i64)))), (21, .v (.i .i64 x.cs.length)), (22, .v (.i .i64 i))], [], sg, sg.length⟩)
      (fun r (c : List UInt8) => c ++ r.flatMap (fun n => numB n.toNat) = dataB x) ?_ ?_ c hc
    · intro i n r c hi hlt hc ih
      have hlt' : (i : Int) < x.cs.length := by omega
      have hn := hcs n (mem_of_get hi)
      have hlen := congrArg List.length hc
      have h1 := c_octet_Num (.inl rfl) c n.toNat (by omega) (by simp at hlen ⊢; omega) sg
      have w0 : IntKind.u64.wrap n = n.toNat := by rw [wrapu64 (by omega)]; omega
      have w1 : IntKind.i64.wrap ((i : Int) + 1) = i + 1 := wrap64 (by omega)
      simp only [List.map_append] at h1
      simp [hlt', hi, w0]
      rw [show ((n.toNat : Nat) : Int) = max n 0 by omega] at h1
      simp [h1]
      have := ih (c ++ numB n.toNat) (by rw [← hc]; simp)
      simpa [w1] using this
    · intro c hc
      simp at hc
      simp [hc]
theorem c_section_Of (x : Im) (h : x.wr) (sg) : LL.call n_section_Of [eIm x] sg sg.length = some (.l .o 2 ([((1 : Int), metaB x), (2, dataB x)].map eSec), sg, sg.length) := by
  refine wp_call e_section_Of rfl ?_
  have h1 := c_section_meta x h sg
  have h2 := c_section_data x h sg
  simp [eIm] at h1 h2
  simp [F_section_Of, eIm, h1, h2, eSec]
theorem c_ref19_Items (l : List It) (ho : ∀ y ∈ l, y.ok) (hb : (itemsB l).length ≤ 1099511627776) (hl : l.length ≤ 1099511627776) (sg) :
    LL.call n_c_ref19_Items [.l .z 2 (l.map eR)] sg sg.length = some (.s (bs (itemsB l)), sg, sg.length) := by
  refine wp_call e_c_ref19_Items rfl ?_
  have hn := c_ref01_Num2 l.length (by omega) sg
  have w0 : IntKind.u64.wrap (l.length : Int) = l.length := wrapu64 (by omega)
  simp [F_c_ref19_Items, hn, w0]
  refine wc_list l (fun i c => ⟨[(3, .v (.s (bs c))), (10, .v (.l .z 2 (l.map eR))), (11, .v (.i .i64 l.length)), (12, .v (.i .i64 i))], [], sg, sg.length⟩) (fun r (c : List UInt8) => c ++ r.flatMap itemB = itemsB l) ?_ ?_ (numB l.length) rfl
  · intro i y r c hi hlt hc ih
    have hlt' : (i : Int) < l.length := by omega
    have hy := ho y (mem_of_get hi)
    have hlen := congrArg List.length hc
    have h1 := c_ref03_Key y.p hy.1 sg
    have h2 := c_ref01_Fixed (key y.p) (key_lt hy.1) sg
    have h3 := c_ref01_Int y.v hy.2 sg
    have w1 : IntKind.i64.wrap ((i : Int) + 1) = i + 1 := wrap64 (by omega)
    have hlen2 : c.length + (itemB y).length ≤ 1099511627776 := by simp at hlen; omega
    have hlen3 : (fixB (key y.p) 8).length + (numB (zig y.v)).length ≤ 1099511627776 := by simp [itemB] at hlen2; omega
    simp [hlt', hi, h1, h2, h3, bini, bins]
    simp [itemB] at hlen2
    refine ⟨by omega, by omega, ?_⟩
    have := ih (c ++ itemB y) (by rw [← hc]; simp)
    simpa [w1, itemB] using this
  · intro c hc
    simp at hc
    simp [hc]
theorem c_ref19_Meta (x : Im) (h : x.wr) (sg) : LL.call n_c_ref19_Meta [eRm x] sg sg.length = some (.s (bs (metaB x)), sg, sg.length) := by
  refine wp_call e_c_ref19_Meta rfl ?_
  obtain ⟨hp, hc, -⟩ := h
  have w0 : IntKind.u64.wrap x.p = x.p.toNat := by rw [wrapu64 (by omega)]; omega
  have h1 := c_ref01_Num2 x.p.toNat (by omega) sg
  have h2 := c_ref01_Num2 x.c.toNat (by omega) sg
  have e : ((x.c.toNat : Nat) : Int) = x.c := by omega
  rw [e] at h2
  generalize hpe : x.p.toNat = p at *
  generalize hce : x.c.toNat = c at *
  simp [F_c_ref19_Meta, eRm, w0, h1, h2, bins, metaB, hpe, hce]
  have := numB_len10 (n := p) (by omega)
  have := numB_len10 (n := c) (by omega)
  omega
theorem c_ref19_Data (x : Im) (h : x.wr) (sg) : LL.call n_c_ref19_Data [eRm x] sg sg.length = some (.s (bs (dataB x)), sg, sg.length) := by
  refine wp_call e_c_ref19_Data rfl ?_
  obtain ⟨-, -, hcs, hls, htot, hL1, hL2, hL3⟩ := h
  simp [F_c_ref19_Data, eRm]
  refine wc_list x.ls (fun i c => ⟨[(1, .q (.ptr 1 0)), (3, .v (.s (bs c))), (9, .v (.l .z 1 (x.ls.map (eL 2 eR)))), (10, .v (.i .i64 x.ls.length)), (11, .v (.i .i64 i))], [(1, [.i .i64 x.k, .i .i64 x.p, .i .u64 x.c, .l .z 1 (x.ls.map (eL 2 eR)), .l .z 1 (x.cs.map (.i .i64))])], sg, sg.length⟩)
    (fun r (c : List UInt8) => c ++ r.flatMap itemsB ++ x.cs.flatMap (fun n => numB n.toNat) = dataB x) ?_ ?_ [] rfl
  · intro i l r c hi hlt hc ih
    have hlt' : (i : Int) < x.ls.length := by omega
    have hl := hls l (mem_of_get hi)
    have hlen := congrArg List.length hc
    have h1 := c_ref19_Items l hl (by simp at hlen; omega) (hL3 l (mem_of_get hi)) sg
    have w1 : IntKind.i64.wrap ((i : Int) + 1) = i + 1 := wrap64 (by omega)
    simp [hlt', hi, eL, h1, bins]
    refine ⟨by simp at hlen; omega, ?_⟩
    have := ih (c ++ itemsB l) (by rw [← hc]; simp)
    simpa [w1] using this
  · intro c hc
    simp only [List.flatMap_nil, List.append_nil] at hc
    simp
    refine wc_list x.cs (fun i c => ⟨[(3, .v (.s (bs c))), (21, .v (.l .z 1 (x.cs.map (.i .i64)))), (22, .v (.i .i64 x.cs.length)), (23, .v (.i .i64 i))], [], sg, sg.length⟩)
      (fun r (c : List UInt8) => c ++ r.flatMap (fun n => numB n.toNat) = dataB x) ?_ ?_ c hc
    · intro i n r c hi hlt hc ih
      have hlt' : (i : Int) < x.cs.length := by omega
      have hn := hcs n (mem_of_get hi)
      have h1 := c_ref01_Num2 n.toNat (by omega) sg
      have w0 : IntKind.u64.wrap n = n.toNat := by rw [wrapu64 (by omega)]; omega
      have w1 : IntKind.i64.wrap ((i : Int) + 1) = i + 1 := wrap64 (by omega)
      simp [hlt', hi, w0]
      rw [show ((n.toNat : Nat) : Int) = max n 0 by omega] at h1
      simp [h1, bins]
      refine ⟨by have hlen := congrArg List.length hc; simp at hlen; omega, ?_⟩
      have := ih (c ++ numB n.toNat) (by rw [← hc]; simp)
      simpa [w1] using this
    · intro c hc
      simp at hc
      simp [hc]
end Go.AM

/-
Layer 19, plain: what is read is what was written; what was written is read again.
-/
namespace Go.AM
set_option linter.unusedSimpArgs false
set_option linter.unusedVariables false
theorem ofNat_toNat8 (c : UInt8) : UInt8.ofNat c.toNat = c := by simp
theorem numL_inv : ∀ (l : List UInt8) (k acc v : Nat) (r : List UInt8), numL l k acc = (0, v, r) → ∃ n, v = acc + n * 128 ^ k ∧ l = numB n ++ r ∧ (0 < k → 0 < n)
  | [], k, acc, v, r, h => by simp [numL] at h
  | c :: l, k, acc, v, r, h => by
    have hc := u8_lt c
    by_cases hA : k = 9 ∧ 1 < c.toNat
    · rw [numL_two hA] at h; simp at h
    by_cases hlt : c.toNat < 128
    · by_cases hz : c.toNat = 0 ∧ 0 < k
      · rw [numL_zero hA hz.1 hz.2] at h; simp at h
      · rw [numL_last hA hlt hz] at h
        simp at h
        refine ⟨c.toNat, h.1.symm, ?_, by omega⟩
        rw [numB_small hlt, ofNat_toNat8, h.2]; rfl
    · rw [numL_more hA hlt] at h
      obtain ⟨n, h1, h2, h3⟩ := numL_inv l (k + 1) _ v r h
      have h3 := h3 (by omega)
      refine ⟨c.toNat % 128 + 128 * n, ?_, ?_, by omega⟩
      · rw [h1, Nat.pow_succ, Nat.add_mul, Nat.add_assoc, Nat.mul_comm (128 ^ k) 128, ← Nat.mul_assoc, Nat.mul_comm n 128]
      · rw [numB_big (by omega), h2]
        have e1 : (c.toNat % 128 + 128 * n) % 128 + 128 = c.toNat := by omega
        have e2 : (c.toNat % 128 + 128 * n) / 128 = n := by omega
        rw [e1, e2, ofNat_toNat8]; rfl
theorem numR_inv {x : Oc} {most : Nat} (h : (numR x most).1.e = 0) : x.e = 0 ∧ x.s = numB (numR x most).2 ++ (numR x most).1.s := by
  by_cases he : x.e = 0
  · refine ⟨he, ?_⟩
    have hN := numR_eq he (show numL x.s 0 0 = ((numL x.s 0 0).1, (numL x.s 0 0).2.1, (numL x.s 0 0).2.2) from rfl) most
    rw [hN] at h ⊢
    split at h
    · rename_i h1; simp [failR] at h; exact absurd h h1
    rename_i h1
    rw [if_neg h1]
    split at h
    · simp [failR] at h
    rename_i h2
    rw [if_neg h2]
    simp only [ne_eq, Decidable.not_not] at h1
    obtain ⟨n, h3, h4, -⟩ := numL_inv x.s 0 0 _ _ (by rw [← h1])
    simp at h3
    rw [h3]; exact h4
  · rw [numR_err he] at h; exact absurd h he
theorem zig_unzig (n : Nat) : zig (unzig n) = n := by
  unfold zig unzig; split <;> split <;> omega
theorem signR_inv {x : Oc} (h : (signR x).1.e = 0) : x.e = 0 ∧ x.s = numB (zig (signR x).2) ++ (signR x).1.s := by
  have := numR_inv (x := x) (most := 18446744073709551615) h
  unfold signR
  simp only [zig_unzig]
  exact this
theorem fixB_leV : ∀ l : List UInt8, fixB (leV l) l.length = l
  | [] => rfl
  | c :: l => by
    have := u8_lt c
    simp only [leV, List.length_cons, fixB]
    rw [show (c.toNat + 256 * leV l) % 256 = c.toNat by omega, show (c.toNat + 256 * leV l) / 256 = leV l by omega, fixB_leV l, ofNat_toNat8]
theorem wholeR_inv {x : Oc} (h : (wholeR x 8).1.e = 0) : x.e = 0 ∧ x.s = fixB (wholeR x 8).2 8 ++ (wholeR x 8).1.s := by
  unfold wholeR at h ⊢
  unfold bytesR at h ⊢
  by_cases he : x.e = 0
  · refine ⟨he, ?_⟩
    rw [if_neg (by simp [he])] at h ⊢
    by_cases hl : (8 : Int) > x.s.length
    · rw [if_pos hl] at h; simp [failR] at h
    · rw [if_neg hl]
      simp only
      have h8 : (x.s.take (8 : Int).toNat).length = 8 := by simp; omega
      have := fixB_leV (x.s.take (8 : Int).toNat)
      rw [h8] at this
      rw [this]; simp
  · rw [if_pos (.inl he)] at h; exact absurd h he
def It.can (y : It) : Prop := y.ok ∧ AM.canon y.p = y.p
theorem key_can {y : It} (h : y.can) : key y.p = keyC y.p := by unfold key; rw [h.2]
theorem itemsG_inv : ∀ (n : Nat) (x : Oc) (acc : List It), (itemsG n x acc).1.e = 0 → x.e = 0 ∧ ∃ l, (itemsG n x acc).2 = acc ++ l ∧ l.length = n ∧ x.s = l.flatMap itemB ++ (itemsG n x acc).1.s ∧ ∀ y ∈ l, y.can
  | 0, x, acc, h => ⟨h, [], by simp [itemsG], rfl, by simp [itemsG], by simp⟩
  | n + 1, x, acc, h => by
    rw [itemsG_succ] at h ⊢
    split at h
    · contradiction
    rename_i h1
    rw [if_neg h1]
    split at h
    · simp [failR] at h
    rename_i h2
    rw [if_neg h2]
    simp only [ne_eq, Decidable.not_not] at h1 h2
    obtain ⟨h3, l, h4, h5, h6, h7⟩ := itemsG_inv n _ _ h
    obtain ⟨g1, g2⟩ := signR_inv h1
    obtain ⟨g3, g4⟩ := wholeR_inv g1
    have hkl := wholeR_lt x
    have hv := unzig_ok (numR_lt (wholeR x 8).1 18446744073709551615)
    have hcan : (⟨backB (wholeR x 8).2, (signR (wholeR x 8).1).2⟩ : It).can := ⟨⟨backB_lt hkl, hv⟩, h2⟩
    refine ⟨g3, ⟨backB (wholeR x 8).2, (signR (wholeR x 8).1).2⟩ :: l, by rw [h4]; simp, by simp [h5], ?_, ?_⟩
    · rw [g4, g2, h6]
      simp only [List.flatMap_cons, itemB, (key_backB hkl).2 h2, List.append_assoc]
    · intro y hy
      rcases List.mem_cons.1 hy with rfl | hy
      · exact hcan
      · exact h7 y hy
theorem takeS_inv {x : Oc} (h : (takeS x).1.e = 0) : x.e = 0 ∧ x.s = itemsB (takeS x).2 ++ (takeS x).1.s ∧ ∀ y ∈ (takeS x).2, y.can := by
  obtain ⟨h1, l, h2, h3, h4, h5⟩ := itemsG_inv (numR x 1000).2 (numR x 1000).1 [] h
  obtain ⟨g1, g2⟩ := numR_inv h1
  simp only [List.nil_append] at h2
  refine ⟨g1, ?_, fun y hy => h5 y (by rw [← h2]; exact hy)⟩
  rw [g2, h4]
  show _ = itemsB (itemsG _ _ []).2 ++ _
  unfold itemsB
  rw [h2, h3]; simp [takeS]
theorem listsG_inv : ∀ (n : Nat) (x : Oc) (acc), (listsG n x acc).1.e = 0 → x.e = 0 ∧ ∃ l, (listsG n x acc).2 = acc ++ l ∧ l.length = n ∧ x.s = l.flatMap itemsB ++ (listsG n x acc).1.s ∧ ∀ m ∈ l, (∀ y ∈ m, y.can) ∧ m.length ≤ 1000
  | 0, x, acc, h => ⟨h, [], by simp [listsG], rfl, by simp [listsG], by simp⟩
  | n + 1, x, acc, h => by
    rw [listsG_succ] at h ⊢
    obtain ⟨h3, l, h4, h5, h6, h7⟩ := listsG_inv n _ _ h
    obtain ⟨g1, g2, g3⟩ := takeS_inv h3
    refine ⟨g1, (takeS x).2 :: l, by rw [h4]; simp, by simp [h5], ?_, ?_⟩
    · rw [g2, h6]; simp
    · intro y hy
      rcases List.mem_cons.1 hy with rfl | hy
      · exact ⟨g3, takeS_len x⟩
      · exact h7 y hy
theorem countsG_inv : ∀ (n : Nat) (x : Oc) (acc), (countsG n x acc).1.e = 0 → x.e = 0 ∧ ∃ l, (countsG n x acc).2 = acc ++ l ∧ l.length = n ∧ x.s = l.flatMap (fun n => numB n.toNat) ++ (countsG n x acc).1.s ∧ ∀ m ∈ l, 0 ≤ m ∧ m ≤ 1125899906842624
  | 0, x, acc, h => ⟨h, [], by simp [countsG], rfl, by simp [countsG], by simp⟩
  | n + 1, x, acc, h => by
    rw [countsG_succ] at h ⊢
    obtain ⟨h3, l, h4, h5, h6, h7⟩ := countsG_inv n _ _ h
    obtain ⟨g1, g2⟩ := numR_inv h3
    have hle := numR_le x 1125899906842624
    refine ⟨g1, ((numR x 1125899906842624).2 : Int) :: l, by rw [h4]; simp, by simp [h5], ?_, ?_⟩
    · rw [g2, h6]; simp
    · intro y hy
      rcases List.mem_cons.1 hy with rfl | hy
      · omega
      · exact h7 y hy
theorem endR_inv {x : Oc} (h : (endR x).e = 0) : x.e = 0 ∧ x.s = [] := by
  unfold endR at h
  split at h
  · simp [failR] at h
  · rename_i h2
    refine ⟨h, ?_⟩
    cases hs : x.s with
    | nil => rfl
    | cons a l => exact absurd ⟨h, by rw [hs]; simp⟩ h2
/-- An image that was read. -/
structure Im.rd (x : Im) : Prop where
  k : 1 ≤ x.k ∧ x.k ≤ 4
  p : 0 ≤ x.p ∧ x.p ≤ 255
  c : 0 ≤ x.c ∧ x.c < 18446744073709551616
  l : x.ls.length = (shapeN x.k x.p).1
  n : x.cs.length = (shapeN x.k x.p).2
  is : ∀ m ∈ x.ls, (∀ y ∈ m, y.can) ∧ m.length ≤ 1000
  cs : ∀ m ∈ x.cs, 0 ≤ m ∧ m ≤ 1125899906842624
theorem readI_inv {k : Int} (hk : 1 ≤ k ∧ k ≤ 4) {mt dt : List UInt8} (h : (readI k mt dt).1 = 0) : (readI k mt dt).2.rd ∧ (readI k mt dt).2.k = k ∧ metaB (readI k mt dt).2 = mt ∧ dataB (readI k mt dt).2 = dt := by
  unfold readI at h ⊢
  simp only at h ⊢
  split at h
  · contradiction
  rename_i h1
  rw [if_neg h1]
  split at h
  · contradiction
  rename_i h2
  rw [if_neg h2]
  simp only [ne_eq, Decidable.not_not] at h1 h2
  obtain ⟨a1, a2⟩ := endR_inv h1
  obtain ⟨a3, a4⟩ := numR_inv a1
  obtain ⟨a5, a6⟩ := numR_inv a3
  rw [a4, a2] at a6
  unfold readG at h2 ⊢
  simp only at h2 ⊢
  obtain ⟨b1, b2⟩ := endR_inv h2
  obtain ⟨b3, cs, b4, b5, b6, b7⟩ := countsG_inv _ _ _ b1
  obtain ⟨b8, ls, b9, b10, b11, b12⟩ := listsG_inv _ _ _ b3
  have l1 := numR_le ⟨mt, 0⟩ 255
  have l2 := numR_lt (numR ⟨mt, 0⟩ 255).1 18446744073709551615
  simp only [List.nil_append] at b4 b9
  rw [b9, b4]
  refine ⟨⟨hk, by simp only; omega, by simp only; omega, b10, b5, b12, b7⟩, by simp, ?_, ?_⟩
  · simp only [metaB, Int.toNat_natCast]
    simpa using a6.symm
  · simp only [dataB]
    rw [b2] at b6
    rw [b6] at b11
    simpa using b11.symm
theorem readI_zero {k : Int} {mt dt : List UInt8} (h : (readI k mt dt).1 ≠ 0) : (readI k mt dt).2 = zeroI := by
  unfold readI at h ⊢
  simp only at h ⊢
  split at h
  · rename_i h1; rw [if_pos h1]
  rename_i h1
  rw [if_neg h1]
  split at h
  · rename_i h2; rw [if_pos h2]
  · simp at h
theorem sum_len_le : ∀ (ls : List (List It)), (∀ m ∈ ls, m.length ≤ 1000) → (ls.map List.length).sum ≤ 1000 * ls.length
  | [], h => by simp
  | a :: l, h => by
    have h1 := h a (by simp)
    have h2 := sum_len_le l (fun m hm => h m (by simp [hm]))
    simp; omega
theorem Im.rd.lens {x : Im} (h : x.rd) : x.ls.length ≤ 255 ∧ x.cs.length ≤ 255 := by
  obtain ⟨-, -, s3, s4⟩ := shape_nat h.k h.p
  have := h.l
  have := h.n
  omega
theorem Im.rd.ok {x : Im} (h : x.rd) : x.ok := by
  refine ⟨fun m hm y hy => ((h.is m hm).1 y hy).1, fun n hn => by have := h.cs n hn; omega, ?_⟩
  have := sum_len_le x.ls (fun m hm => (h.is m hm).2)
  have := h.lens
  omega
theorem Im.rd.small {x : Im} (h : x.rd) : x.small := by
  have := h.lens
  exact ⟨by omega, by omega, fun m hm => by have := (h.is m hm).2; omega⟩
theorem Im.rd.wr {x : Im} (h : x.rd) (hl : (dataB x).length ≤ 1099511627776) : x.wr := by
  have := h.lens
  exact ⟨⟨h.p.1, by have := h.p.2; omega⟩, h.c, fun n hn => by have := h.cs n hn; omega, h.ok.1, hl, by omega, by omega, h.small.2.2⟩
end Go.AM

/-
Layer 20: a file, read.
-/
namespace Go.AM
set_option linter.unusedSimpArgs false
set_option linter.unusedVariables false
def kindF (s : List UInt8) : Int := ((s[5]?).getD 0).toNat
def decR (s : List UInt8) : Int × Im :=
  if hd0 s ≠ 0 then (hd0 s, zeroI) else if (openR s).2 ≠ 0 then ((openR s).2, zeroI) else
  if (sctR (openR s).1 (bytesR ⟨(openR s).1, 0⟩ 10).1).1 ≠ 0 then ((sctR (openR s).1 (bytesR ⟨(openR s).1, 0⟩ 10).1).1, zeroI) else
  if (readS (kindF s) (sctR (openR s).1 (bytesR ⟨(openR s).1, 0⟩ 10).1).2).1 ≠ 0 then ((readS (kindF s) (sctR (openR s).1 (bytesR ⟨(openR s).1, 0⟩ 10).1).2).1, zeroI) else
  if checkI (readS (kindF s) (sctR (openR s).1 (bytesR ⟨(openR s).1, 0⟩ 10).1).2).2 ≠ 0 then (checkI (readS (kindF s) (sctR (openR s).1 (bytesR ⟨(openR s).1, 0⟩ 10).1).2).2, zeroI) else
  (0, (readS (kindF s) (sctR (openR s).1 (bytesR ⟨(openR s).1, 0⟩ 10).1).2).2)
theorem rowsR_lens (al : List UInt8) : ∀ (n k : Nat) (x : Oc) (next : Nat) (l), (∀ p ∈ l, p.2.length ≤ al.length) → (rowsR al n k x next l).2.length ≤ l.length + n ∧ ∀ p ∈ (rowsR al n k x next l).2, p.2.length ≤ al.length
  | 0, k, x, next, l, h => by unfold rowsR; exact ⟨Nat.le_refl _, h⟩
  | n + 1, k, x, next, l, h => by
    rw [rowsR_succ]
    split
    · exact ⟨by show l.length ≤ _; omega, h⟩
    · have := rowsR_lens al n (k + 1) (rowR x).x (next + (rowR x).sz) (l ++ [(((rowR x).id.toNat : Int), partR al next (rowR x).sz)]) (by
        intro p hp
        rcases List.mem_append.1 hp with hp | hp
        · exact h p hp
        · simp at hp; subst hp; simp [partR]; omega)
      refine ⟨?_, this.2⟩
      have := this.1
      simp at this; omega
theorem sctR_lens (al : List UInt8) (x : Oc) : (sctR al x).2.length ≤ 2 ∧ ∀ p ∈ (sctR al x).2, p.2.length ≤ al.length := by
  unfold sctR
  split
  · simp
  split
  · simp
  · have := rowsR_lens al 2 0 (byteR x).1 37 [] (by simp)
    simpa using this
theorem openR_len (s : List UInt8) : (openR s).1.length ≤ s.length := by
  unfold openR
  split
  · simp
  split
  · simp
  · simp
theorem readS_rd {k : Int} {l : List (Int × List UInt8)} (h : (readS k l).1 = 0) : (readS k l).2.rd := by
  unfold readS at h ⊢
  by_cases hk : k < 1 ∨ 4 < k
  · rw [if_pos hk] at h; simp at h
  rw [if_neg hk] at h ⊢
  match l, h with
  | [], h => simp at h
  | [a], h => simp at h
  | a :: b :: c :: d, h => simp at h
  | [a, b], h =>
    simp only at h ⊢
    by_cases ha : a.1 = 1 ∧ b.1 = 2
    · rw [if_pos ha] at h ⊢
      exact (readI_inv ⟨by omega, by omega⟩ h).1
    · rw [if_neg ha] at h; simp at h
theorem c_file_Decode (s : List UInt8) (hs : s.length ≤ 1073741824) (sg) : LL.call n_file_Decode [.s (bs s)] sg sg.length =
    some (.t [eImK (if (decR s).1 = 0 then .z else .o) .z (if (decR s).1 = 0 then .z else .o) (decR s).2, .i .i64 (decR s).1], sg, sg.length) := by
  generalize hr : decR s = r
  refine wp_call e_file_Decode rfl ?_
  have hM := c_crc_Make sg
  have hBg := c_file_begin s hs (sg ++ [tabO, [.p sg.length 0, .s (bs []), .l .o 2 []]]) (sg.length + 1) sg.length (by rw [List.getElem?_append_right (by omega)]; simp) (by rw [List.getElem?_append_right (by omega)]; simp) (by omega)
  obtain ⟨hB1, hB2⟩ := hBg
  unfold decR at hr
  simp [F_file_Decode, hM]
  by_cases h0 : hd0 s = 0
  case neg =>
    have := hB1 h0
    rw [if_pos h0] at hr
    subst hr
    have hb : (hd0 s == 0) = false := by simpa using h0
    have hb2 : (hd0 s != 0) = true := by simpa using h0
    simp at this
    simp [this, hb, hb2]
    simp [h0, eImK, zeroI]
  rw [if_neg (by simpa using h0)] at hr
  obtain ⟨x1, hB⟩ := hB2 h0
  have hal := openR_len s
  have hkf : (((s[5]?).getD 0).toNat : Int) = kindF s := rfl
  rw [hkf] at hB
  generalize kindF s = kd at *
  generalize (openR s).1 = al at *
  have hx2 : (bytesR ⟨al, 0⟩ 10).1.ok := bytesR_ok (by show al.length ≤ _; omega) 10
  generalize (bytesR ⟨al, 0⟩ 10).1 = x2 at *
  by_cases h1 : (openR s).2 = 0
  case neg =>
    rw [if_pos h1] at hr
    subst hr
    have hb : ((openR s).2 == 0) = false := by simpa using h1
    have hb2 : ((openR s).2 != 0) = true := by simpa using h1
    simp at hB
    simp [hB, hb, hb2]
    simp [h1, eImK, zeroI]
  rw [if_neg (by simpa using h1)] at hr
  rw [h1] at hB
  obtain ⟨R, hR⟩ : ∃ R : List D, R = [.p sg.length 0, .s (bs al), .l .o 2 []] := ⟨_, rfl⟩
  have hset : (sg ++ [tabO, [.p sg.length 0, .s (bs []), .l .o 2 []]]).set (sg.length + 1) R ++ [eIn x1, eIn x2] = sg ++ [tabO, R, eIn x1, eIn x2] := by
    rw [List.set_append_right _ _ (by omega)]; simp
  rw [← hR, hset] at hB
  obtain ⟨y, hy, c1, c2, rfl, hc1⟩ := c_file_sections al (by omega) x2 hx2 (sg ++ [tabO, R, eIn x1, eIn x2]) (sg.length + 1) sg.length (sg.length + 3)
    (by rw [List.getElem?_append_right (by omega)]; simp [hR]) (by rw [List.getElem?_append_right (by omega)]; simp) (by rw [List.getElem?_append_right (by omega)]; simp) (by omega) (by omega) (by omega)
  have hset2 : ((sg ++ [tabO, R, eIn x1, eIn x2]).set (sg.length + 1) c1).set (sg.length + 3) c2 = sg ++ [tabO, c1, eIn x1, c2] := by
    rw [List.set_append_right _ _ (by omega), List.set_append_right _ _ (by omega)]; simp
  rw [hset2] at hy
  have hlens := sctR_lens al x2
  generalize sctR al x2 = S at *
  simp at hB hy
  by_cases h2 : S.1 = 0
  case neg =>
    rw [if_pos h2] at hr
    subst hr
    have hb : (S.1 == 0) = false := by simpa using h2
    have hb2 : (S.1 != 0) = true := by simpa using h2
    simp [hB, hy, hb, hb2]
    simp [h2, eImK, zeroI]
  rw [if_neg (by simpa using h2)] at hr
  have hc1 := hc1 h2
  subst hc1
  rw [h2] at hy
  have hRd := c_section_Read kd S.2 (by have := hlens.1; omega) (fun p hp => by have := hlens.2 p hp; omega) .z (sg ++ [tabO, [.p sg.length 0, .s (bs al), .l .o 2 (S.2.map eSec)], eIn x1, c2])
  have hrd := readS_rd (k := kd) (l := S.2)
  generalize readS kd S.2 = RR at *
  simp at hRd
  by_cases h3 : RR.1 = 0
  case neg =>
    rw [if_pos h3] at hr
    subst hr
    have hb : (RR.1 == 0) = false := by simpa using h3
    have hb2 : (RR.1 != 0) = true := by simpa using h3
    simp [eImK, h3] at hRd
    simp [hB, hy, hRd, hb, hb2]
    simp [h3, eImK, zeroI]
  rw [if_neg (by simpa using h3)] at hr
  have hok := (hrd h3).ok
  have hCk := c_image_Image_Check RR.2 hok (sg ++ [tabO, [.p sg.length 0, .s (bs al), .l .o 2 (S.2.map eSec)], eIn x1, c2])
  have ee : (eLK .z 2 eI : List It → D) = eL 2 eI := rfl
  simp [eImK, h3, ee] at hRd
  simp [eIm] at hCk
  by_cases h4 : checkI RR.2 = 0
  case neg =>
    rw [if_pos h4] at hr
    subst hr
    have hb : (checkI RR.2 == 0) = false := by simpa using h4
    have hb2 : (checkI RR.2 != 0) = true := by simpa using h4
    simp [hB, hy, hRd, hCk, hb, hb2]
    simp [h4, eImK, zeroI]
  rw [if_neg (by simpa using h4)] at hr
  subst hr
  rw [h4] at hCk
  simp [hB, hy, hRd, hCk]
  simp [eImK, ee]
end Go.AM

/-
Layer 20: an image's file, by the program and by the reference.
-/
namespace Go.AM
set_option linter.unusedSimpArgs false
set_option linter.unusedVariables false
theorem c_ref01_Fixed4 (n : Nat) (hn : n < 18446744073709551616) (sg) : LL.call n_c_ref01_Fixed [.i .u64 n, .i .i64 4] sg sg.length = some (.s (bs (fixB n 4)), sg, sg.length) := by
  refine wp_call e_c_ref01_Fixed rfl ?_
  simp [F_c_ref01_Fixed]
  refine wc_ind (fun a : List UInt8 × Nat × Nat => ⟨[(0, .v (.i .u64 a.2.1)), (1, .v (.i .i64 4)), (5, .v (.l .o 1 (a.1.map eB))), (6, .v (.i .i64 a.2.2))], [], sg, sg.length⟩) (fun a => 4 - a.2.2)
    (fun a => a.1 ++ fixB a.2.1 (4 - a.2.2) = fixB n 4 ∧ a.2.2 ≤ 4 ∧ a.2.1 < 18446744073709551616) ?_ ([], n, 0) ⟨rfl, by simp, hn⟩
  rintro ⟨c, m, j⟩ ⟨h1, h2, h5⟩ ih
  simp only at h1 h2 h5
  have hlen : c.length ≤ 4 := by
    have h4 := congrArg List.length h1
    simp [fixB_len] at h4; omega
  by_cases hj : j = 4
  · subst hj
    have : c = fixB n 4 := by simpa [show fixB m 0 = [] from rfl] using h1
    subst this
    simp
  · have hj' : (j : Int) < 4 := by omega
    have hg : fixB m (4 - j) = UInt8.ofNat (m % 256) :: fixB (m / 256) (4 - (j + 1)) := by
      rw [show 4 - j = (4 - (j + 1)) + 1 by omega]; rfl
    have w1 : IntKind.i64.wrap ((j : Int) + 1) = j + 1 := wrap64 (by omega)
    have w2 : IntKind.u64.wrap ((m : Int) / 256) = (m : Int) / 256 := wrapu64 (by omega)
    have e : (m : Int).tmod 256 = ((m % 256 : Nat) : Int) := rfl
    simp [hj', e]
    refine ⟨by omega, ?_⟩
    have := ih (c ++ [UInt8.ofNat (m % 256)], m / 256, j + 1) (by simp; omega) ⟨by rw [← h1, hg]; simp, by simp; omega, by simp; omega⟩
    simpa [w1, w2, wrap_u8] using this
theorem c_ref20_word (n : Nat) (hn : n < 9223372036854775808) (sg) : LL.call n_c_ref20_word [.i .i64 n] sg sg.length = some (.s (bs (fixB n 4)), sg, sg.length) := by
  refine wp_call e_c_ref20_word rfl ?_
  have h := c_ref01_Fixed4 n (by omega) sg
  have w : IntKind.u64.wrap (n : Int) = n := wrapu64 (by omega)
  simp [F_c_ref20_word, w, h]
def entB (id at_ : Nat) (s : List UInt8) : List UInt8 := UInt8.ofNat id :: (fixB at_ 4 ++ (fixB s.length 4 ++ fixB (sumN s) 4))
theorem entB_len (id at_ s) : (entB id at_ s).length = 13 := by simp [entB, fixB_len]
theorem c_ref20_entry (id at_ : Nat) (hi : id < 256) (ha : at_ < 1073741824) (s : List UInt8) (hs : s.length ≤ 1073741824) (sg) : LL.call n_c_ref20_entry [.i .i64 id, .i .i64 at_, .s (bs s)] sg sg.length = some (.s (bs (entB id at_ s)), sg, sg.length) := by
  refine wp_call e_c_ref20_entry rfl ?_
  have h1 := c_ref20_word at_ (by omega) sg
  have h2 := c_ref20_word s.length (by omega) sg
  have hsm := sumN_lt s
  have h3 := c_ref20_word (sumN s) (by omega) sg
  have h4 := c_ref02_Sum s hs sg
  have w1 : IntKind.u8.wrap (id : Int) = ((UInt8.ofNat id).toNat : Int) := u8_wrap id
  have w2 : IntKind.i64.wrap (sumN s : Int) = sumN s := wrap64 (by omega)
  have htb : ∀ c : UInt8, toBy [D.i .u8 (c.toNat : Int)] = some [c] := fun c => toBy_eB [c]
  have he : entB id at_ s = UInt8.ofNat id :: (fixB at_ 4 ++ (fixB s.length 4 ++ fixB (sumN s) 4)) := rfl
  generalize UInt8.ofNat id = c at *
  simp [F_c_ref20_entry, w1, w2, h1, h2, h3, h4, htb, bins, fixB_len, he]
/-- An image's file, but for the sum; the whole file. -/
def bodyB (x : Im) : List UInt8 :=
  [67, 82, 89, 79] ++ ([4, UInt8.ofNat x.k.toNat] ++ (fixB (41 + (metaB x).length + (dataB x).length) 4 ++ ([2] ++ (entB 1 37 (metaB x) ++ (entB 2 (37 + (metaB x).length) (dataB x) ++ (metaB x ++ dataB x))))))
def encB (x : Im) : List UInt8 := sealB (bodyB x)
theorem c_ref20_Encode (x : Im) (h : x.wr) (hk : 1 ≤ x.k ∧ x.k ≤ 4) (hm : (metaB x).length ≤ 1048576) (hd : (dataB x).length ≤ 1048576) (sg) : LL.call n_c_ref20_Encode [eRm x] sg sg.length = some (.s (bs (encB x)), sg, sg.length) := by
  refine wp_call e_c_ref20_Encode rfl ?_
  have hM := c_ref19_Meta x h sg
  have hD := c_ref19_Data x h sg
  have hk8 : IntKind.u8.wrap x.k = ((UInt8.ofNat x.k.toNat).toNat : Int) := by
    have := u8_wrap x.k.toNat
    rwa [show ((x.k.toNat : Nat) : Int) = x.k by omega] at this
  have hw := c_ref20_word (41 + (metaB x).length + (dataB x).length) (by omega) sg
  have he1 := c_ref20_entry 1 37 (by omega) (by omega) (metaB x) (by omega) sg
  have he2 := c_ref20_entry 2 (37 + (metaB x).length) (by omega) (by omega) (dataB x) (by omega) sg
  have hbl : (bodyB x).length ≤ 1073741824 := by simp [bodyB, fixB_len, entB_len]; omega
  have hS := c_ref02_Sum (bodyB x) hbl sg
  have hsm := sumN_lt (bodyB x)
  have hw2 := c_ref20_word (sumN (bodyB x)) (by omega) sg
  have w2 : IntKind.i64.wrap (sumN (bodyB x) : Int) = sumN (bodyB x) := wrap64 (by omega)
  have hbd : bodyB x = [67, 82, 89, 79] ++ ([4, UInt8.ofNat x.k.toNat] ++ (fixB (41 + (metaB x).length + (dataB x).length) 4 ++ ([2] ++ (entB 1 37 (metaB x) ++ (entB 2 (37 + (metaB x).length) (dataB x) ++ (metaB x ++ dataB x)))))) := rfl
  have hen : encB x = bodyB x ++ fixB (sumN (bodyB x)) 4 := rfl
  have l1 := entB_len 1 37 (metaB x)
  have l2 := entB_len 2 (37 + (metaB x).length) (dataB x)
  rw [hen]
  generalize hB : bodyB x = B at *
  generalize entB 1 37 (metaB x) = e1 at *
  generalize entB 2 (37 + (metaB x).length) (dataB x) = e2 at *
  generalize metaB x = mt at *
  generalize dataB x = dt at *
  generalize UInt8.ofNat x.k.toNat = c at *
  have htb : toBy [D.i .u8 4, D.i .u8 (c.toNat : Int)] = some [4, c] := toBy_eB [4, c]
  have w3 : IntKind.i64.wrap (41 + (mt.length : Int)) = 41 + mt.length := wrap64 (by omega)
  have w4 : IntKind.i64.wrap (41 + (mt.length : Int) + dt.length) = 41 + mt.length + dt.length := wrap64 (by omega)
  have w5 : IntKind.i64.wrap (37 + (mt.length : Int)) = 37 + mt.length := wrap64 (by omega)
  simp [eRm] at hM hD hw he1 he2 hS hw2
  simp at hbd
  simp [F_c_ref20_Encode, eRm, hM, hD, hk8, htb, w3, w4, w5, hw, he1, he2, bins, fixB_len, l1, l2]
  rw [← hbd]
  refine ⟨by omega, by omega, by omega, ?_⟩
  simp [hS, w2, hw2, bins, fixB_len]
  omega
end Go.AM

/-
Layer 17: images with one part that may be wrong.
-/
namespace Go.AM
set_option linter.unusedSimpArgs false
set_option linter.unusedVariables false
/-- One item more, in the list at a place. -/
def addAt (ls : List (List It)) (j : Nat) (y : It) : List (List It) := ls.set j ((ls[j]?).getD [] ++ [y])
def many (n : Nat) (ls : List (List It)) : List (List It) := (List.range n).foldl (fun ls i => addAt ls (i % ls.length) ⟨4607182418800017408, i⟩) ls
def spoiltI (x : Im) (how n : Int) : Im :=
  if how % 8 = 1 then { x with p := n % 64 - 2 }
  else if how % 8 = 2 then { x with k := n % 64 % 7 }
  else if how % 8 = 3 then { x with ls := x.ls ++ [[]] }
  else if how % 8 = 4 then { x with cs := x.cs ++ [n] }
  else if how % 8 = 5 then (if x.ls = [] then x else { x with ls := addAt x.ls ((n % 64).toNat % x.ls.length) ⟨13830554455654793216, n⟩ })
  else if how % 8 = 6 then (if x.cs = [] then x else { x with cs := x.cs.set ((n % 64).toNat % x.cs.length) n })
  else if how % 8 = 7 then (if x.ls = [] then x else { x with ls := many 1100 x.ls })
  else x
theorem addAt_len (ls : List (List It)) (j : Nat) (y : It) : (addAt ls j y).length = ls.length := by simp [addAt]

theorem many_len (n : Nat) (ls : List (List It)) : (many n ls).length = ls.length := by
  induction n with
  | zero => rfl
  | succ n ih =>
    simp only [many, List.range_succ, List.foldl_append, List.foldl_cons, List.foldl_nil, addAt_len]
    exact ih
theorem c_law17_spoilt (x : Im) (how n : Int) (hs : x.small) (sg) : LL.call n_c_law17_spoilt [eImK .x .o .x x, .i .i64 how, .i .i64 n] sg sg.length = some (eImK .o .z .o (spoiltI x how n), sg, sg.length) := by
  refine wp_call e_c_law17_spoilt rfl ?_
  obtain ⟨s1, s2, s3⟩ := hs
  have ee : (eLK .z 2 eI : List It → D) = eL 2 eI := rfl
  have hh : how % 8 = 0 ∨ how % 8 = 1 ∨ how % 8 = 2 ∨ how % 8 = 3 ∨ how % 8 = 4 ∨ how % 8 = 5 ∨ how % 8 = 6 ∨ how % 8 = 7 := by omega
  unfold spoiltI
  rcases hh with h | h | h | h | h | h | h | h
  · simp [F_c_law17_spoilt, eImK, i64_63, i64_7, h, ee]
  · have w : IntKind.i64.wrap (n % 64 - 2) = n % 64 - 2 := wrap64 (by omega)
    simp [F_c_law17_spoilt, eImK, i64_63, i64_7, h, w, ee]
  · have w : (n % 64).tmod 7 = n % 64 % 7 := tmod_nn _ _ (by omega)
    simp [F_c_law17_spoilt, eImK, i64_63, i64_7, h, w, ee]
  · have p1 : (x.ls.length + 1) * 24 ≤ 140737488355328 := by omega
    simp [F_c_law17_spoilt, eImK, i64_63, i64_7, h, p1, ee]
  · have p1 : (x.cs.length + 1) * 8 ≤ 140737488355328 := by omega
    simp [F_c_law17_spoilt, eImK, i64_63, i64_7, h, p1, ee]
  · by_cases hl : x.ls = []
    · simp [F_c_law17_spoilt, eImK, i64_63, i64_7, h, hl, ee]
    · have hl0 : 0 < x.ls.length := List.length_pos_iff.2 hl
      obtain ⟨m, hm⟩ : ∃ m : Nat, n % 64 = m := ⟨(n % 64).toNat, by omega⟩
      have w : (m : Int).tmod x.ls.length = ((m % x.ls.length : Nat) : Int) := rfl
      have hlt : m % x.ls.length < x.ls.length := Nat.mod_lt _ hl0
      have q : x.ls[m % x.ls.length]? = some x.ls[m % x.ls.length] := List.getElem?_eq_getElem hlt
      have hr2 : ((m : Int) % x.ls.length).toNat = m % x.ls.length := rfl
      have hr3 : (0 : Int) ≤ (m : Int) % x.ls.length := Int.natCast_nonneg (m % x.ls.length)
      have p1 : (x.ls[m % x.ls.length].length + 1) * 16 ≤ 140737488355328 := by have := s3 _ (List.getElem_mem hlt); omega
      simp [F_c_law17_spoilt, eImK, i64_63, i64_7, h, hm, hl, hl0, w, hlt, q, hr2, hr3, p1, addAt, ee]
  · by_cases hl : x.cs = []
    · simp [F_c_law17_spoilt, eImK, i64_63, i64_7, h, hl, ee]
    · have hl0 : 0 < x.cs.length := List.length_pos_iff.2 hl
      obtain ⟨m, hm⟩ : ∃ m : Nat, n % 64 = m := ⟨(n % 64).toNat, by omega⟩
      have w : (m : Int).tmod x.cs.length = ((m % x.cs.length : Nat) : Int) := rfl
      have hlt : m % x.cs.length < x.cs.length := Nat.mod_lt _ hl0
      have q : x.cs[m % x.cs.length]? = some x.cs[m % x.cs.length] := List.getElem?_eq_getElem hlt
      have hr2 : ((m : Int) % x.cs.length).toNat = m % x.cs.length := rfl
      have hr3 : (0 : Int) ≤ (m : Int) % x.cs.length := Int.natCast_nonneg (m % x.cs.length)
      simp [F_c_law17_spoilt, eImK, i64_63, i64_7, h, hm, hl, hl0, w, hlt, q, hr2, hr3, ee]
  · by_cases hl : x.ls = []
    · simp [F_c_law17_spoilt, eImK, i64_63, i64_7, h, hl, ee]
      refine wc_loop ?_
      simp [hl, h]
    · have hl0 : 0 < x.ls.length := List.length_pos_iff.2 hl
      simp [F_c_law17_spoilt, eImK, i64_63, i64_7, h, hl, hl0, ee]
      refine wc_up 1100 (fun i => ⟨[(3, .q (.ptr 3 0)), (6, .q (.ptr 6 0)), (9, .v (.i .i64 i))], [(3, [.i .i64 x.k, .i .i64 x.p, .i .u64 x.c, .l .x 1 ((many i x.ls).map (eLK .o 2 eI)), .l .x 1 (x.cs.map (.i .i64))]), (6, [.i .i64 0, .i .i64 0, .i .u64 0, .l .o 1 [], .l .o 1 []])], sg, sg.length⟩)
        (fun i => ∀ l ∈ many i x.ls, l.length ≤ 1099511627776 + i) ?_ ?_ 0 (by omega) (by simpa [many] using s3)
      · intro i hi hb ih
        have w : IntKind.i64.wrap (↑i + 1) = (i : Int) + 1 := wrap64 (by omega)
        have hi' : (i : Int) < 1100 := by omega
        have e0 := many_len i x.ls
        have hl2 : 0 < (many i x.ls).length := by omega
        have hl3 : ¬ many i x.ls = [] := List.length_pos_iff.1 hl2
        have hlt : i % x.ls.length < (many i x.ls).length := by rw [e0]; exact Nat.mod_lt _ hl0
        have q : (many i x.ls)[i % x.ls.length]? = some (many i x.ls)[i % x.ls.length] := List.getElem?_eq_getElem hlt
        have hr0 : (i : Int).tmod x.ls.length = ((i % x.ls.length : Nat) : Int) := rfl
        have hr2 : ((i : Int) % x.ls.length).toNat = i % x.ls.length := rfl
        have hr3 : (0 : Int) ≤ (i : Int) % x.ls.length := Int.natCast_nonneg (i % x.ls.length)
        have p1 : ((many i x.ls)[i % x.ls.length].length + 1) * 16 ≤ 140737488355328 := by have := hb _ (List.getElem_mem hlt); omega
        have e1 : many (i + 1) x.ls = (many i x.ls).set (i % x.ls.length) ((many i x.ls)[i % x.ls.length] ++ [⟨4607182418800017408, i⟩]) := by
          simp only [many, List.range_succ, List.foldl_append, List.foldl_cons, List.foldl_nil]
          show addAt (many i x.ls) (i % (many i x.ls).length) _ = _
          rw [e0, addAt, q]; rfl
        have hb2 : ∀ l ∈ many (i + 1) x.ls, l.length ≤ 1099511627776 + (i + 1) := by
          rw [e1]
          intro l hl
          rcases List.mem_or_eq_of_mem_set hl with hl | rfl
          · have := hb l hl; omega
          · have := hb _ (List.getElem_mem hlt); simp; omega
        have hlm : i % x.ls.length < x.ls.length := Nat.mod_lt _ hl0
        simp [hi', hl0, hl, hlm, hl2, hl3, e0, q, hlt, w, hr0, hr2, hr3, p1]
        simpa [e1] using ih hb2
      · intro hb
        have e0 := many_len 1100 x.ls
        simp [ee, h, hl]
end Go.AM

/-
Layer 17: what is made may be; what is asked of the document's answer is checked alike.
-/
namespace Go.AM
set_option linter.unusedSimpArgs false
set_option linter.unusedVariables false
theorem sum_le {α : Type} (B : Nat) (f : α → Nat) : ∀ l : List α, (∀ x ∈ l, f x ≤ B) → (l.map f).sum ≤ l.length * B
  | [], _ => by simp
  | x :: l, h => by
    have := sum_le B f l (fun y hy => h y (by simp [hy]))
    have := h x (by simp)
    simp only [List.map_cons, List.sum_cons, List.length_cons, Nat.succ_mul]; omega
theorem isum_le (B : Int) (hB : 0 ≤ B) : ∀ l : List Int, (∀ x ∈ l, 0 ≤ x ∧ x ≤ B) → 0 ≤ l.sum ∧ l.sum ≤ l.length * B
  | [], _ => by simp
  | x :: l, h => by
    have h1 := isum_le B hB l (fun y hy => h y (by simp [hy]))
    have h2 := h x (by simp)
    have e : ((x :: l).length : Int) * B = l.length * B + B := by simp [Int.add_mul]
    rw [List.sum_cons, e]; omega
theorem dealI_len (n : Nat) : ∀ (r : List It) (a : List (List It)) (i : Nat), (dealI n a i r).length = a.length
  | [], _, _ => rfl
  | x :: r, a, i => by rw [dealI, dealI_len n r]; simp
theorem dealI_all (n B : Nat) : ∀ (r : List It) (a : List (List It)) (i : Nat), (∀ l ∈ a, l.length ≤ B ∧ ∀ y ∈ l, y.ok ∧ y.canon = y) → (∀ y ∈ r, y.ok) → ∀ l ∈ dealI n a i r, l.length ≤ B + r.length ∧ ∀ y ∈ l, y.ok ∧ y.canon = y
  | [], a, i, h, _ => by simpa [dealI] using h
  | x :: r, a, i, h, hr => by
    rw [dealI]
    have := dealI_all n (B + 1) r (a.set (i % n) ((a[i % n]?).getD [] ++ [x.canon])) (i + 1) (fun l hl => by
      rcases List.mem_or_eq_of_mem_set hl with hl | rfl
      · exact ⟨by have := (h l hl).1; omega, (h l hl).2⟩
      · have : ∀ l, a[i % n]? = some l → l.length ≤ B ∧ ∀ y ∈ l, y.ok ∧ y.canon = y := fun l hl => h l (mem_of_get hl)
        have hx : x.canon.ok ∧ x.canon.canon = x.canon := ⟨canon_ok x (hr x (by simp)), by simp [It.canon, canon_canon]⟩
        cases e : a[i % n]? with
        | none => refine ⟨by simp, fun y hy => ?_⟩; simp at hy; subst hy; exact hx
        | some l =>
          refine ⟨by have := (this l e).1; simp; omega, fun y hy => ?_⟩
          rcases List.mem_append.1 hy with hy | hy
          · exact (this l e).2 y (by simpa using hy)
          · simp at hy; subst hy; exact hx) (fun y hy => hr y (by simp [hy]))
    intro l hl
    have := this l hl
    exact ⟨by simp; omega, this.2⟩

theorem makeI_k (x : Raw) : (makeI x).k = kindOf x.k := rfl
theorem makeI_p (x : Raw) : (makeI x).p = paramOf x.k x.p := rfl
theorem makeI_c (x : Raw) : (makeI x).c = x.c := rfl
theorem makeI_legal (x : Raw) : legal (makeI x).k (makeI x).p = 0 := legal_kind x.k x.p
theorem makeI_nn (x : Raw) : 0 ≤ (shapeOf (makeI x).k (makeI x).p).1 ∧ 0 ≤ (shapeOf (makeI x).k (makeI x).p).2 := shape_nn _ _ (by have := paramOf_le x.k x.p; rw [makeI_p]; omega)
theorem makeI_lens (x : Raw) : ((makeI x).ls.length : Int) = (shapeOf (makeI x).k (makeI x).p).1 ∧ ((makeI x).cs.length : Int) = (shapeOf (makeI x).k (makeI x).p).2 := by
  have h := makeI_nn x
  rw [makeI_k, makeI_p] at h ⊢
  constructor
  · have : (makeI x).ls.length = (shapeOf (kindOf x.k) (paramOf x.k x.p)).1.toNat := by
      simp only [makeI]; split <;> simp [dealI_len]
    omega
  · have : (makeI x).cs.length = (shapeOf (kindOf x.k) (paramOf x.k x.p)).2.toNat := by simp [makeI, makeCs]
    omega
theorem makeI_ls (x : Raw) (h : x.ok) : ∀ l ∈ (makeI x).ls, l.length ≤ 60 ∧ ∀ y ∈ l, y.ok ∧ y.canon = y := by
  have hd : ∀ l ∈ dealI (shapeOf (kindOf x.k) (paramOf x.k x.p)).1.toNat (List.replicate (shapeOf (kindOf x.k) (paramOf x.k x.p)).1.toNat []) 0 (if (shapeOf (kindOf x.k) (paramOf x.k x.p)).1.toNat = 0 then [] else x.is.take 60), l.length ≤ 60 ∧ ∀ y ∈ l, y.ok ∧ y.canon = y := by
    intro l hl
    have hy : ∀ y ∈ (if (shapeOf (kindOf x.k) (paramOf x.k x.p)).1.toNat = 0 then [] else x.is.take 60), y.ok := by
      intro y hy
      split at hy
      · simp at hy
      · exact h.1 y (List.mem_of_mem_take hy)
    have := dealI_all _ 0 _ (List.replicate (shapeOf (kindOf x.k) (paramOf x.k x.p)).1.toNat []) 0 (fun l hl => by rw [(List.mem_replicate.1 hl).2]; simp) hy l hl
    refine ⟨?_, this.2⟩
    have h2 := this.1
    have : (if (shapeOf (kindOf x.k) (paramOf x.k x.p)).1.toNat = 0 then [] else x.is.take 60).length ≤ 60 := by split <;> simp; omega
    omega
  simp only [makeI]
  split
  · intro l hl
    obtain ⟨m, hm, rfl⟩ := List.mem_map.1 hl
    rw [sortI_len]
    exact ⟨(hd m hm).1, fun y hy => (hd m hm).2 y ((sortI_perm m).mem_iff.1 hy)⟩
  · exact hd
theorem makeI_cs (x : Raw) : ∀ n ∈ (makeI x).cs, 0 ≤ n ∧ n ≤ 1099511627775 := by
  intro n hn
  simp only [makeI, makeCs, List.mem_map] at hn
  obtain ⟨i, _, rfl⟩ := hn
  split <;> omega
theorem makeI_small (x : Raw) (h : x.ok) : (makeI x).small := by
  have h1 := makeI_lens x
  have h2 := shape_le _ _ (makeI_legal x)
  exact ⟨by omega, by omega, fun l hl => by have := (makeI_ls x h l hl).1; omega⟩
theorem makeI_sum (x : Raw) (h : x.ok) : ((makeI x).ls.map List.length).sum ≤ 960 := by
  have h1 := makeI_lens x
  have h2 := shape_le _ _ (makeI_legal x)
  have := sum_le 60 List.length (makeI x).ls (fun l hl => (makeI_ls x h l hl).1)
  have : (makeI x).ls.length ≤ 16 := by omega
  omega
theorem makeI_ok (x : Raw) (h : x.ok) : (makeI x).ok :=
  ⟨fun l hl y hy => ((makeI_ls x h l hl).2 y hy).1, fun n hn => by have := makeI_cs x n hn; omega, by have := makeI_sum x h; omega⟩
theorem ordersE_zero (k : Int) : ∀ ls : List (List It), (∀ l ∈ ls, orderE k l = 0) → ordersE k ls = 0
  | [], _ => rfl
  | l :: r, h => by rw [ordersE_cons_eq _ _ _ (h l (by simp))]; exact ordersE_zero k r (fun m hm => h m (by simp [hm]))
theorem makeI_check (x : Raw) (h : x.ok) : checkI (makeI x) = 0 := by
  have h1 := makeI_lens x
  have h2 := shape_le _ _ (makeI_legal x)
  have ho : ordersE (makeI x).k (makeI x).ls = 0 := ordersE_zero _ _ (fun l hl => by
    by_cases hk : kindOf x.k = 1
    · have hlen := (makeI_ls x h l hl).1
      rw [makeI_k, hk]
      have : ordered l = true := by
        simp only [makeI, hk, if_true] at hl
        obtain ⟨m, _, rfl⟩ := List.mem_map.1 hl
        exact sortI_ordered m
      simp [orderE, this]; omega
    · rw [makeI_k]; simp [orderE, hk])
  have hc : countsE (makeI x).cs = 0 := by
    have h3 := makeI_cs x
    have h4 := isum_le 1099511627775 (by omega) _ h3
    have : ((makeI x).cs.length : Int) ≤ 16 := by omega
    unfold countsE
    rw [if_neg]
    simp only [Bool.or_eq_true, decide_eq_true_eq, List.any_eq_true]
    rintro (⟨n, hn, hb⟩ | hb)
    · have := h3 n hn; simp [badN] at hb; omega
    · omega
  have := makeI_sum x h
  simp only [checkI, makeI_legal, ho, hc]
  rw [if_neg (by omega), if_neg (by omega), if_neg (by omega), if_neg (by omega)]

theorem cmpI_canon (x y : It) : cmpI x.canon y.canon = cmpI x y := by simp [cmpI, It.canon, key_canon]
theorem ordered_canon : ∀ l : List It, ordered (l.map It.canon) = ordered l
  | [] => rfl
  | [x] => rfl
  | x :: y :: r => by
    have := ordered_canon (y :: r)
    simp only [List.map_cons] at this
    simp only [List.map_cons, ordered, this, cmpI_canon]
theorem toldI_check (x : Im) : checkI (toldI x) = checkI x := by
  have h1 : ∀ k l, orderE k (l.map It.canon) = orderE k l := fun k l => by simp [orderE, ordered_canon]
  have h2 : ∀ k ls, ordersE k (ls.map (·.map It.canon)) = ordersE k ls := by
    intro k ls
    induction ls with
    | nil => rfl
    | cons l r ih => simp only [List.map_cons, ordersE, h1, ih]
  have h3 : ((x.ls.map (·.map It.canon)).map List.length) = x.ls.map List.length := by
    rw [List.map_map]; apply List.map_congr_left; intro l _; simp
  simp only [checkI, toldI, h2, h3, List.length_map]
theorem toldI_ok (x : Im) (h : x.ok) : (toldI x).ok := by
  refine ⟨fun l hl y hy => ?_, h.2.1, ?_⟩
  · obtain ⟨m, hm, rfl⟩ := List.mem_map.1 hl
    obtain ⟨z, hz, rfl⟩ := List.mem_map.1 hy
    exact canon_ok z (h.1 m hm z hz)
  · have h3 : ((x.ls.map (·.map It.canon)).map List.length) = x.ls.map List.length := by
      rw [List.map_map]; apply List.map_congr_left; intro l _; simp
    simp only [toldI]; rw [h3]; exact h.2.2
theorem toldI_make (x : Raw) (h : x.ok) : toldI (makeI x) = makeI x := by
  have : (makeI x).ls.map (·.map It.canon) = (makeI x).ls := by
    conv => rhs; rw [← List.map_id (makeI x).ls]
    apply List.map_congr_left
    intro l hl
    conv => rhs; rw [id, ← List.map_id l]
    apply List.map_congr_left
    intro y hy
    exact ((makeI_ls x h l hl).2 y hy).2
  simp only [toldI, this]

/-! ### with one part that may be wrong -/
theorem addAt_all (B : Nat) (ls : List (List It)) (j : Nat) (y : It) (hy : y.ok) (h : ∀ l ∈ ls, l.length ≤ B ∧ ∀ y ∈ l, y.ok) : ∀ l ∈ addAt ls j y, l.length ≤ B + 1 ∧ ∀ y ∈ l, y.ok := by
  intro l hl
  rcases List.mem_or_eq_of_mem_set hl with hl | rfl
  · exact ⟨by have := (h l hl).1; omega, (h l hl).2⟩
  · cases e : ls[j]? with
    | none => refine ⟨by simp, fun z hz => ?_⟩; simp at hz; subst hz; exact hy
    | some l =>
      have := h l (mem_of_get e)
      refine ⟨by have := this.1; simp; omega, fun z hz => ?_⟩
      rcases List.mem_append.1 hz with hz | hz
      · exact this.2 z (by simpa using hz)
      · simp at hz; subst hz; exact hy
theorem many_all (B : Nat) (ls : List (List It)) (h : ∀ l ∈ ls, l.length ≤ B ∧ ∀ y ∈ l, y.ok) : ∀ n, n ≤ 100000 → ∀ l ∈ many n ls, l.length ≤ B + n ∧ ∀ y ∈ l, y.ok
  | 0, _ => by simpa [many] using h
  | n + 1, hn => by
    have ih := many_all B ls h n (by omega)
    have : many (n + 1) ls = addAt (many n ls) (n % (many n ls).length) ⟨4607182418800017408, n⟩ := by
      simp only [many, List.range_succ, List.foldl_append, List.foldl_cons, List.foldl_nil]
    rw [this]
    exact addAt_all (B + n) _ _ _ ⟨by simp, by simp; omega⟩ ih
theorem spoiltI_facts (x : Im) (how n : Int) (hn : -9223372036854775808 ≤ n ∧ n ≤ 9223372036854775807) (B : Nat)
    (h : ∀ l ∈ x.ls, l.length ≤ B ∧ ∀ y ∈ l, y.ok) (hc : ∀ n ∈ x.cs, -9223372036854775808 ≤ n ∧ n ≤ 9223372036854775807) :
    (∀ l ∈ (spoiltI x how n).ls, l.length ≤ B + 1100 ∧ ∀ y ∈ l, y.ok) ∧ (∀ m ∈ (spoiltI x how n).cs, -9223372036854775808 ≤ m ∧ m ≤ 9223372036854775807) ∧ (spoiltI x how n).ls.length ≤ x.ls.length + 1 ∧ (spoiltI x how n).cs.length ≤ x.cs.length + 1 := by
  have hw : ∀ l ∈ x.ls, l.length ≤ B + 1100 ∧ ∀ y ∈ l, y.ok := fun l hl => ⟨by have := (h l hl).1; omega, (h l hl).2⟩
  unfold spoiltI
  split
  · exact ⟨hw, hc, by simp, by simp⟩
  split
  · exact ⟨hw, hc, by simp, by simp⟩
  split
  · refine ⟨fun l hl => ?_, hc, by simp, by simp⟩
    rcases List.mem_append.1 hl with hl | hl
    · exact hw l hl
    · simp at hl; subst hl; simp
  split
  · refine ⟨hw, fun m hm => ?_, by simp, by simp⟩
    rcases List.mem_append.1 hm with hm | hm
    · exact hc m hm
    · rw [List.mem_singleton.1 hm]; exact hn
  split
  · split
    · exact ⟨hw, hc, by simp, by simp⟩
    · refine ⟨fun l hl => ?_, hc, by simp [addAt], by simp⟩
      have := addAt_all B x.ls _ ⟨13830554455654793216, n⟩ ⟨by simp, hn⟩ h l hl
      exact ⟨by omega, this.2⟩
  split
  · split
    · exact ⟨hw, hc, by simp, by simp⟩
    · refine ⟨hw, fun m hm => ?_, by simp, by simp⟩
      rcases List.mem_or_eq_of_mem_set hm with hm | hm
      · exact hc m hm
      · rw [hm]; exact hn
  split
  · split
    · exact ⟨hw, hc, by simp, by simp⟩
    · exact ⟨fun l hl => by dsimp only at hl; exact many_all B x.ls h 1100 (by omega) l hl, hc, by simp [many_len], by simp⟩
  · exact ⟨hw, hc, by simp, by simp⟩
theorem spoilt_make (x : Raw) (h : x.ok) (how n : Int) (hn : -9223372036854775808 ≤ n ∧ n ≤ 9223372036854775807) : (spoiltI (makeI x) how n).ok ∧ (spoiltI (makeI x) how n).small := by
  obtain ⟨h1, h2, h3, h4⟩ := spoiltI_facts (makeI x) how n hn 60 (fun l hl => ⟨(makeI_ls x h l hl).1, fun y hy => ((makeI_ls x h l hl).2 y hy).1⟩) (makeI_ok x h).2.1
  have h5 := makeI_lens x
  have h6 := shape_le _ _ (makeI_legal x)
  have := sum_le 1160 List.length (spoiltI (makeI x) how n).ls (fun l hl => (h1 l hl).1)
  have : (spoiltI (makeI x) how n).ls.length ≤ 17 := by omega
  exact ⟨⟨fun l hl y hy => (h1 l hl).2 y hy, h2, by omega⟩, by omega, by omega, fun l hl => by have := (h1 l hl).1; omega⟩
end Go.AM

/-
Layer 19, plain: what was written is read again.
-/
namespace Go.AM
set_option linter.unusedSimpArgs false
set_option linter.unusedVariables false
theorem flatMap_len {α : Type} (f : α → List UInt8) (B : Nat) : ∀ l : List α, (∀ x ∈ l, (f x).length ≤ B) → (l.flatMap f).length ≤ B * l.length
  | [], h => by simp
  | a :: l, h => by
    have h1 := h a (by simp)
    have h2 := flatMap_len f B l (fun x hx => h x (by simp [hx]))
    simp only [List.flatMap_cons, List.length_append, List.length_cons, Nat.mul_add, Nat.mul_one]; omega
theorem itemB_len {y : It} (h : y.ok) : (itemB y).length ≤ 18 := by
  have := numB_len10 (zig_lt h.2)
  simp [itemB, fixB_len]; omega
theorem itemsB_len {l : List It} (h : ∀ y ∈ l, y.ok) (hl : l.length ≤ 1099511627776) : (itemsB l).length ≤ 10 + 18 * l.length := by
  have h1 := flatMap_len itemB 18 l (fun y hy => itemB_len (h y hy))
  have h2 := numB_len10 (n := l.length) (by omega)
  simp only [itemsB, List.length_append]; omega
theorem Im.rd.dlen {x : Im} (h : x.rd) : (dataB x).length ≤ 1099511627776 := by
  have h1 := h.lens
  have h2 := flatMap_len itemsB 18010 x.ls (fun l hl => by
    have := itemsB_len (fun y hy => ((h.is l hl).1 y hy).1) (by have := (h.is l hl).2; omega)
    have := (h.is l hl).2
    omega)
  have h3 := flatMap_len (fun n : Int => numB n.toNat) 10 x.cs (fun n hn => numB_len10 (by have := h.cs n hn; omega))
  simp only [dataB, List.length_append]; omega
theorem Im.rd.wr' {x : Im} (h : x.rd) : x.wr := h.wr h.dlen
theorem signR_numB {v : Int} (h : -9223372036854775808 ≤ v ∧ v ≤ 9223372036854775807) (r : List UInt8) : signR ⟨numB (zig v) ++ r, 0⟩ = (⟨r, 0⟩, v) := by
  have hz := zig_lt h
  unfold signR
  rw [numR_numB hz, if_neg (by omega)]
  simp [unzig_zig v h]
theorem wholeR_fixB {n : Nat} (h : n < 18446744073709551616) (r : List UInt8) : wholeR ⟨fixB n 8 ++ r, 0⟩ 8 = (⟨r, 0⟩, n) := by
  have := bytesR_app (fixB n 8) r (by simp [fixB_len])
  rw [fixB_len] at this
  have e : ((8 : Nat) : Int) = 8 := rfl
  rw [e] at this
  unfold wholeR
  rw [this]
  simp only [leV_fixB 8 n (by simpa using h)]
theorem itemsG_fwd : ∀ (l : List It) (r : List UInt8) (acc : List It), (∀ y ∈ l, y.can) → itemsG l.length ⟨l.flatMap itemB ++ r, 0⟩ acc = (⟨r, 0⟩, acc ++ l)
  | [], r, acc, h => by simp [itemsG]
  | y :: l, r, acc, h => by
    have hy := h y (by simp)
    have ih := itemsG_fwd l r (acc ++ [y]) (fun z hz => h z (by simp [hz]))
    have e : (y :: l).flatMap itemB ++ r = fixB (key y.p) 8 ++ (numB (zig y.v) ++ (l.flatMap itemB ++ r)) := by simp [itemB]
    have hk := key_lt hy.1.1
    have hb : backB (key y.p) = y.p := by rw [key_can hy, backB_keyC hy.1.1]
    rw [List.length_cons, itemsG_succ, e, wholeR_fixB hk]
    simp only
    rw [signR_numB hy.1.2]
    simp only [hb, hy.2]
    rw [if_neg (by simp), if_neg (by simp), ih]
    simp
theorem takeS_fwd {l : List It} (h : ∀ y ∈ l, y.can) (hl : l.length < 18446744073709551616) (r : List UInt8) : takeS ⟨itemsB l ++ r, 0⟩ = if l.length > 1000 then (failR 3, []) else (⟨r, 0⟩, l) := by
  unfold takeS itemsB
  rw [List.append_assoc, numR_numB hl]
  split
  · rfl
  · simp only
    rw [itemsG_fwd l r [] h]; rfl
theorem listsG_fwd : ∀ (ls : List (List It)) (r : List UInt8) (acc), (∀ m ∈ ls, (∀ y ∈ m, y.can) ∧ m.length ≤ 1000) → listsG ls.length ⟨ls.flatMap itemsB ++ r, 0⟩ acc = (⟨r, 0⟩, acc ++ ls)
  | [], r, acc, h => by simp [listsG]
  | m :: ls, r, acc, h => by
    have hm := h m (by simp)
    have ih := listsG_fwd ls r (acc ++ [m]) (fun z hz => h z (by simp [hz]))
    rw [List.length_cons, listsG_succ, List.flatMap_cons, List.append_assoc, takeS_fwd hm.1 (by have := hm.2; omega), if_neg (by have := hm.2; omega)]
    simp only [ih, List.append_assoc, List.singleton_append]
theorem countsG_fwd : ∀ (cs : List Int) (r : List UInt8) (acc), (∀ m ∈ cs, 0 ≤ m ∧ m ≤ 1125899906842624) → countsG cs.length ⟨cs.flatMap (fun n => numB n.toNat) ++ r, 0⟩ acc = (⟨r, 0⟩, acc ++ cs)
  | [], r, acc, h => by simp [countsG]
  | m :: cs, r, acc, h => by
    have hm := h m (by simp)
    have ih := countsG_fwd cs r (acc ++ [m]) (fun z hz => h z (by simp [hz]))
    have e : ((m.toNat : Nat) : Int) = m := by omega
    rw [List.length_cons, countsG_succ, List.flatMap_cons, List.append_assoc, numR_numB (by omega), if_neg (by omega)]
    simp only [e, ih, List.append_assoc, List.singleton_append]
theorem endR_nil : endR ⟨[], 0⟩ = ⟨[], 0⟩ := rfl
theorem readI_fwd {x : Im} (h : x.rd) : readI x.k (metaB x) (dataB x) = (0, x) := by
  have hp := h.p
  have hc := h.c
  have e1 := numR_numB (n := x.p.toNat) (most := 255) (by omega) (numB x.c.toNat)
  rw [if_neg (by omega)] at e1
  have e := numR_numB (n := x.c.toNat) (most := 18446744073709551615) (by omega) []
  rw [List.append_nil, if_neg (by omega)] at e
  have ep : ((x.p.toNat : Nat) : Int) = x.p := by omega
  have ec : ((x.c.toNat : Nat) : Int) = x.c := by omega
  have e2 := countsG_fwd x.cs [] [] h.cs
  rw [List.append_nil] at e2
  have hR : readG (shapeN x.k x.p).1 (shapeN x.k x.p).2 ⟨dataB x, 0⟩ = (⟨[], 0⟩, x.ls, x.cs) := by
    unfold readG dataB
    rw [← h.l, ← h.n, listsG_fwd x.ls _ [] h.is]
    simp only
    rw [e2]
    simp [endR_nil]
  unfold readI metaB
  simp only [e1, e, endR_nil, ep, ec, hR]
  simp
theorem makeI_rd (x : Raw) (h : x.ok) : (makeI x).rd := by
  have h1 := makeI_lens x
  have h2 := makeI_legal x
  have h3 := legal_k h2
  have h4 := makeI_nn x
  have hp : 1 ≤ (makeI x).p ∧ (makeI x).p ≤ 16 := paramOf_le x.k x.p
  obtain ⟨s1, s2, s3, s4⟩ := shape_nat h3 (p := (makeI x).p) (by omega)
  refine ⟨h3, by omega, ?_, by omega, by omega, fun m hm => ⟨fun y hy => ?_, ?_⟩, fun m hm => ?_⟩
  · rw [makeI_c]; exact h.2.1
  · have := (makeI_ls x h m hm).2 y hy
    exact ⟨this.1, congrArg It.p this.2⟩
  · have := (makeI_ls x h m hm).1; omega
  · have := makeI_cs x m hm; omega
theorem readS_of {x : Im} (h : x.rd) : readS x.k [(1, metaB x), (2, dataB x)] = (0, x) := by
  unfold readS; rw [if_neg (by have := h.k; omega)]
  simp [readI_fwd h]
end Go.AM

/-
Layer 20, plain: what is written is read again; what is read was written so.
-/
namespace Go.AM
set_option linter.unusedSimpArgs false
set_option linter.unusedVariables false
theorem leV_fixB4 {n : Nat} (h : n < 4294967296) : leV (fixB n 4) = n := leV_fixB 4 n (by simpa using h)
theorem take_app_len {α : Type} {a : List α} {n : Nat} (h : a.length = n) (b : List α) : (a ++ b).take n = a := by subst h; simp
theorem drop_app_len {α : Type} {a : List α} {n : Nat} (h : a.length = n) (b : List α) : (a ++ b).drop n = b := by subst h; simp
theorem wholeR4_fix {n : Nat} (h : n < 4294967296) (r : List UInt8) : wholeR ⟨fixB n 4 ++ r, 0⟩ 4 = (⟨r, 0⟩, n) := by
  rw [wholeR4_long (by simp [fixB_len]), take_app_len (fixB_len n 4), drop_app_len (fixB_len n 4), leV_fixB4 h]
theorem bodyB_len (x : Im) : (bodyB x).length = 37 + (metaB x).length + (dataB x).length := by
  simp [bodyB, fixB_len, entB_len]; omega
theorem encB_len (x : Im) : (encB x).length = 41 + (metaB x).length + (dataB x).length := by
  unfold encB sealB; rw [List.length_append, bodyB_len, fixB_len]; omega
theorem openR_seal (b : List UInt8) : openR (sealB b) = (b, 0) := by
  unfold openR sealB
  have hl : (b ++ fixB (sumN b) 4).length = b.length + 4 := by simp [fixB_len]
  rw [hl, if_neg (by omega), show b.length + 4 - 4 = b.length by omega, drop_app_len rfl, take_app_len rfl, leV_fixB4 (sumN_lt b), if_neg (by simp)]
theorem openR_inv {s al : List UInt8} (h : openR s = (al, 0)) : s = sealB al := by
  unfold openR at h
  split at h
  · simp at h
  rename_i h4
  split at h
  · simp at h
  rename_i h5
  simp only [ne_eq, Decidable.not_not] at h5
  simp only [Prod.mk.injEq, and_true] at h
  unfold sealB
  rw [← h, ← h5]
  have := fixB_leV (s.drop (s.length - 4))
  rw [show (s.drop (s.length - 4)).length = 4 by simp; omega] at this
  rw [this, List.take_append_drop]
/-! ### forward -/
theorem encB_head (x : Im) : ∃ r, encB x = [67, 82, 89, 79] ++ (4 :: UInt8.ofNat x.k.toNat :: (fixB (41 + (metaB x).length + (dataB x).length) 4 ++ r)) := by
  refine ⟨([2] ++ (entB 1 37 (metaB x) ++ (entB 2 (37 + (metaB x).length) (dataB x) ++ (metaB x ++ dataB x)))) ++ fixB (sumN (bodyB x)) 4, ?_⟩
  show bodyB x ++ fixB (sumN (bodyB x)) 4 = _
  generalize fixB (sumN (bodyB x)) 4 = q
  simp [bodyB]
theorem hd0_enc {x : Im} (hl : 41 + (metaB x).length + (dataB x).length ≤ 65536) : hd0 (encB x) = 0 := by
  obtain ⟨r, hr⟩ := encB_head x
  have hlen := encB_len x
  generalize 41 + (metaB x).length + (dataB x).length = n at *
  generalize encB x = s at *
  subst hr
  unfold hd0
  rw [take_app_len (show ([67, 82, 89, 79] : List UInt8).length = 4 from rfl), if_neg (by simp [magic]), if_neg (by omega), drop_app_len (show ([67, 82, 89, 79] : List UInt8).length = 4 from rfl)]
  simp only
  rw [if_neg (by decide), if_neg (by simp [fixB_len]), take_app_len (fixB_len n 4), leV_fixB4 (by omega), if_neg (by omega), if_neg (by omega)]
theorem rowR_ent {id at_ : Nat} (hi : id < 256) (ha : at_ < 4294967296) {s : List UInt8} (hs : s.length < 4294967296) (r : List UInt8) : rowR ⟨entB id at_ s ++ r, 0⟩ = ⟨⟨r, 0⟩, UInt8.ofNat id, at_, s.length, sumN s⟩ := by
  unfold rowR entB
  rw [List.cons_append, byteR_cons]
  simp only [List.append_assoc]
  rw [wholeR4_fix ha]
  simp only
  rw [wholeR4_fix hs]
  simp only
  rw [wholeR4_fix (sumN_lt s)]
theorem sctR_body {x : Im} (hl : 41 + (metaB x).length + (dataB x).length ≤ 65536) : sctR (bodyB x) (bytesR ⟨bodyB x, 0⟩ 10).1 = (0, [(1, metaB x), (2, dataB x)]) := by
  have hlen := bodyB_len x
  obtain ⟨p, hp, hpl⟩ : ∃ p, bodyB x = p ++ (2 :: (entB 1 37 (metaB x) ++ (entB 2 (37 + (metaB x).length) (dataB x) ++ (metaB x ++ dataB x)))) ∧ p.length = 10 := by
    refine ⟨[67, 82, 89, 79] ++ ([4, UInt8.ofNat x.k.toNat] ++ fixB (41 + (metaB x).length + (dataB x).length) 4), ?_, by simp [fixB_len]⟩
    unfold bodyB; simp only [List.append_assoc, List.cons_append, List.nil_append]
  have hbt : (bytesR ⟨bodyB x, 0⟩ 10).1 = ⟨(bodyB x).drop 10, 0⟩ := by
    unfold bytesR; rw [if_neg (by simp), if_neg (by simp; omega)]; rfl
  have hm : partR (bodyB x) 37 (metaB x).length = metaB x := by
    obtain ⟨q, hq, hql⟩ : ∃ q, bodyB x = q ++ (metaB x ++ dataB x) ∧ q.length = 37 := by
      refine ⟨p ++ (2 :: (entB 1 37 (metaB x) ++ entB 2 (37 + (metaB x).length) (dataB x))), ?_, by simp [hpl, entB_len]⟩
      rw [hp]; simp only [List.append_assoc, List.cons_append]
    unfold partR
    rw [hq, ← List.append_assoc, take_app_len (by simp [hql]), drop_app_len hql]
  have hd : partR (bodyB x) (37 + (metaB x).length) (dataB x).length = dataB x := by
    obtain ⟨q, hq, hql⟩ : ∃ q, bodyB x = q ++ dataB x ∧ q.length = 37 + (metaB x).length := by
      refine ⟨p ++ (2 :: (entB 1 37 (metaB x) ++ (entB 2 (37 + (metaB x).length) (dataB x) ++ metaB x))), ?_, by simp [hpl, entB_len]; omega⟩
      rw [hp]; simp only [List.append_assoc, List.cons_append]
    unfold partR
    rw [List.take_of_length_le (by omega), hq, drop_app_len hql]
  rw [hbt, hp, drop_app_len hpl, ← hp]
  unfold sctR
  rw [byteR_cons]
  simp only
  rw [if_neg (by simp), if_neg (by decide)]
  rw [rowsR_succ, rowR_ent (by omega) (by omega) (by omega)]
  have e1 : rowE (bodyB x) ⟨⟨entB 2 (37 + (metaB x).length) (dataB x) ++ (metaB x ++ dataB x), 0⟩, UInt8.ofNat 1, 37, (metaB x).length, sumN (metaB x)⟩ 0 37 = 0 := by
    unfold rowE
    simp only
    rw [if_neg (by simp), if_neg (by simp), if_neg (by omega), hm, if_neg (by simp)]
  rw [e1, if_neg (by simp)]
  simp only
  rw [rowsR_succ, rowR_ent (by omega) (by omega) (by omega)]
  have e2 : rowE (bodyB x) ⟨⟨metaB x ++ dataB x, 0⟩, UInt8.ofNat 2, 37 + (metaB x).length, (dataB x).length, sumN (dataB x)⟩ 1 (37 + (metaB x).length) = 0 := by
    unfold rowE
    simp only
    rw [if_neg (by simp), if_neg (by simp), if_neg (by omega), hd, if_neg (by simp)]
  rw [e2, if_neg (by simp)]
  unfold rowsR
  simp only [hm, hd]
  rw [if_neg (by omega)]
  rfl
theorem kindF_enc (x : Im) : kindF (encB x) = ((UInt8.ofNat x.k.toNat).toNat : Int) := by
  obtain ⟨r, hr⟩ := encB_head x
  unfold kindF
  rw [hr]; rfl
theorem decR_enc {x : Im} (h : x.rd) (hc : checkI x = 0) (hl : 41 + (metaB x).length + (dataB x).length ≤ 65536) : decR (encB x) = (0, x) := by
  have hk := h.k
  have ho : openR (encB x) = (bodyB x, 0) := openR_seal _
  have hkf : kindF (encB x) = x.k := by rw [kindF_enc, ofNat_toNat' (by omega)]; omega
  unfold decR
  rw [hd0_enc hl, ho, hkf]
  simp only [sctR_body hl, readS_of h, hc]
  simp
end Go.AM

/-
Layer 20, plain: what is read has these bytes alone.
-/
namespace Go.AM
set_option linter.unusedSimpArgs false
set_option linter.unusedVariables false
theorem byteR_inv {x : Oc} (h : (byteR x).1.e = 0) : x.e = 0 ∧ x.s = (byteR x).2 :: (byteR x).1.s := by
  by_cases he : x.e = 0
  · refine ⟨he, ?_⟩
    obtain ⟨s, e⟩ := x
    simp only at he
    subst he
    cases s with
    | nil => rw [byteR_nil] at h; simp [failR] at h
    | cons c s => rw [byteR_cons]
  · rw [byteR_err he] at h; exact absurd h he
theorem wholeR4_inv {x : Oc} (h : (wholeR x 4).1.e = 0) : x.e = 0 ∧ x.s = fixB (wholeR x 4).2 4 ++ (wholeR x 4).1.s := by
  by_cases he : x.e = 0
  · refine ⟨he, ?_⟩
    obtain ⟨s, e⟩ := x
    simp only at he
    subst he
    by_cases hl : s.length < 4
    · rw [wholeR4_short hl] at h; simp [failR] at h
    · rw [wholeR4_long hl]
      have := fixB_leV (s.take 4)
      rw [show (s.take 4).length = 4 by simp; omega] at this
      simp only [this, List.take_append_drop]
  · rw [wholeR_err he] at h; exact absurd h he
theorem rowR_inv {x : Oc} (h : (rowR x).x.e = 0) : x.e = 0 ∧ x.s = (rowR x).id :: (fixB (rowR x).at_ 4 ++ (fixB (rowR x).sz 4 ++ (fixB (rowR x).sm 4 ++ (rowR x).x.s))) := by
  obtain ⟨h1, h2⟩ := wholeR4_inv (x := (wholeR (wholeR (byteR x).1 4).1 4).1) h
  obtain ⟨h3, h4⟩ := wholeR4_inv h1
  obtain ⟨h5, h6⟩ := wholeR4_inv h3
  obtain ⟨h7, h8⟩ := byteR_inv h5
  refine ⟨h7, ?_⟩
  show x.s = (byteR x).2 :: (fixB (wholeR (byteR x).1 4).2 4 ++ (fixB (wholeR (wholeR (byteR x).1 4).1 4).2 4 ++ (fixB (wholeR (wholeR (wholeR (byteR x).1 4).1 4).1 4).2 4 ++ (wholeR (wholeR (wholeR (byteR x).1 4).1 4).1 4).1.s)))
  rw [h8]; congr 1; rw [h6]; congr 1; rw [h4]; congr 1
theorem rowE_inv {al : List UInt8} {r : Rw} {k next : Nat} (h : rowE al r k next = 0) : r.x.e = 0 ∧ r.id.toNat = k + 1 ∧ r.at_ = next ∧ next + r.sz ≤ al.length ∧ sumN (partR al next r.sz) = r.sm := by
  unfold rowE at h
  split at h
  · contradiction
  rename_i h1
  split at h
  · simp at h
  rename_i h2
  split at h
  · simp at h
  rename_i h3
  split at h
  · simp at h
  rename_i h4
  simp only [ne_eq, Decidable.not_not, not_or] at h1 h2 h4
  obtain ⟨h2, h5⟩ := h2
  rw [h5] at h3 h4
  exact ⟨h1, h2, h5, by omega, h4⟩
theorem ofNat_of {c : UInt8} {n : Nat} (h : c.toNat = n) : c = UInt8.ofNat n := by rw [← h]; simp
theorem partR_len {al : List UInt8} {a z : Nat} (h : a + z ≤ al.length) : (partR al a z).length = z := by unfold partR; simp; omega
theorem row_ent {al : List UInt8} {x : Oc} {k next : Nat} (hk : k < 255) (h : rowE al (rowR x) k next = 0) :
    x.e = 0 ∧ x.s = entB (k + 1) next (partR al next (rowR x).sz) ++ (rowR x).x.s ∧ (partR al next (rowR x).sz).length = (rowR x).sz ∧ next + (rowR x).sz ≤ al.length := by
  obtain ⟨h1, h2, h3, h4, h5⟩ := rowE_inv h
  obtain ⟨h6, h7⟩ := rowR_inv h1
  have hl := partR_len h4
  refine ⟨h6, ?_, hl, h4⟩
  rw [h7, ofNat_of h2, h3, ← h5]
  unfold entB
  rw [hl]
  simp
theorem sctR_inv {al : List UInt8} {x : Oc} (h : (sctR al x).1 = 0) : ∃ mt dt r, (sctR al x).2 = [(1, mt), (2, dt)] ∧ x.e = 0 ∧ x.s = 2 :: (entB 1 37 mt ++ (entB 2 (37 + mt.length) dt ++ r)) ∧ al.length = 37 + mt.length + dt.length ∧ al.drop 37 = mt ++ dt := by
  unfold sctR at h ⊢
  split at h
  · contradiction
  rename_i h1
  rw [if_neg h1]
  split at h
  · simp at h
  rename_i h2
  rw [if_neg h2]
  simp only [ne_eq, Decidable.not_not] at h1 h2
  obtain ⟨a1, a2⟩ := byteR_inv h1
  rw [rowsR_succ] at h ⊢
  split at h
  · contradiction
  rename_i h3
  rw [if_neg h3]
  simp only [ne_eq, Decidable.not_not] at h3
  rw [rowsR_succ] at h ⊢
  split at h
  · contradiction
  rename_i h4
  rw [if_neg h4]
  simp only [ne_eq, Decidable.not_not] at h4
  obtain ⟨b1, b2, b3, b4⟩ := row_ent (by omega) h3
  obtain ⟨c1, c2, c3, c4⟩ := row_ent (by omega) h4
  obtain ⟨-, d1, -, -, -⟩ := rowE_inv h3
  obtain ⟨-, d2, -, -, -⟩ := rowE_inv h4
  unfold rowsR at h ⊢
  simp only at h ⊢
  by_cases h5 : 37 + (rowR (byteR x).1).sz + (rowR (rowR (byteR x).1).x).sz = al.length
  · refine ⟨partR al 37 (rowR (byteR x).1).sz, partR al (37 + (rowR (byteR x).1).sz) (rowR (rowR (byteR x).1).x).sz, (rowR (rowR (byteR x).1).x).x.s, by rw [d1, d2]; rfl, a1, ?_, by rw [b3, c3]; omega, ?_⟩
    · rw [a2, ofNat_of h2, b2, c2, b3]; rfl
    · unfold partR
      rw [h5, List.take_length]
      have := List.take_append_drop (37 + (rowR (byteR x).1).sz) al
      conv => lhs; rw [← this]
      rw [List.drop_append_of_le_length (by simp; omega)]
  · rw [if_pos h5] at h; simp at h
theorem hd0_inv {s : List UInt8} (h : hd0 s = 0) : ∃ k r, s = [67, 82, 89, 79] ++ (4 :: k :: (fixB s.length 4 ++ r)) ∧ s.length ≤ 65536 := by
  unfold hd0 at h
  split at h
  · simp at h
  rename_i h1
  split at h
  · simp at h
  rename_i h2
  simp only [ne_eq, Decidable.not_not] at h1
  have hs := List.take_append_drop 4 s
  rw [h1] at hs
  have hl : (s.drop 4).length = s.length - 4 := by simp
  generalize s.drop 4 = r at *
  cases r with
  | nil => simp at h
  | cons v r =>
    simp only at h
    split at h
    · simp at h
    rename_i hv
    simp only [ne_eq, Decidable.not_not] at hv
    cases r with
    | nil => simp at h
    | cons k r =>
      simp only at h
      split at h
      · simp at h
      rename_i h4
      split at h
      · simp at h
      rename_i h5
      split at h
      · simp at h
      rename_i h6
      have e : leV (r.take 4) = s.length := by omega
      have := fixB_leV (r.take 4)
      rw [show (r.take 4).length = 4 by simp; omega, e] at this
      refine ⟨k, r.drop 4, ?_, by omega⟩
      rw [this, List.take_append_drop, ← hs, ofNat_of hv]; rfl
theorem decR_inv {s : List UInt8} (h : (decR s).1 = 0) : (decR s).2.rd ∧ checkI (decR s).2 = 0 ∧ s = encB (decR s).2 ∧ s.length ≤ 65536 := by
  unfold decR at h ⊢
  by_cases h0 : hd0 s = 0
  case neg => rw [if_pos h0] at h; exact absurd h h0
  rw [if_neg (by simpa using h0)] at h ⊢
  by_cases h1 : (openR s).2 = 0
  case neg => rw [if_pos h1] at h; exact absurd h h1
  rw [if_neg (by simpa using h1)] at h ⊢
  have hop : openR s = ((openR s).1, 0) := by rw [← h1]
  have hs := openR_inv hop
  generalize (openR s).1 = al at *
  by_cases h2 : (sctR al (bytesR ⟨al, 0⟩ 10).1).1 = 0
  case neg => rw [if_pos h2] at h; exact absurd h h2
  rw [if_neg (by simpa using h2)] at h ⊢
  obtain ⟨mt, dt, r, a1, a2, a3, a4, a5⟩ := sctR_inv h2
  rw [a1] at h ⊢
  by_cases h3 : (readS (kindF s) [(1, mt), (2, dt)]).1 = 0
  case neg => rw [if_pos h3] at h; exact absurd h h3
  rw [if_neg (by simpa using h3)] at h ⊢
  by_cases h4 : checkI (readS (kindF s) [(1, mt), (2, dt)]).2 = 0
  case neg => rw [if_pos h4] at h; exact absurd h h4
  rw [if_neg (by simpa using h4)]
  simp only
  have hk : ¬ (kindF s < 1 ∨ 4 < kindF s) := by
    intro hk
    have : readS (kindF s) [(1, mt), (2, dt)] = (6, zeroI) := if_pos hk
    rw [this] at h3; simp at h3
  have hrs : readS (kindF s) [(1, mt), (2, dt)] = readI (kindF s) mt dt := by unfold readS; rw [if_neg hk]; simp
  rw [hrs] at h3 h4 ⊢
  obtain ⟨b1, b2, b3, b4⟩ := readI_inv (mt := mt) (dt := dt) (k := kindF s) (by omega) h3
  obtain ⟨k, q, c1, c2⟩ := hd0_inv h0
  refine ⟨b1, h4, ?_, c2⟩
  have hsl : s.length = al.length + 4 := by rw [hs]; simp [sealB, fixB_len]
  have hkf : kindF s = k.toNat := by unfold kindF; rw [c1]; rfl
  have hbt : (bytesR ⟨al, 0⟩ 10).1 = ⟨al.drop 10, 0⟩ := by
    unfold bytesR; rw [if_neg (by simp), if_neg (by simp; omega)]; rfl
  rw [hbt] at a3
  simp only at a3
  have h10 : al.take 10 = s.take 10 := by
    rw [hs]; unfold sealB; rw [List.take_append_of_le_length (by omega)]
  have h10' : s.take 10 = [67, 82, 89, 79] ++ (4 :: k :: fixB s.length 4) := by
    conv => lhs; rw [c1]
    have e : [67, 82, 89, 79] ++ (4 :: k :: (fixB s.length 4 ++ q)) = ([67, 82, 89, 79] ++ (4 :: k :: fixB s.length 4)) ++ q := by simp
    rw [e, take_app_len (by simp [fixB_len])]
  have hr : r = mt ++ dt := by
    rw [← a5, show al.drop 37 = (al.drop 10).drop 27 by rw [List.drop_drop], a3]
    have e : 2 :: (entB 1 37 mt ++ (entB 2 (37 + mt.length) dt ++ r)) = (2 :: (entB 1 37 mt ++ entB 2 (37 + mt.length) dt)) ++ r := by simp
    rw [e, drop_app_len (by simp [entB_len])]
  have hal : al = bodyB (readI (kindF s) mt dt).2 := by
    conv => lhs; rw [← List.take_append_drop 10 al, h10, h10', a3, hr]
    unfold bodyB
    rw [b3, b4, b2, hkf, show s.length = 41 + mt.length + dt.length by omega]
    simp
  unfold encB
  rw [← hal]; exact hs
end Go.AM

/-
Layer 2, plain: sealed texts, changed.
-/
namespace Go.AM
set_option linter.unusedSimpArgs false
set_option linter.unusedVariables false
theorem num_bitsB : ∀ s : List UInt8, num (bitsB s) = leV s
  | [] => rfl
  | c :: s => by
    have e : bitsB (c :: s) = bits8 8 c.toNat ++ bitsB s := by simp [bitsB]
    rw [e, num_append, bits8_len, num_bits8 8 c.toNat (u8_lt c), num_bitsB s]; rfl
def reg (s : List UInt8) : Nat := s.foldl stpB 4294967295
theorem reg_eq (s : List UInt8) : reg s = stps (8 * s.length) (leV s ^^^ 4294967295) := by
  unfold reg; rw [← sum_div, num_bitsB]
theorem reg_lt (s : List UInt8) : reg s < 4294967296 := foldB_lt s (by omega)
theorem sumN_reg (s : List UInt8) : sumN s = 4294967295 - reg s := rfl
theorem xor_not {a : Nat} (h : a < 4294967296) : a ^^^ (4294967295 - a) = 4294967295 := by
  have e : 4294967295 - a = a ^^^ 4294967295 := by
    apply Nat.eq_of_testBit_eq
    intro i
    have h1 := Nat.testBit_two_pow_sub_succ (x := a) (n := 32) (by simpa using h) i
    simp at h1
    have h2 := Nat.testBit_two_pow_sub_one 32 i
    simp at h2
    rw [h1, Nat.testBit_xor, h2]
    by_cases hi : i < 32
    · simp [hi]
    · have h3 : 2 ^ 32 ≤ 2 ^ i := Nat.pow_le_pow_right (by omega) (by omega)
      have h4 : a < 2 ^ i := Nat.lt_of_lt_of_le (by simpa using h) h3
      have : a.testBit i = false := Nat.testBit_lt_two_pow h4
      simp [hi, this]
  rw [e, ← Nat.xor_assoc, Nat.xor_self, Nat.zero_xor]
theorem reg_seal (b : List UInt8) : reg (sealB b) = stps 32 4294967295 := by
  have hr := reg_lt b
  have hl : (bitsB (fixB (sumN b) 4)).length = 32 := by rw [bitsB_len, fixB_len]
  unfold sealB
  show (b ++ fixB (sumN b) 4).foldl stpB 4294967295 = _
  rw [List.foldl_append, foldB_feed (fixB (sumN b) 4), feed_all, hl, num_bitsB, leV_fixB4 (sumN_lt b), sumN_reg]
  show stps 32 (reg b ^^^ (4294967295 - reg b)) = _
  rw [xor_not hr]
theorem two_seals {s t : List UInt8} (h : s.length = t.length) (hs : reg s = stps 32 4294967295) (ht : reg t = stps 32 4294967295) : stps (8 * s.length) (leV s ^^^ leV t) = 0 := by
  rw [reg_eq] at hs ht
  rw [← h] at ht
  have e : leV s ^^^ leV t = (leV s ^^^ 4294967295) ^^^ (leV t ^^^ 4294967295) := by
    rw [show (leV s ^^^ 4294967295) ^^^ (leV t ^^^ 4294967295) = (leV s ^^^ leV t) ^^^ (4294967295 ^^^ 4294967295) by ac_rfl, Nat.xor_self, Nat.xor_zero]
  rw [e, stps_xor, hs, ht, Nat.xor_self]
/-! ### steps lose nothing -/
theorem stp1_zero {x : Nat} (hx : x < 4294967296) (h : stp1 x = 0) : x = 0 := by
  unfold stp1 at h
  split at h
  · rename_i ho
    have h1 : (x / 2) = poly := by
      have := congrArg (· ^^^ poly) h
      simp only [Nat.xor_assoc, Nat.xor_self, Nat.xor_zero, Nat.zero_xor] at this
      exact this
    unfold poly at h1; omega
  · omega
theorem stps_zero : ∀ (n : Nat) {x : Nat}, x < 4294967296 → stps n x = 0 → x = 0
  | 0, x, hx, h => h
  | n + 1, x, hx, h => stp1_zero hx (stps_zero n (stp1_lt hx) h)
theorem stps_inj (n : Nat) {x y : Nat} (hx : x < 4294967296) (hy : y < 4294967296) (h : stps n x = stps n y) : x = y := by
  have h1 : stps n (x ^^^ y) = 0 := by rw [stps_xor, h, Nat.xor_self]
  have h2 := stps_zero n (xor_lt32 hx hy) h1
  have := congrArg (· ^^^ y) h2
  simp only [Nat.xor_assoc, Nat.xor_self, Nat.xor_zero, Nat.zero_xor] at this
  exact this
theorem stps_add : ∀ (a b x : Nat), stps (a + b) x = stps b (stps a x)
  | 0, b, x => by simp [stps]
  | a + 1, b, x => by
    rw [show a + 1 + b = (a + b) + 1 by omega]
    simp only [stps]
    exact stps_add a b (stp1 x)
/-- A burst. -/
theorem burst {N a B : Nat} (ha : a ≤ N) (hB : B < 4294967296) (h : stps N (2 ^ a * B) = 0) : B = 0 := by
  rw [show N = a + (N - a) by omega, stps_add, stps_shift] at h
  exact stps_zero _ hB h
/-- A power. -/
theorem stps_two_pow {N i : Nat} (h : i ≤ N) : stps N (2 ^ i) = stps (N - i) 1 := by
  have := stps_shift i 1
  rw [Nat.mul_one] at this
  rw [show N = i + (N - i) by omega, stps_add, this]
  congr 1; omega
theorem two_flips {N i j : Nat} (hN : N ≤ 11700) (hi : i < N) (hj : j < N) (h : stps N (2 ^ i ^^^ 2 ^ j) = 0) : i = j := by
  have key : ∀ i j, i < j → j < N → stps N (2 ^ i ^^^ 2 ^ j) ≠ 0 := by
    intro i j hij hj h
    rw [stps_xor, stps_two_pow (by omega), stps_two_pow (by omega)] at h
    have e : stps (N - i) 1 = stps (N - j) (stps (j - i) 1) := by rw [← stps_add]; congr 1; omega
    rw [e, ← stps_xor] at h
    have h2 := stps_zero _ (xor_lt32 (stps_lt _ (by omega)) (by omega)) h
    have h3 : stps (j - i) 1 = stps 0 1 := by
      have := congrArg (· ^^^ 1) h2
      simp only [Nat.xor_assoc, Nat.xor_self, Nat.xor_zero, Nat.zero_xor] at this
      exact this
    exact pow_ne (i := j - i) (j := 0) (by omega) (by omega) (by omega) (by rw [h3])
  rcases Nat.lt_trichotomy i j with h1 | h1 | h1
  · exact absurd h (key i j h1 hj)
  · exact h1
  · rw [Nat.xor_comm] at h; exact absurd h (key j i h1 hi)
theorem three_flips {N i j k : Nat} (hN : N ≤ 11700) (hij : i < j) (hjk : j < k) (hk : k < N) : stps N (2 ^ i ^^^ 2 ^ j ^^^ 2 ^ k) ≠ 0 := by
  intro h
  rw [stps_xor, stps_xor, stps_two_pow (by omega), stps_two_pow (by omega), stps_two_pow (by omega)] at h
  have e1 : stps (N - i) 1 = stps (N - k) (stps (k - i) 1) := by rw [← stps_add]; congr 1; omega
  have e2 : stps (N - j) 1 = stps (N - k) (stps (k - j) 1) := by rw [← stps_add]; congr 1; omega
  rw [e1, e2, ← stps_xor, ← stps_xor] at h
  have h2 := stps_zero _ (xor_lt32 (xor_lt32 (stps_lt _ (by omega)) (stps_lt _ (by omega))) (by omega)) h
  have h3 : stps (k - i) 1 ^^^ stps (k - j) 1 = 1 := by
    have := congrArg (· ^^^ 1) h2
    simp only [Nat.xor_assoc, Nat.xor_self, Nat.xor_zero, Nat.zero_xor] at this
    exact this
  have h4 : stps (k - i) 1 / 2 = stps (k - j) 1 / 2 := by
    have h5 : (stps (k - i) 1 ^^^ stps (k - j) 1) / 2 = 0 := by rw [h3]
    rw [xor_half] at h5
    have := congrArg (· ^^^ (stps (k - j) 1 / 2)) h5
    simp only [Nat.xor_assoc, Nat.xor_self, Nat.xor_zero, Nat.zero_xor] at this
    exact this
  exact pow_ne (i := k - i) (j := k - j) (by omega) (by omega) (by omega) h4
theorem pow2_ne (N i : Nat) (hi : i < N) : stps N (2 ^ i) ≠ 0 := by
  intro h
  have := burst (N := N) (a := i) (B := 1) (by omega) (by omega) (by simpa using h)
  omega
/-- Up to three flips. -/
theorem flips0 {N : Nat} (hN : N ≤ 11700) (l : List Nat) (hl : l.length ≤ 3) (hb : ∀ i ∈ l, i < N) (h : stps N (l.foldl (fun a i => a ^^^ 2 ^ i) 0) = 0) : l.foldl (fun a i => a ^^^ 2 ^ i) 0 = 0 := by
  match l, hl, hb, h with
  | [], _, _, _ => rfl
  | [i], _, hb, h =>
    simp only [List.foldl_cons, List.foldl_nil, Nat.zero_xor] at h
    exact absurd h (pow2_ne N i (hb i (by simp)))
  | [i, j], _, hb, h =>
    simp only [List.foldl_cons, List.foldl_nil, Nat.zero_xor] at h ⊢
    have := two_flips hN (hb i (by simp)) (hb j (by simp)) h
    rw [this, Nat.xor_self]
  | [i, j, k], _, hb, h =>
    simp only [List.foldl_cons, List.foldl_nil, Nat.zero_xor] at h ⊢
    have bi := hb i (by simp)
    have bj := hb j (by simp)
    have bk := hb k (by simp)
    exfalso
    by_cases e1 : i = j
    · rw [e1, Nat.xor_self, Nat.zero_xor] at h; exact pow2_ne N k bk h
    by_cases e2 : i = k
    · rw [e2, show 2 ^ k ^^^ 2 ^ j ^^^ 2 ^ k = 2 ^ j ^^^ (2 ^ k ^^^ 2 ^ k) by ac_rfl, Nat.xor_self, Nat.xor_zero] at h; exact pow2_ne N j bj h
    by_cases e3 : j = k
    · rw [e3, Nat.xor_assoc, Nat.xor_self, Nat.xor_zero] at h; exact pow2_ne N i bi h
    rcases Nat.lt_or_gt_of_ne e1 with h1 | h1 <;> rcases Nat.lt_or_gt_of_ne e2 with h2 | h2 <;> rcases Nat.lt_or_gt_of_ne e3 with h3 | h3
    · exact three_flips hN h1 h3 bk h
    · exact three_flips hN h2 h3 bj (by rw [show 2 ^ i ^^^ 2 ^ k ^^^ 2 ^ j = 2 ^ i ^^^ 2 ^ j ^^^ 2 ^ k by ac_rfl]; exact h)
    · omega
    · exact three_flips hN h2 h1 bj (by rw [show 2 ^ k ^^^ 2 ^ i ^^^ 2 ^ j = 2 ^ i ^^^ 2 ^ j ^^^ 2 ^ k by ac_rfl]; exact h)
    · exact three_flips hN h1 h2 bk (by rw [show 2 ^ j ^^^ 2 ^ i ^^^ 2 ^ k = 2 ^ i ^^^ 2 ^ j ^^^ 2 ^ k by ac_rfl]; exact h)
    · omega
    · exact three_flips hN h3 h2 bi (by rw [show 2 ^ j ^^^ 2 ^ k ^^^ 2 ^ i = 2 ^ i ^^^ 2 ^ j ^^^ 2 ^ k by ac_rfl]; exact h)
    · exact three_flips hN h3 h1 bi (by rw [show 2 ^ k ^^^ 2 ^ j ^^^ 2 ^ i = 2 ^ i ^^^ 2 ^ j ^^^ 2 ^ k by ac_rfl]; exact h)
/-! ### a byte's bits -/
theorem leV_cons_xor (c : UInt8) (l : List UInt8) : leV (c :: l) = c.toNat ^^^ (2 ^ 8 * leV l) := by
  have hc := u8_lt c
  have h := split_low 8 (leV (c :: l))
  have e1 : leV (c :: l) / 2 ^ 8 = leV l := by simp only [leV]; omega
  have e2 : leV (c :: l) % 2 ^ 8 = c.toNat := by simp only [leV]; omega
  rw [e1, e2] at h
  rw [h, Nat.xor_comm]
theorem leV_set : ∀ (l : List UInt8) (j : Nat) (c : UInt8) (m : Nat), (∃ d, l[j]? = some d ∧ c.toNat = d.toNat ^^^ m) → leV (l.set j c) = leV l ^^^ (2 ^ (8 * j) * m)
  | [], j, c, m, h => by obtain ⟨d, h1, h2⟩ := h; simp at h1
  | d :: l, 0, c, m, h => by
    obtain ⟨e, h1, h2⟩ := h
    simp at h1; subst h1
    rw [List.set_cons_zero, leV_cons_xor, leV_cons_xor, h2]
    simp only [Nat.mul_zero, Nat.pow_zero, Nat.one_mul]
    ac_rfl
  | d :: l, j + 1, c, m, h => by
    obtain ⟨e, h1, h2⟩ := h
    rw [List.set_cons_succ, leV_cons_xor, leV_cons_xor, leV_set l j c m ⟨e, by simpa using h1, h2⟩, ← mul_xor, ← Nat.mul_assoc, ← Nat.pow_add, Nat.xor_assoc, show 8 + 8 * j = 8 * (j + 1) by omega]
theorem leV_inj : ∀ (a b : List UInt8), a.length = b.length → leV a = leV b → a = b
  | [], [], _, _ => rfl
  | [], _ :: _, h, _ => by simp at h
  | _ :: _, [], h, _ => by simp at h
  | c :: a, d :: b, h, h2 => by
    have hc := u8_lt c
    have hd := u8_lt d
    simp only [leV] at h2
    have e1 : c.toNat = d.toNat := by omega
    have e2 : leV a = leV b := by omega
    rw [leV_inj a b (by simpa using h) e2, UInt8.toNat_inj.1 e1]
end Go.AM

/-
Layer 20, plain: a file's parts by their places.
-/
namespace Go.AM
set_option linter.unusedSimpArgs false
set_option linter.unusedVariables false
def sub_ (s : List UInt8) (i j : Nat) : List UInt8 := (s.take j).drop i
theorem hd0_ix {s : List UInt8} (h1 : s.take 4 = magic) (h2 : ¬ 65536 < s.length) : hd0 s =
    if s.length = 4 then 1 else if ((s[4]?).getD 0).toNat ≠ 4 then 8 else if s.length < 10 then 1 else
    if s.length < leV (sub_ s 6 10) then 1 else if leV (sub_ s 6 10) < s.length then 2 else 0 := by
  have h4 := magic_len h1
  unfold hd0
  rw [if_neg (by simpa using h1), if_neg h2]
  have hl : (s.drop 4).length = s.length - 4 := by simp
  have e4 : s[4]? = (s.drop 4)[0]? := by rw [List.getElem?_drop]
  have e6 : sub_ s 6 10 = ((s.drop 4).drop 2).take 4 := by unfold sub_; rw [List.drop_drop, List.drop_take]
  rw [e4, e6]
  generalize s.drop 4 = r at *
  cases r with
  | nil => simp at hl; rw [if_pos (by omega)]
  | cons v r =>
    simp only [List.length_cons] at hl
    rw [if_neg (by omega)]
    simp only [List.getElem?_cons_zero, Option.getD_some]
    split
    · rfl
    cases r with
    | nil => simp at hl; simp only; rw [if_pos (by omega)]
    | cons k r =>
      simp only [List.length_cons] at hl
      simp only [List.drop_succ_cons, List.drop_zero]
      by_cases hr : r.length < 4
      · rw [if_pos hr, if_pos (by omega)]
      · rw [if_neg hr, if_neg (show ¬ s.length < 10 by omega)]
theorem row_short {r : List UInt8} (h : r.length < 13) : (rowR ⟨r, 0⟩).x.e = 1 := by
  unfold rowR
  cases r with
  | nil => rw [byteR_nil]; simp only; rw [wholeR_fail (by decide)]; simp only; rw [wholeR_fail (by decide)]; simp only; rw [wholeR_fail (by decide)]; rfl
  | cons c r =>
    rw [byteR_cons]
    simp only
    by_cases h1 : r.length < 4
    · rw [wholeR4_short h1]; simp only; rw [wholeR_fail (by decide)]; simp only; rw [wholeR_fail (by decide)]; rfl
    rw [wholeR4_long h1]
    simp only
    by_cases h2 : (r.drop 4).length < 4
    · rw [wholeR4_short h2]; simp only; rw [wholeR_fail (by decide)]; rfl
    rw [wholeR4_long h2]
    simp only
    have h3 : ((r.drop 4).drop 4).length < 4 := by simp at h ⊢; omega
    rw [wholeR4_short h3]; rfl
theorem row_long {r : List UInt8} (h : 13 ≤ r.length) : rowR ⟨r, 0⟩ = ⟨⟨r.drop 13, 0⟩, (r[0]?).getD 0, leV (sub_ r 1 5), leV (sub_ r 5 9), leV (sub_ r 9 13)⟩ := by
  unfold rowR sub_
  cases r with
  | nil => simp at h
  | cons c r =>
    simp at h
    rw [byteR_cons]
    simp only
    rw [wholeR4_long (by omega)]
    simp only
    rw [wholeR4_long (by simp; omega)]
    simp only
    rw [wholeR4_long (by simp; omega)]
    simp [List.drop_take]
/-- The sections by their places. -/
def rowsX (al : List UInt8) : Nat → Nat → Nat → List (Int × List UInt8) → Int × List (Int × List UInt8)
  | 0, k, next, l => (if next ≠ al.length then 2 else 0, l)
  | n + 1, k, next, l =>
    if al.length < 24 + 13 * k then (1, l) else
    if ((al[11 + 13 * k]?).getD 0).toNat ≠ k + 1 ∨ leV (sub_ al (12 + 13 * k) (16 + 13 * k)) ≠ next then (2, l) else
    if al.length < next + leV (sub_ al (16 + 13 * k) (20 + 13 * k)) then (1, l) else
    if sumN (partR al next (leV (sub_ al (16 + 13 * k) (20 + 13 * k)))) ≠ leV (sub_ al (20 + 13 * k) (24 + 13 * k)) then (7, l) else
    rowsX al n (k + 1) (next + leV (sub_ al (16 + 13 * k) (20 + 13 * k))) (l ++ [((k : Int) + 1, partR al next (leV (sub_ al (16 + 13 * k) (20 + 13 * k))))])
theorem sub_drop (al : List UInt8) (a i j : Nat) : sub_ (al.drop a) i j = sub_ al (a + i) (a + j) := by
  unfold sub_
  rw [List.drop_take, List.drop_take, List.drop_drop, show a + j - (a + i) = j - i by omega]
theorem rowsR_ix (al : List UInt8) : ∀ (n k next : Nat) (l), rowsR al n k ⟨al.drop (11 + 13 * k), 0⟩ next l = rowsX al n k next l
  | 0, k, next, l => rfl
  | n + 1, k, next, l => by
    rw [rowsR_succ]
    unfold rowsX
    by_cases h1 : al.length < 24 + 13 * k
    · have := row_short (r := al.drop (11 + 13 * k)) (by simp; omega)
      unfold rowE
      rw [if_pos h1, this]; simp
    rw [if_neg h1]
    have hrow := row_long (r := al.drop (11 + 13 * k)) (by simp; omega)
    rw [hrow]
    simp only [sub_drop, List.drop_drop, List.getElem?_drop, Nat.add_zero]
    unfold rowE
    simp only [ne_eq, not_true_eq_false, if_false]
    rw [show 11 + 13 * k + 1 = 12 + 13 * k by omega, show 11 + 13 * k + 5 = 16 + 13 * k by omega, show 11 + 13 * k + 9 = 20 + 13 * k by omega, show 11 + 13 * k + 13 = 24 + 13 * k by omega]
    have ih := rowsR_ix al n (k + 1)
    rw [show 11 + 13 * (k + 1) = 24 + 13 * k by omega] at ih
    generalize leV (sub_ al (12 + 13 * k) (16 + 13 * k)) = A
    generalize leV (sub_ al (16 + 13 * k) (20 + 13 * k)) = Z
    generalize leV (sub_ al (20 + 13 * k) (24 + 13 * k)) = M
    generalize hid : (al[11 + 13 * k]?).getD 0 = c
    by_cases h2 : ¬ c.toNat = k + 1 ∨ ¬ A = next
    · rw [if_pos h2, if_pos h2]; simp
    rw [if_neg h2, if_neg h2]
    simp only [not_or, Decidable.not_not] at h2
    obtain ⟨h2, rfl⟩ := h2
    by_cases h3 : al.length < A + Z
    · rw [if_pos h3, if_pos h3]; simp
    rw [if_neg h3, if_neg h3]
    by_cases h4 : sumN (partR al A Z) = M
    · have h5 : (¬ sumN (partR al A Z) = M) = False := by simp [h4]
      simp only [h5, if_false, not_true_eq_false]
      rw [ih, h2]; simp
    · have h5 : (¬ sumN (partR al A Z) = M) = True := by simp [h4]
      simp only [h5, if_true]
      simp
theorem sctR_ix (al : List UInt8) : sctR al (bytesR ⟨al, 0⟩ 10).1 = if al.length < 11 then (1, []) else if ((al[10]?).getD 0).toNat ≠ 2 then (2, []) else rowsX al 2 0 37 [] := by
  by_cases h1 : al.length < 10
  · have : bytesR ⟨al, 0⟩ 10 = (failR 1, []) := by
      unfold bytesR; rw [if_neg (by simp), if_pos (by simp; omega)]
    rw [this, if_pos (by omega)]
    unfold sctR
    simp only
    rw [byteR_fail (by decide)]; rfl
  have hb : bytesR ⟨al, 0⟩ 10 = (⟨al.drop 10, 0⟩, al.take 10) := by
    unfold bytesR; rw [if_neg (by simp), if_neg (by simp; omega)]; rfl
  rw [hb]
  simp only
  have e10 : al[10]? = (al.drop 10)[0]? := by rw [List.getElem?_drop]
  have e11 : al.drop 11 = (al.drop 10).drop 1 := by rw [List.drop_drop]
  have hl : (al.drop 10).length = al.length - 10 := by simp
  have hix := rowsR_ix al 2 0 37 []
  rw [show 11 + 13 * 0 = 11 by omega, e11] at hix
  rw [e10]
  unfold sctR
  generalize al.drop 10 = r at *
  cases r with
  | nil =>
    simp at hl
    rw [byteR_nil, if_pos (show al.length < 11 by omega)]; rfl
  | cons c r =>
    simp at hl
    rw [byteR_cons, if_neg (show ¬ al.length < 11 by omega)]
    simp only [ne_eq, not_true_eq_false, if_false, List.getElem?_cons_zero, Option.getD_some]
    simp only [List.drop_succ_cons, List.drop_zero] at hix
    rw [hix]
end Go.AM

/-
Layer 20, the reference: a file, read.
-/
namespace Go.AM
set_option linter.unusedSimpArgs false
set_option linter.unusedVariables false
theorem c_ref20_number (l : List UInt8) (hl : l.length = 4) (sg) : LL.call n_c_ref20_number [.s (bs l)] sg sg.length = some (.i .i64 (leV l), sg, sg.length) := by
  refine wp_call e_c_ref20_number rfl ?_
  match l, hl with
  | [a, b, c, d], _ =>
    have ha := u8_lt a
    have hb := u8_lt b
    have hc := u8_lt c
    have hd := u8_lt d
    have w1 : ∀ x : UInt8, IntKind.i64.wrap (x.toNat : Int) = x.toNat := fun x => wrap64 (by have := u8_lt x; omega)
    have w2 : IntKind.i64.wrap (256 * (b.toNat : Int)) = 256 * b.toNat := wrap64 (by omega)
    have w3 : IntKind.i64.wrap (65536 * (c.toNat : Int)) = 65536 * c.toNat := wrap64 (by omega)
    have w4 : IntKind.i64.wrap (16777216 * (d.toNat : Int)) = 16777216 * d.toNat := wrap64 (by omega)
    have w5 : IntKind.i64.wrap ((a.toNat : Int) + 256 * b.toNat) = (a.toNat : Int) + 256 * b.toNat := wrap64 (by omega)
    have w6 : IntKind.i64.wrap ((a.toNat : Int) + 256 * b.toNat + 65536 * c.toNat) = (a.toNat : Int) + 256 * b.toNat + 65536 * c.toNat := wrap64 (by omega)
    have w7 : IntKind.i64.wrap ((a.toNat : Int) + 256 * b.toNat + 65536 * c.toNat + 16777216 * d.toNat) = (leV [a, b, c, d] : Int) := by rw [wrap64 (by omega)]; simp [leV]; omega
    simp [F_c_ref20_number, w1, w2, w3, w4, w5, w6, w7]
theorem sbx_len {s : List UInt8} {i j : Nat} (h : i ≤ j) (h2 : j ≤ s.length) : (sub_ s i j).length = j - i := by unfold sub_; simp; omega
theorem sub_sub {s : List UInt8} {a b i j : Nat} (h : a + j ≤ b) : sub_ (sub_ s a b) i j = sub_ s (a + i) (a + j) := by
  unfold sub_
  rw [List.take_drop, List.take_take, List.drop_drop, Nat.min_eq_left h]
set_option maxRecDepth 30000 in
theorem c_ref20_Decode (s : List UInt8) (hs : s.length ≤ 1073741824) (sg) : LL.call n_c_ref20_Decode [.s (bs s)] sg sg.length =
    some (.t [eRmK (if (decR s).1 = 0 then .z else .o) .z (if (decR s).1 = 0 then .z else .o) (decR s).2, .i .i64 (decR s).1], sg, sg.length) := by
  generalize hr : decR s = r
  refine wp_call e_c_ref20_Decode rfl ?_
  unfold decR at hr
  by_cases h1 : s.take 4 = magic
  case neg =>
    have hz : hd0 s = 10 := by unfold hd0; rw [if_pos h1]
    rw [hz, if_pos (by decide)] at hr
    subst hr
    have hb : (s.take 4 == [67, 82, 89, 79]) = false := by simpa [magic] using h1
    by_cases h4 : s.length < 4
    · have h4' : (s.length : Int) < 4 := by omega
      simp [F_c_ref20_Decode, h4, h4', eRmK, zeroI]
    · have h4' : ¬ (s.length : Int) < 4 := by omega
      have h4'' : (4 : Int) ≤ s.length := by omega
      have h4n : 4 ≤ s.length := by omega
      simp [F_c_ref20_Decode, h4, h4', h4'', h4n, hb, bins, eRmK, zeroI]
  have h4 := magic_len h1
  have h4' : ¬ (s.length : Int) < 4 := by omega
  have h4'' : (4 : Int) ≤ s.length := by omega
  have h4n : ¬ s.length < 4 := by omega
  have hm : (s.take 4 == [67, 82, 89, 79]) = true := by rw [h1]; rfl
  by_cases h2 : 65536 < s.length
  case pos =>
    have h2' : (65536 : Int) < s.length := by omega
    have hz : hd0 s = 3 := by unfold hd0; rw [if_neg (by simpa using h1), if_pos h2]
    rw [hz, if_pos (by decide)] at hr
    subst hr
    simp [F_c_ref20_Decode, h4, h4', h4'', h4n, hm, bins, h2, h2', eRmK, zeroI]
  have h2' : ¬ (65536 : Int) < s.length := by omega
  have hx := hd0_ix h1 h2
  rw [hx] at hr
  clear hx
  by_cases h5 : s.length = 4
  case pos =>
    have h5' : ((s.length : Int) == 4) = true := by rw [h5]; rfl
    rw [if_pos h5, if_pos (by decide)] at hr
    subst hr
    simp [F_c_ref20_Decode, h4, h4', h4'', h4n, hm, bins, h2, h2', h5', eRmK, zeroI]
  have h5' : ((s.length : Int) == 4) = false := by simp; omega
  rw [if_neg h5] at hr
  have l5 : 4 < s.length := by omega
  have l5' : (4 : Int) < s.length := by omega
  rw [List.getElem?_eq_getElem l5] at hr
  simp only [Option.getD_some] at hr
  by_cases h6 : s[4].toNat = 4
  case neg =>
    have hb : ((s[4].toNat : Int) != 4) = true := by simp; omega
    rw [if_pos h6, if_pos (by decide)] at hr
    subst hr
    simp [F_c_ref20_Decode, h4, h4', h4'', h4n, hm, bins, h2, h2', h5', l5, l5', hb, eRmK, zeroI]
  have hb6 : ((s[4].toNat : Int) != 4) = false := by simp; omega
  rw [if_neg (show ¬ s[4].toNat ≠ 4 by simpa using h6)] at hr
  by_cases h7 : s.length < 10
  case pos =>
    have h7' : (s.length : Int) < 10 := by omega
    rw [if_pos h7, if_pos (by decide)] at hr
    subst hr
    simp [F_c_ref20_Decode, h4, h4', h4'', h4n, hm, bins, h2, h2', h5', l5, l5', hb6, h7, h7', eRmK, zeroI]
  have h7' : ¬ (s.length : Int) < 10 := by omega
  have l10 : 10 ≤ s.length := by omega
  have l10' : (10 : Int) ≤ s.length := by omega
  rw [if_neg h7] at hr
  have hN := c_ref20_number (sub_ s 6 10) (sbx_len (by omega) l10) sg
  have hsub : (s.take 10).drop 6 = sub_ s 6 10 := rfl
  generalize hsz : leV (sub_ s 6 10) = sz at *
  generalize sub_ s 6 10 = s610 at *
  by_cases h8 : s.length < sz
  case pos =>
    have h8' : (s.length : Int) < sz := by omega
    rw [if_pos h8, if_pos (by decide)] at hr
    subst hr
    simp [F_c_ref20_Decode, h4, h4', h4'', h4n, hm, bins, h2, h2', h5', l5, l5', hb6, h7, h7', l10, l10', hsub, hN, h8, h8', eRmK, zeroI]
  have h8' : ¬ (s.length : Int) < sz := by omega
  rw [if_neg h8] at hr
  by_cases h9 : sz < s.length
  case pos =>
    have h9' : (sz : Int) < s.length := by omega
    rw [if_pos h9, if_pos (by decide)] at hr
    subst hr
    simp [F_c_ref20_Decode, h4, h4', h4'', h4n, hm, bins, h2, h2', h5', l5, l5', hb6, h7, h7', l10, l10', hsub, hN, h8, h8', h9, h9', eRmK, zeroI]
  have h9' : ¬ (sz : Int) < s.length := by omega
  rw [if_neg h9, if_neg (by decide)] at hr
  obtain ⟨n, hn⟩ : ∃ n, s.length = n + 4 := ⟨s.length - 4, by omega⟩
  have w1 : IntKind.i64.wrap ((s.length : Int) - 4) = (n : Int) := by rw [wrap64 (by omega)]; omega
  have n1 : (n : Int) ≤ s.length := by omega
  have n2 : n ≤ s.length := by omega
  have htl : s.take s.length = s := List.take_length
  have hN2 := c_ref20_number (s.drop n) (by simp; omega) sg
  have hSm := c_ref02_Sum (s.take n) (by simp; omega) sg
  have hsmlt := sumN_lt (s.take n)
  have w2 : IntKind.i64.wrap (sumN (s.take n) : Int) = sumN (s.take n) := wrap64 (by omega)
  have hop : openR s = if leV (s.drop n) ≠ sumN (s.take n) then ([], 7) else (s.take n, 0) := by
    unfold openR
    rw [if_neg (by omega), show s.length - 4 = n by omega]
  have hkf : kindF s = ((s[5]?).getD 0).toNat := rfl
  have l6 : 5 < s.length := by omega
  have l6' : (5 : Int) < s.length := by omega
  rw [List.getElem?_eq_getElem l6] at hkf
  simp only [Option.getD_some] at hkf
  by_cases h10 : leV (s.drop n) = sumN (s.take n)
  case neg =>
    have hb : ((leV (s.drop n) : Int) != sumN (s.take n)) = true := by simp; omega
    rw [hop, if_pos h10, if_pos (by decide)] at hr
    subst hr
    simp [F_c_ref20_Decode, h4, h4', h4'', h4n, hm, bins, h2, h2', h5', l5, l5', hb6, h7, h7', l10, l10', hsub, hN, h8, h8', h9, h9', w1, n1, n2, htl, hN2, hSm, w2, hb, eRmK, zeroI]
  have hb10 : ((leV (s.drop n) : Int) != sumN (s.take n)) = false := by simp; omega
  rw [hop, if_neg (show ¬ leV (s.drop n) ≠ sumN (s.take n) by simpa using h10)] at hr
  simp only [ne_eq, not_true_eq_false, if_false] at hr
  have hal : (s.take n).length = n := by simp; omega
  generalize halq : s.take n = al at *
  rw [sctR_ix] at hr
  by_cases h11 : al.length < 11
  case pos =>
    have h11' : (al.length : Int) < 11 := by omega
    rw [if_pos h11, if_pos (by simp)] at hr
    subst hr
    simp [F_c_ref20_Decode, h4, h4', h4'', h4n, hm, bins, h2, h2', h5', l5, l5', hb6, h7, h7', l10, l10', hsub, hN, h8, h8', h9, h9', w1, n1, n2, htl, hN2, halq, hSm, w2, hb10, h11, h11', eRmK, zeroI]
  have h11' : ¬ (al.length : Int) < 11 := by omega
  have l11 : 10 < al.length := by omega
  have l11' : (10 : Int) < al.length := by omega
  rw [if_neg h11, List.getElem?_eq_getElem l11] at hr
  simp only [Option.getD_some] at hr
  by_cases h12 : al[10].toNat = 2
  case neg =>
    have hb : ((al[10].toNat : Int) != 2) = true := by simp; omega
    rw [if_pos h12, if_pos (by simp)] at hr
    subst hr
    simp [F_c_ref20_Decode, h4, h4', h4'', h4n, hm, bins, h2, h2', h5', l5, l5', hb6, h7, h7', l10, l10', hsub, hN, h8, h8', h9, h9', w1, n1, n2, htl, hN2, halq, hSm, w2, hb10, h11, h11', l11, l11', hb, eRmK, zeroI]
  have hb12 : ((al[10].toNat : Int) != 2) = false := by simp; omega
  rw [if_neg (show ¬ al[10].toNat ≠ 2 by simpa using h12)] at hr
  simp [F_c_ref20_Decode, h4, h4', h4'', h4n, hm, bins, h2, h2', h5', l5, l5', hb6, h7, h7', l10, l10', hsub, hN, h8, h8', h9, h9', w1, n1, n2, htl, hN2, halq, hSm, w2, hb10, h11, h11', l11, l11', hb12]
  generalize hX : rowsX al 2 0 37 [] = X at hr
  refine wc_ind (fun a : Nat × Nat × List (Int × List UInt8) => ⟨[(0, .v (.s (bs s))), (2, .q (.ptr 2 0)), (4, .q (.ptr 4 0)), (5, .v (.s (bs al))), (6, .v (.i .i64 a.2.1)), (7, .v (.l .o 1 (a.2.2.map fun p => D.s (bs p.2)))), (8, .v (.i .i64 a.1))], [(2, [.i .i64 0, .i .i64 0, .i .u64 0, .l .o 1 [], .l .o 1 []]), (4, [.i .i64 0, .i .i64 0, .i .u64 0, .l .o 1 [], .l .o 1 []])], sg, sg.length⟩) (fun a => 2 - a.1)
    (fun a => a.1 ≤ 2 ∧ a.2.1 ≤ 2147483648 ∧ (0 < a.1 → a.2.1 ≤ al.length) ∧ X = rowsX al (2 - a.1) a.1 a.2.1 a.2.2 ∧ a.2.2.length = a.1 ∧ (∀ p ∈ a.2.2, p.2.length ≤ al.length) ∧ a.2.2.map (·.1) = (List.range a.1).map fun (i : Nat) => ((i : Int) + 1)) ?_ (0, 37, []) ⟨by simp, by simp, by simp, hX.symm, rfl, by simp, rfl⟩
  clear hX hN hN2 hSm hsub hop hb10 hb6 hb12 h12 h10 hm h1 h2 h5 h5' h6 h7 h7' h8 h8' h9 h9' h4 h4' h4'' h4n
  rintro ⟨k, next, l⟩ ⟨g1, g2, g3, g4, g5, g6, g7⟩ ih
  simp only at g1 g2 g3 g4 g5 g6 g7
  by_cases hk : k < 2
  case neg =>
    have k2 : k = 2 := by omega
    subst k2
    simp
    replace g4 : X = (if next ≠ al.length then 2 else 0, l) := g4
    have g3 := g3 (by omega)
    have hl2 : ∃ a b : List UInt8, l = [(1, a), (2, b)] ∧ a.length ≤ al.length ∧ b.length ≤ al.length := by
      match l, g5, g6, g7 with
      | [a, b], _, g6, g7 =>
        obtain ⟨a1, a2⟩ := a
        obtain ⟨b1, b2⟩ := b
        simp [List.range_succ] at g7
        obtain ⟨rfl, rfl⟩ := g7
        exact ⟨a2, b2, rfl, g6 (1, a2) (by simp), g6 (2, b2) (by simp)⟩
    obtain ⟨mt, dt, rfl, hm1, hd1⟩ := hl2
    by_cases c1 : next = al.length
    case neg =>
      have c1' : next < al.length := by omega
      have c1'' : (next : Int) < al.length := by omega
      rw [if_pos c1] at g4
      subst g4
      rw [if_pos (by simp)] at hr
      subst hr
      simp [c1', c1'', eRmK, zeroI]
    have c1' : ¬ next < al.length := by omega
    have c1'' : ¬ (next : Int) < al.length := by omega
    rw [if_neg (show ¬ next ≠ al.length by simpa using c1)] at g4
    subst g4
    simp only [ne_eq, not_true_eq_false, if_false] at hr
    have hu := u8_lt s[5]
    by_cases c2 : kindF s < 1 ∨ 4 < kindF s
    case pos =>
      have hz : readS (kindF s) [(1, mt), (2, dt)] = (6, zeroI) := if_pos c2
      rw [hz, if_pos (by simp)] at hr
      subst hr
      rw [hkf] at c2
      have hq : (((s[5].toNat : Int) < 1) ∧ True) ∨ ¬ ((s[5].toNat : Int) < 1) ∧ (4 : Int) < s[5].toNat := by
        rcases Classical.em ((s[5].toNat : Int) < 1) with h | h
        · exact .inl ⟨h, trivial⟩
        · refine .inr ⟨h, ?_⟩
          rcases c2 with h' | h'
          · exact absurd h' h
          · exact h'
      rcases hq with ⟨q1, q2⟩ | ⟨q1, q2⟩
      · simp [c1', c1'', l6, l6', q1, eRmK, zeroI]
      · simp [c1', c1'', l6, l6', q1, q2, eRmK, zeroI]
    have hz : readS (kindF s) [(1, mt), (2, dt)] = readI (kindF s) mt dt := by
      unfold readS; rw [if_neg c2]; simp
    rw [hz] at hr
    have hkk : 1 ≤ kindF s ∧ kindF s ≤ 4 := by omega
    have hR := c_ref19_Read (kindF s) hkk mt dt (by omega) (by omega) sg
    have q1 : ¬ (s[5].toNat : Int) < 1 := by omega
    have q2 : ¬ (4 : Int) < s[5].toNat := by omega
    have w3 : IntKind.i64.wrap (s[5].toNat : Int) = s[5].toNat := wrap64 (by omega)
    have hrd := fun h => (readI_inv (mt := mt) (dt := dt) hkk h).1
    rw [hkf] at hR hr hrd
    generalize readI (s[5].toNat : Int) mt dt = RR at *
    have er : (eLK .z 2 eR : List It → D) = eL 2 eR := rfl
    simp [eRmK, er] at hR
    by_cases c3 : RR.1 = 0
    case neg =>
      rw [if_pos c3] at hr
      subst hr
      have b1 : (RR.1 == 0) = false := by simpa using c3
      have b2 : (RR.1 != 0) = true := by simpa using c3
      simp [c1', c1'', l6, l6', q1, q2, w3, hR, b1, b2, c3, eRmK, zeroI]
    rw [if_neg (by simpa using c3)] at hr
    have hC := c_ref17_Check RR.2 (hrd c3).ok sg
    simp [eRm] at hC
    rw [c3] at hR
    by_cases c4 : checkI RR.2 = 0
    case neg =>
      rw [if_pos c4] at hr
      subst hr
      have b2 : (checkI RR.2 != 0) = true := by simpa using c4
      simp [c1', c1'', l6, l6', q1, q2, w3, hR, hC, b2, c4, eRmK, zeroI]
    rw [if_neg (by simpa using c4)] at hr
    subst hr
    rw [c4] at hC
    simp [c1', c1'', l6, l6', q1, q2, w3, hR, hC]
    simp [eRmK, er]
  have hk' : (k : Int) < 2 := by omega
  obtain ⟨m, hm⟩ : ∃ m, 2 - k = m + 1 := ⟨1 - k, by omega⟩
  have hm2 : 2 - (k + 1) = m := by omega
  rw [hm] at g4
  unfold rowsX at g4
  have w3 : IntKind.i64.wrap (13 * (k : Int)) = 13 * k := wrap64 (by omega)
  obtain ⟨lo, hlo⟩ : ∃ lo, lo = 11 + 13 * k := ⟨_, rfl⟩
  obtain ⟨hi, hhi⟩ : ∃ hi, hi = 24 + 13 * k := ⟨_, rfl⟩
  have w4 : IntKind.i64.wrap (24 + 13 * (k : Int)) = (hi : Int) := by rw [wrap64 (by omega)]; omega
  have w5 : IntKind.i64.wrap (11 + 13 * (k : Int)) = (lo : Int) := by rw [wrap64 (by omega)]; omega
  have w6 : IntKind.i64.wrap ((k : Int) + 1) = k + 1 := wrap64 (by omega)
  have hrow1 : sub_ (sub_ al lo hi) 1 5 = sub_ al (12 + 13 * k) (16 + 13 * k) := by rw [sub_sub (by omega), hlo]; congr 1 <;> omega
  have hrow2 : sub_ (sub_ al lo hi) 5 9 = sub_ al (16 + 13 * k) (20 + 13 * k) := by rw [sub_sub (by omega), hlo]; congr 1 <;> omega
  have hrow3 : sub_ (sub_ al lo hi) 9 13 = sub_ al (20 + 13 * k) (24 + 13 * k) := by rw [sub_sub (by omega), hlo]; congr 1 <;> omega
  rw [← hrow1, ← hrow2, ← hrow3, ← hlo, ← hhi] at g4
  by_cases c1 : al.length < hi
  case pos =>
    have c1' : (al.length : Int) < hi := by omega
    rw [if_pos c1] at g4
    subst g4
    rw [if_pos (by simp)] at hr
    subst hr
    simp [hk, hk', w3, w4, w5, c1, c1', eRmK, zeroI]
  have c1' : ¬ (al.length : Int) < hi := by omega
  rw [if_neg c1] at g4
  have q1 : lo ≤ hi := by omega
  have q1' : (lo : Int) ≤ hi := by omega
  have q2 : hi ≤ al.length := by omega
  have q2' : (hi : Int) ≤ al.length := by omega
  have hrl : (sub_ al lo hi).length = 13 := by rw [sbx_len q1 q2]; omega
  have hr0 : al[lo]? = (sub_ al lo hi)[0]? := by
    unfold sub_
    rw [List.getElem?_drop, List.getElem?_take]
    simp; omega
  have hdt : (al.take hi).drop lo = sub_ al lo hi := rfl
  have hN1 := c_ref20_number (sub_ (sub_ al lo hi) 1 5) (sbx_len (by omega) (by omega)) sg
  have hN2 := c_ref20_number (sub_ (sub_ al lo hi) 5 9) (sbx_len (by omega) (by omega)) sg
  have hN3 := c_ref20_number (sub_ (sub_ al lo hi) 9 13) (sbx_len (by omega) (by omega)) sg
  rw [hr0] at g4
  generalize sub_ al lo hi = row at *
  have hd1 : (row.take 5).drop 1 = sub_ row 1 5 := rfl
  have hd2 : (row.take 9).drop 5 = sub_ row 5 9 := rfl
  have hd3 : (row.take 13).drop 9 = sub_ row 9 13 := rfl
  have r0 : 0 < row.length := by omega
  have r0' : (0 : Int) < row.length := by omega
  have r5 : 5 ≤ row.length := by omega
  have r5' : (5 : Int) ≤ row.length := by omega
  have r9 : 9 ≤ row.length := by omega
  have r9' : (9 : Int) ≤ row.length := by omega
  have r13 : 13 ≤ row.length := by omega
  have r13' : (13 : Int) ≤ row.length := by omega
  rw [List.getElem?_eq_getElem r0] at g4
  simp only [Option.getD_some] at g4
  have hu := u8_lt row[0]
  have w7 : IntKind.i64.wrap (row[0].toNat : Int) = row[0].toNat := wrap64 (by omega)
  have hA := leV_lt (sub_ row 1 5)
  have hZ := leV_lt (sub_ row 5 9)
  rw [sbx_len (by omega) r5] at hA
  rw [sbx_len (by omega) r9] at hZ
  have e256 : (256 : Nat) ^ 4 = 4294967296 := by decide
  generalize leV (sub_ row 1 5) = A at *
  generalize leV (sub_ row 5 9) = Z at *
  generalize leV (sub_ row 9 13) = M at *
  by_cases c2 : row[0].toNat ≠ k + 1 ∨ A ≠ next
  case pos =>
    rw [if_pos c2] at g4
    subst g4
    rw [if_pos (by simp)] at hr
    subst hr
    have hq : (((row[0].toNat : Int) != (k : Int) + 1) = true ∧ True) ∨ ((row[0].toNat : Int) != (k : Int) + 1) = false ∧ ((A : Int) != next) = true := by
      by_cases h : row[0].toNat = k + 1
      · refine .inr ⟨by simp; omega, ?_⟩
        rcases c2 with h' | h'
        · exact absurd h h'
        · simp; omega
      · exact .inl ⟨by simp; omega, trivial⟩
    rcases hq with ⟨p1, p2⟩ | ⟨p1, p2⟩
    · simp [hk, hk', w3, w4, w5, w6, w7, c1, c1', q1, q1', q2, q2', hdt, r0, r0', p1, eRmK, zeroI]
    · simp [hk, hk', w3, w4, w5, w6, w7, c1, c1', q1, q1', q2, q2', hdt, r0, r0', p1, p2, hd1, hN1, r5, r5', eRmK, zeroI]
  have p1 : ((row[0].toNat : Int) != (k : Int) + 1) = false := by simp; omega
  have p2 : ((A : Int) != next) = false := by simp; omega
  rw [if_neg c2] at g4
  have w8 : IntKind.i64.wrap ((next : Int) + Z) = (next : Int) + Z := wrap64 (by omega)
  by_cases c3 : al.length < next + Z
  case pos =>
    have c3' : (al.length : Int) < (next : Int) + Z := by omega
    rw [if_pos c3] at g4
    subst g4
    rw [if_pos (by simp)] at hr
    subst hr
    simp [hk, hk', w3, w4, w5, w6, w7, c1, c1', q1, q1', q2, q2', hdt, r0, r0', p1, p2, hd1, hN1, r5, r5', hd2, hN2, r9, r9', w8, c3', eRmK, zeroI]
  have c3' : ¬ (al.length : Int) < (next : Int) + Z := by omega
  rw [if_neg c3] at g4
  obtain ⟨nx, hnx⟩ : ∃ nx, nx = next + Z := ⟨_, rfl⟩
  have w9 : IntKind.i64.wrap ((next : Int) + Z) = (nx : Int) := by rw [w8]; omega
  have c4 : nx ≤ al.length := by omega
  have c4' : (nx : Int) ≤ al.length := by omega
  have c5 : next ≤ nx := by omega
  have c5' : (next : Int) ≤ nx := by omega
  have c6 : ¬ (al.length : Int) < nx := by omega
  have c6n : ¬ al.length < nx := by omega
  have hpt : (al.take nx).drop next = partR al next Z := by rw [hnx]; rfl
  have hpl : (partR al next Z).length ≤ al.length := by unfold partR; simp; omega
  have hSp := c_ref02_Sum (partR al next Z) (by omega) sg
  have hsp := sumN_lt (partR al next Z)
  have w10 : IntKind.i64.wrap (sumN (partR al next Z) : Int) = sumN (partR al next Z) := wrap64 (by omega)
  rw [← hnx] at g4
  generalize partR al next Z = part at *
  by_cases c7 : sumN part = M
  case neg =>
    rw [if_pos c7] at g4
    subst g4
    rw [if_pos (by simp)] at hr
    subst hr
    have p3 : ((sumN part : Int) != M) = true := by simp; omega
    simp [hk, hk', w3, w4, w5, w6, w7, c1, c1', q1, q1', q2, q2', hdt, r0, r0', p1, p2, hd1, hN1, r5, r5', hd2, hN2, r9, r9', w9, c6, c6n, c4, c4', c5, c5', hpt, hSp, w10, hd3, hN3, r13, r13', p3, eRmK, zeroI]
  rw [if_neg (show ¬ sumN part ≠ M by simpa using c7)] at g4
  have p3 : ((sumN part : Int) != M) = false := by simp; omega
  simp [hk, hk', w3, w4, w5, w6, w7, c1, c1', q1, q1', q2, q2', hdt, r0, r0', p1, p2, hd1, hN1, r5, r5', hd2, hN2, r9, r9', w9, c6, c6n, c4, c4', c5, c5', hpt, hSp, w10, hd3, hN3, r13, r13', p3]
  refine ⟨by omega, ?_⟩
  have := ih (k + 1, nx, l ++ [((k : Int) + 1, part)]) (by simp; omega) ⟨hk, by simp; omega, fun _ => c4, by rw [g4, hm2], by simp; omega, by
    intro p hp
    rcases List.mem_append.1 hp with hp | hp
    · exact g6 p hp
    · simp at hp; subst hp; exact hpl, by simp only [List.map_append, g7, List.range_succ]; simp⟩
  simpa [w6] using this
end Go.AM

/-
Layer 20: an image's file, by the program.
-/
namespace Go.AM
set_option linter.unusedSimpArgs false
set_option linter.unusedVariables false
theorem c_file_Encode_no (x : Im) (ho : x.ok) (hc : checkI x ≠ 0) (sg) : LL.call n_file_Encode [eIm x] sg sg.length = some (.t [.s (bs []), .i .i64 (checkI x)], sg, sg.length) := by
  refine wp_call e_file_Encode rfl ?_
  have hC := c_image_Image_Check x ho sg
  have hb : (checkI x != 0) = true := by simpa using hc
  simp [eIm] at hC
  simp [F_file_Encode, eIm, hC, hb]
theorem c_file_Encode (x : Im) (ho : x.ok) (h : x.wr) (hc : checkI x = 0) (hk : 1 ≤ x.k ∧ x.k ≤ 4) (hm : (metaB x).length ≤ 1048576) (hd : (dataB x).length ≤ 1048576) (sg) :
    LL.call n_file_Encode [eIm x] sg sg.length = some (.t [.s (bs (encB x)), .i .i64 0], sg, sg.length) := by
  refine wp_call e_file_Encode rfl ?_
  have hC := c_image_Image_Check x ho sg
  rw [hc] at hC
  have hM := c_crc_Make sg
  have hO := c_section_Of x h (sg ++ [tabO])
  have hgt : (sg ++ [tabO])[sg.length]? = some tabO := by simp
  have hS1 := c_crc_Sum (metaB x) (by omega) (sg ++ [tabO]) sg.length hgt
  have hS2 := c_crc_Sum (dataB x) (by omega) (sg ++ [tabO]) sg.length hgt
  have hW := fun b n hb hn => c_octet_Word (.inl rfl) b n hn hb (sg ++ [tabO])
  have hbl : (bodyB x).length ≤ 1073741824 := by simp [bodyB, fixB_len, entB_len]; omega
  have hSl := c_crc_Seal (bodyB x) hbl (sg ++ [tabO]) sg.length hgt
  have hk8 : IntKind.u8.wrap x.k = ((UInt8.ofNat x.k.toNat).toNat : Int) := by
    have := u8_wrap x.k.toNat
    rwa [show ((x.k.toNat : Nat) : Int) = x.k by omega] at this
  have hbd : bodyB x = [67, 82, 89, 79] ++ ([4, UInt8.ofNat x.k.toNat] ++ (fixB (41 + (metaB x).length + (dataB x).length) 4 ++ ([2] ++ (entB 1 37 (metaB x) ++ (entB 2 (37 + (metaB x).length) (dataB x) ++ (metaB x ++ dataB x)))))) := rfl
  have hen : encB x = sealB (bodyB x) := rfl
  have he1 : entB 1 37 (metaB x) = 1 :: (fixB 37 4 ++ (fixB (metaB x).length 4 ++ fixB (sumN (metaB x)) 4)) := rfl
  have he2 : entB 2 (37 + (metaB x).length) (dataB x) = 2 :: (fixB (37 + (metaB x).length) 4 ++ (fixB (dataB x).length 4 ++ fixB (sumN (dataB x)) 4)) := rfl
  have hs1 := sumN_lt (metaB x)
  have hs2 := sumN_lt (dataB x)
  rw [hen]
  generalize sealB (bodyB x) = E at *
  generalize hB : bodyB x = B at *
  generalize sumN (metaB x) = s1 at *
  generalize sumN (dataB x) = s2 at *
  generalize metaB x = mt at *
  generalize dataB x = dt at *
  generalize UInt8.ofNat x.k.toNat = c at *
  rw [he1, he2] at hbd
  clear hB he1 he2 hen h ho
  simp [eIm, eSec] at hC hO
  simp at hS1 hS2 hSl
  simp [F_file_Encode, eIm, hC, hM, hO]
  have k1 : IntKind.u8.wrap 1 = 1 := by decide
  have k2 : IntKind.i64.wrap 26 = 26 := by decide
  have k3 : IntKind.i64.wrap 37 = 37 := by decide
  have k4 : IntKind.u32.wrap 37 = 37 := by decide
  have k5 : IntKind.u32.wrap (mt.length : Int) = mt.length := wrapu32 (by omega)
  have k6 : IntKind.i64.wrap 1 = 1 := by decide
  have k7 : IntKind.u8.wrap 2 = 2 := by decide
  have k8 : IntKind.i64.wrap (37 + (mt.length : Int)) = 37 + mt.length := wrap64 (by omega)
  have k9 : IntKind.u32.wrap (37 + (mt.length : Int)) = 37 + mt.length := wrapu32 (by omega)
  have k10 : IntKind.u32.wrap (dt.length : Int) = dt.length := wrapu32 (by omega)
  have k11 : IntKind.i64.wrap 2 = 2 := by decide
  have hW1 := hW [1] 37 (by simp) (by omega)
  have hW2 := hW ([1] ++ fixB 37 4) mt.length (by simp [fixB_len]) (by omega)
  have hW3 := hW ([1] ++ fixB 37 4 ++ fixB mt.length 4) s1 (by simp [fixB_len]) hs1
  obtain ⟨e1, he1⟩ : ∃ e1, e1 = [1] ++ fixB 37 4 ++ fixB mt.length 4 ++ fixB s1 4 := ⟨_, rfl⟩
  have l1 : e1.length = 13 := by rw [he1]; simp [fixB_len]
  have hW4 := hW (e1 ++ [2]) (37 + mt.length) (by simp; omega) (by omega)
  have hW5 := hW (e1 ++ [2] ++ fixB (37 + mt.length) 4) dt.length (by simp [fixB_len]; omega) (by omega)
  have hW6 := hW (e1 ++ [2] ++ fixB (37 + mt.length) 4 ++ fixB dt.length 4) s2 (by simp [fixB_len]; omega) hs2
  rw [← he1] at hW3
  have hbd2 : B = [67, 82, 89, 79, 4, c] ++ (fixB (41 + mt.length + dt.length) 4 ++ ([2] ++ (e1 ++ ([2] ++ (fixB (37 + mt.length) 4 ++ (fixB dt.length 4 ++ (fixB s2 4 ++ (mt ++ dt)))))))) := by
    rw [hbd, he1]; simp
  have hW7 := hW [67, 82, 89, 79, 4, c] (41 + mt.length + dt.length) (by simp) (by omega)
  simp only [List.map_append] at hW1 hW2 hW3 hW4 hW5 hW6 hW7
  simp at hW1 hW2 hW3 hW4 hW5 hW6 hW7
  refine wc_loop ?_
  simp [k1, k2, k3, k4, k5, k6, hW1, hW2, hW3, hS1]
  refine ⟨by omega, ?_⟩
  refine wc_loop ?_
  simp [k7, k8, k9, k10, k11, hW4, hW5, hW6, hS2, l1]
  refine ⟨by omega, ?_⟩
  have k12 : IntKind.i64.wrap (37 + ((mt.length : Int) + dt.length)) = 37 + ((mt.length : Int) + dt.length) := wrap64 (by omega)
  have k13 : IntKind.i64.wrap (37 + ((mt.length : Int) + dt.length) + 4) = 41 + (mt.length : Int) + dt.length := by rw [wrap64 (by omega)]; omega
  have k14 : IntKind.u32.wrap (41 + (mt.length : Int) + dt.length) = 41 + (mt.length : Int) + dt.length := wrapu32 (by omega)
  refine wc_loop ?_
  simp [k12, k13, k14, hk8, hW7, k7]
  have hmap := congrArg (List.map eB) hbd2
  simp at hmap
  rw [← hmap]
  simp only [fixB_len, l1]
  refine ⟨by omega, by omega, by omega, ?_⟩
  simp [hSl]
end Go.AM

/-
Are images the same: the program's answer, the reference's, the statements'.
-/
namespace Go.AM
set_option linter.unusedSimpArgs false
set_option linter.unusedVariables false
theorem map_eq_iff {α β γ : Type} (f : α → γ) (g : β → γ) (a : List α) (b : List β) (hl : a.length = b.length) : a.map f = b.map g ↔ ∀ i, ∀ (h : i < a.length), f a[i] = g (b[i]'(hl ▸ h)) := by
  constructor
  · intro h i hi
    have h1 : (a.map f)[i]? = (b.map g)[i]? := by rw [h]
    rw [List.getElem?_map, List.getElem?_map, List.getElem?_eq_getElem hi, List.getElem?_eq_getElem (hl ▸ hi)] at h1
    simpa using h1
  · intro h
    apply List.ext_getElem (by simp [hl])
    intro i h1 h2
    simp at h1
    simp [h i h1]
theorem cmpI_zero {x y : It} (hx : x.ok) (hy : y.ok) : cmpI x y = 0 ↔ x.canon = y.canon := by
  have h1 : cmpN (key x.p) (key y.p) = 0 ↔ AM.canon x.p = AM.canon y.p := by
    constructor
    · intro h
      refine keyC_inj (canon_lt hx.1) (canon_lt hy.1) ?_
      show key x.p = key y.p
      unfold cmpN at h
      split at h
      · omega
      · split at h <;> omega
    · intro h
      have : key x.p = key y.p := by unfold key; rw [h]
      unfold cmpN; rw [this]; simp
  unfold It.canon cmpI
  by_cases h : AM.canon x.p = AM.canon y.p
  · rw [if_neg (by simp [h1.2 h])]
    simp only [h, It.mk.injEq, true_and]
    unfold cmpV
    split
    · omega
    · split <;> omega
  · have : cmpN (key x.p) (key y.p) ≠ 0 := fun h2 => h (h1.1 h2)
    rw [if_pos this]
    simp [h, this]
theorem c_law04_Is (x y : It) (sg) : LL.call n_c_law04_Is [eI x, eR y] sg sg.length = some (.i .i64 (if x = y then 0 else -1), sg, sg.length) := by
  refine wp_call e_c_law04_Is rfl ?_
  have hxy : x = y ↔ x.p = y.p ∧ x.v = y.v := by cases x; cases y; simp
  by_cases h1 : x.p = y.p
  · have b1 : ((x.p : Int) != y.p) = false := by simp [h1]
    by_cases h2 : x.v = y.v
    · have b2 : (x.v != y.v) = false := by simp [h2]
      have : x = y := hxy.2 ⟨h1, h2⟩
      simp [F_c_law04_Is, b1, b2]
      simp [this]
    · have b2 : (x.v != y.v) = true := by simpa using h2
      have : ¬ x = y := fun h => h2 (hxy.1 h).2
      simp [F_c_law04_Is, b1, b2]
      simp [this]
  · have b1 : ((x.p : Int) != y.p) = true := by simp; omega
    have : ¬ x = y := fun h => h1 (hxy.1 h).1
    simp [F_c_law04_Is, b1]
    simp [this]
theorem c_law04_Are (a b : List It) (ha : a.length ≤ 1099511627776) (sg) : LL.call n_c_law04_Are [.l .z 2 (a.map eI), .l .z 2 (b.map eR)] sg sg.length = some (.i .i64 (if a = b then 0 else -1), sg, sg.length) := by
  refine wp_call e_c_law04_Are rfl ?_
  by_cases hl : a.length = b.length
  · have b0 : ((a.length : Int) != b.length) = false := by simp; omega
    have hiff := map_eq_iff id id a b hl
    simp only [List.map_id, id] at hiff
    simp [F_c_law04_Are, b0]
    refine wc_up a.length (fun i => ⟨[(0, .v (.l .z 2 (a.map eI))), (1, .v (.l .z 2 (b.map eR))), (12, .v (.i .i64 b.length)), (13, .v (.i .i64 i))], [], sg, sg.length⟩) (fun i => ∀ j, j < i → ∀ (h : j < a.length), a[j] = b[j]) ?_ ?_ 0 (by omega) (by omega)
    · intro i hi hp ih
      have hib : i < b.length := by omega
      have hi' : (i : Int) < b.length := by omega
      have hi2 : (i : Int) < a.length := by omega
      have h1 := c_law04_Is a[i] b[i] sg
      have w1 : IntKind.i64.wrap ((i : Int) + 1) = i + 1 := wrap64 (by omega)
      simp at h1
      by_cases he : a[i] = b[i]
      · rw [if_pos he] at h1
        simp [hi', hib, hi, hi2, h1]
        have := ih (fun j hj h => by
          by_cases e : j = i
          · subst e; exact he
          · exact hp j (by omega) h)
        simpa [w1] using this
      · rw [if_neg he] at h1
        have : ¬ a = b := fun h => he (hiff.1 h i hi)
        simp [hi', hib, hi, hi2, h1]
        simp [this]
    · intro hp
      have : a = b := hiff.2 (fun i h => hp i h h)
      simp [← hl]
      simp [this]
  · have b0 : ((a.length : Int) != b.length) = true := by simp; omega
    have : ¬ a = b := fun h => hl (by rw [h])
    simp [F_c_law04_Are, b0]
    simp [this]
theorem c_slices_Equal (a b : List Int) (ha : a.length ≤ 1099511627776) (sg) : LL.call n_slices_Equal_int64_int64 [.l .z 1 (a.map (.i .i64)), .l .z 1 (b.map (.i .i64))] sg sg.length = some (.b (decide (a = b)), sg, sg.length) := by
  refine wp_call e_slices_Equal_int64_int64 rfl ?_
  by_cases hl : a.length = b.length
  · have b0 : ((a.length : Int) != b.length) = false := by simp; omega
    have hiff := map_eq_iff id id a b hl
    simp only [List.map_id, id] at hiff
    simp [F_slices_Equal_int64_int64, b0]
    refine wc_up a.length (fun i => ⟨[(0, .v (.l .z 1 (a.map (.i .i64)))), (1, .v (.l .z 1 (b.map (.i .i64)))), (12, .v (.i .i64 a.length)), (13, .v (.i .i64 i))], [], sg, sg.length⟩) (fun i => ∀ j, j < i → ∀ (h : j < a.length), a[j] = b[j]) ?_ ?_ 0 (by omega) (by omega)
    · intro i hi hp ih
      have hib : i < b.length := by omega
      have hi' : (i : Int) < b.length := by omega
      have hi2 : (i : Int) < a.length := by omega
      have w1 : IntKind.i64.wrap ((i : Int) + 1) = i + 1 := wrap64 (by omega)
      by_cases he : a[i] = b[i]
      · have hbe : (a[i] != b[i]) = false := by simpa using he
        simp [hi', hib, hi, hi2, hbe]
        have := ih (fun j hj h => by
          by_cases e : j = i
          · subst e; exact he
          · exact hp j (by omega) h)
        simpa [w1] using this
      · have hbe : (a[i] != b[i]) = true := by simpa using he
        have : ¬ a = b := fun h => he (hiff.1 h i hi)
        simp [hi', hib, hi, hi2, hbe]
        simp [this]
    · intro hp
      have : a = b := hiff.2 (fun i h => hp i h h)
      simp
      simp [this]
  · have b0 : ((a.length : Int) != b.length) = true := by simp; omega
    have : ¬ a = b := fun h => hl (by rw [h])
    simp [F_slices_Equal_int64_int64, b0]
    simp [this]
theorem c_Same_1_1 (x y : It) (hx : x.ok) (hy : y.ok) (sg) : LL.call n_image_Image_Same_1_1 [eI x, eI y] sg sg.length = some (.b (decide (x.canon = y.canon)), sg, sg.length) := by
  refine wp_call e_image_Image_Same_1_1 rfl ?_
  have h1 := c_pile_Item_Cmp x y hx hy sg
  simp at h1
  simp [F_image_Image_Same_1_1, h1]
  have hz := cmpI_zero hx hy
  by_cases h : cmpI x y = 0
  · simp [h, hz.1 h]
  · have h2 : ¬ x.canon = y.canon := fun h' => h (hz.2 h')
    simp [h, h2]
theorem c_EqualFunc_1 (a b : List It) (hoa : ∀ y ∈ a, y.ok) (hob : ∀ y ∈ b, y.ok) (ha : a.length ≤ 1099511627776) (sg) :
    LL.call n_slices_EqualFunc_pile_Item_pile_Item_pile_Item_pile_Item_1 [.l .z 2 (a.map eI), .l .z 2 (b.map eI), .fn n_image_Image_Same_1_1 []] sg sg.length = some (.b (decide (a.map It.canon = b.map It.canon)), sg, sg.length) := by
  refine wp_call e_slices_EqualFunc_pile_Item_pile_Item_pile_Item_pile_Item_1 rfl ?_
  by_cases hl : a.length = b.length
  · have b0 : ((a.length : Int) != b.length) = false := by simp; omega
    have hiff := map_eq_iff It.canon It.canon a b hl
    simp [F_slices_EqualFunc_pile_Item_pile_Item_pile_Item_pile_Item_1, b0]
    refine wc_up a.length (fun i => ⟨[(1, .v (.l .z 2 (b.map eI))), (2, .v (.fn n_image_Image_Same_1_1 [])), (15, .v (.l .z 2 (a.map eI))), (16, .v (.i .i64 a.length)), (17, .v (.i .i64 i))], [], sg, sg.length⟩) (fun i => ∀ j, j < i → ∀ (h : j < a.length), a[j].canon = (b[j]'(hl ▸ h)).canon) ?_ ?_ 0 (by omega) (by omega)
    · intro i hi hp ih
      have hib : i < b.length := by omega
      have hi' : (i : Int) < b.length := by omega
      have hi2 : (i : Int) < a.length := by omega
      have w1 : IntKind.i64.wrap ((i : Int) + 1) = i + 1 := wrap64 (by omega)
      have h1 := c_Same_1_1 a[i] b[i] (hoa _ (List.getElem_mem _)) (hob _ (List.getElem_mem _)) sg
      simp at h1
      by_cases he : a[i].canon = b[i].canon
      · simp only [he, decide_true] at h1
        simp [hi', hib, hi, hi2, h1]
        have := ih (fun j hj h => by
          by_cases e : j = i
          · subst e; exact he
          · exact hp j (by omega) h)
        simpa [w1] using this
      · simp only [he, decide_false] at h1
        have : ¬ a.map It.canon = b.map It.canon := fun h => he (hiff.1 h i hi)
        simp [hi', hib, hi, hi2, h1]
        simp [this]
    · intro hp
      have : a.map It.canon = b.map It.canon := hiff.2 (fun i h => hp i h h)
      simp
      simp [this]
  · have b0 : ((a.length : Int) != b.length) = true := by simp; omega
    have : ¬ a.map It.canon = b.map It.canon := fun h => hl (by have := congrArg List.length h; simpa using this)
    simp [F_slices_EqualFunc_pile_Item_pile_Item_pile_Item_pile_Item_1, b0]
    simp [this]
theorem c_Same_1 (a b : List It) (hoa : ∀ y ∈ a, y.ok) (hob : ∀ y ∈ b, y.ok) (ha : a.length ≤ 1099511627776) (sg) :
    LL.call n_image_Image_Same_1 [.l .z 2 (a.map eI), .l .z 2 (b.map eI)] sg sg.length = some (.b (decide (a.map It.canon = b.map It.canon)), sg, sg.length) := by
  refine wp_call e_image_Image_Same_1 rfl ?_
  have h1 := c_EqualFunc_1 a b hoa hob ha sg
  simp [F_image_Image_Same_1, h1]
theorem c_EqualFunc (a b : List (List It)) (hoa : ∀ l ∈ a, (∀ y ∈ l, y.ok) ∧ l.length ≤ 1099511627776) (hob : ∀ l ∈ b, (∀ y ∈ l, y.ok)) (ha : a.length ≤ 1099511627776) (sg) :
    LL.call n_slices_EqualFunc_pile_Item_pile_Item_pile_Item_pile_Item [.l .z 1 (a.map (eL 2 eI)), .l .z 1 (b.map (eL 2 eI)), .fn n_image_Image_Same_1 []] sg sg.length = some (.b (decide (a.map (·.map It.canon) = b.map (·.map It.canon))), sg, sg.length) := by
  refine wp_call e_slices_EqualFunc_pile_Item_pile_Item_pile_Item_pile_Item rfl ?_
  by_cases hl : a.length = b.length
  · have b0 : ((a.length : Int) != b.length) = false := by simp; omega
    have hiff := map_eq_iff (·.map It.canon) (·.map It.canon) a b hl
    simp [F_slices_EqualFunc_pile_Item_pile_Item_pile_Item_pile_Item, b0]
    refine wc_up a.length (fun i => ⟨[(1, .v (.l .z 1 (b.map (eL 2 eI)))), (2, .v (.fn n_image_Image_Same_1 [])), (15, .v (.l .z 1 (a.map (eL 2 eI)))), (16, .v (.i .i64 a.length)), (17, .v (.i .i64 i))], [], sg, sg.length⟩) (fun i => ∀ j, j < i → ∀ (h : j < a.length), a[j].map It.canon = (b[j]'(hl ▸ h)).map It.canon) ?_ ?_ 0 (by omega) (by omega)
    · intro i hi hp ih
      have hib : i < b.length := by omega
      have hi' : (i : Int) < b.length := by omega
      have hi2 : (i : Int) < a.length := by omega
      have w1 : IntKind.i64.wrap ((i : Int) + 1) = i + 1 := wrap64 (by omega)
      have h1 := c_Same_1 a[i] b[i] (hoa _ (List.getElem_mem _)).1 (hob _ (List.getElem_mem _)) (hoa _ (List.getElem_mem _)).2 sg
      by_cases he : a[i].map It.canon = b[i].map It.canon
      · simp only [he, decide_true] at h1
        simp [hi', hib, hi, hi2, eL, h1]
        have := ih (fun j hj h => by
          by_cases e : j = i
          · subst e; exact he
          · exact hp j (by omega) h)
        simpa [w1] using this
      · simp only [he, decide_false] at h1
        have : ¬ a.map (·.map It.canon) = b.map (·.map It.canon) := fun h => he (hiff.1 h i hi)
        simp [hi', hib, hi, hi2, eL, h1]
        simp [this]
    · intro hp
      have : a.map (·.map It.canon) = b.map (·.map It.canon) := hiff.2 (fun i h => hp i h h)
      simp
      simp [this]
  · have b0 : ((a.length : Int) != b.length) = true := by simp; omega
    have : ¬ a.map (·.map It.canon) = b.map (·.map It.canon) := fun h => hl (by have := congrArg List.length h; simpa using this)
    simp [F_slices_EqualFunc_pile_Item_pile_Item_pile_Item_pile_Item, b0]
    simp [this]
instance : DecidableEq Im := fun x y => decidable_of_iff (x.k = y.k ∧ x.p = y.p ∧ x.c = y.c ∧ x.ls = y.ls ∧ x.cs = y.cs) (by cases x; cases y; simp)
theorem told_iff (x y : Im) : toldI x = toldI y ↔ x.k = y.k ∧ x.p = y.p ∧ x.c = y.c ∧ x.cs = y.cs ∧ x.ls.map (·.map It.canon) = y.ls.map (·.map It.canon) := by
  unfold toldI
  constructor
  · intro h; injection h with h1 h2 h3 h4 h5; exact ⟨h1, h2, h3, h5, h4⟩
  · rintro ⟨h1, h2, h3, h4, h5⟩; rw [h1, h2, h3, h4, h5]
theorem c_image_Same (x y : Im) (hx : x.ok) (hy : y.ok) (sx : x.small) (sg) : LL.call n_image_Image_Same [eIm x, eIm y] sg sg.length = some (.b (decide (toldI x = toldI y)), sg, sg.length) := by
  refine wp_call e_image_Image_Same rfl ?_
  have hiff := told_iff x y
  have h1 := c_slices_Equal x.cs y.cs sx.2.1 sg
  have h2 := c_EqualFunc x.ls y.ls (fun l hl => ⟨hx.1 l hl, sx.2.2 l hl⟩) hy.1 sx.1 sg
  by_cases q1 : x.k = y.k
  · have b1 : (x.k != y.k) = false := by simpa using q1
    by_cases q2 : x.p = y.p
    · have b2 : (x.p != y.p) = false := by simpa using q2
      by_cases q3 : x.c = y.c
      · have b3 : (x.c != y.c) = false := by simpa using q3
        by_cases q4 : x.cs = y.cs
        · simp only [q4, decide_true] at h1
          simp [F_image_Image_Same, eIm, b1, b2, b3, q4, h1, h2]
          simp [hiff, q1, q2, q3, q4]
        · simp only [q4, decide_false] at h1
          simp [F_image_Image_Same, eIm, b1, b2, b3, h1]
          simp [hiff, q4]
      · have b3 : (x.c != y.c) = true := by simpa using q3
        simp [F_image_Image_Same, eIm, b1, b2, b3]
        simp [hiff, q3]
    · have b2 : (x.p != y.p) = true := by simpa using q2
      simp [F_image_Image_Same, eIm, b1, b2]
      simp [hiff, q2]
  · have b1 : (x.k != y.k) = true := by simpa using q1
    simp [F_image_Image_Same, eIm, b1]
    simp [hiff, q1]
end Go.AM

/-
Are images the same: the reference's answer, the statements'.
-/
namespace Go.AM
set_option linter.unusedSimpArgs false
set_option linter.unusedVariables false
theorem c_ref17_Same (x y : Im) (hx : x.ok) (hy : y.ok) (sx : x.small) (sy : y.small) (sg) : LL.call n_c_ref17_Same [eRm x, eRm y] sg sg.length = some (.i .i64 (if toldI x = toldI y then 0 else -1), sg, sg.length) := by
  refine wp_call e_c_ref17_Same rfl ?_
  have hiff := told_iff x y
  obtain ⟨sx1, sx2, sx3⟩ := sx
  by_cases q1 : x.k = y.k
  case neg =>
    have b1 : (x.k != y.k) = true := by simpa using q1
    simp [F_c_ref17_Same, eRm, b1]
    simp [hiff, q1]
  have b1 : (x.k != y.k) = false := by simpa using q1
  by_cases q2 : x.p = y.p
  case neg =>
    have b2 : (x.p != y.p) = true := by simpa using q2
    simp [F_c_ref17_Same, eRm, b1, b2]
    simp [hiff, q2]
  have b2 : (x.p != y.p) = false := by simpa using q2
  by_cases q3 : x.c = y.c
  case neg =>
    have b3 : (x.c != y.c) = true := by simpa using q3
    simp [F_c_ref17_Same, eRm, b1, b2, b3]
    simp [hiff, q3]
  have b3 : (x.c != y.c) = false := by simpa using q3
  by_cases q4 : x.ls.length = y.ls.length
  case neg =>
    have b4 : ((x.ls.length : Int) != y.ls.length) = true := by simp; omega
    have : ¬ x.ls.map (·.map It.canon) = y.ls.map (·.map It.canon) := fun h => q4 (by have := congrArg List.length h; simpa using this)
    simp [F_c_ref17_Same, eRm, b1, b2, b3, b4]
    simp [hiff, this]
  have b4 : ((x.ls.length : Int) != y.ls.length) = false := by simp; omega
  by_cases q5 : x.cs.length = y.cs.length
  case neg =>
    have b5 : ((x.cs.length : Int) != y.cs.length) = true := by simp; omega
    have : ¬ x.cs = y.cs := fun h => q5 (by rw [h])
    simp [F_c_ref17_Same, eRm, b1, b2, b3, b4, b5]
    simp [hiff, this]
  have b5 : ((x.cs.length : Int) != y.cs.length) = false := by simp; omega
  have hcs := map_eq_iff id id x.cs y.cs q5
  simp only [List.map_id, id] at hcs
  have hls := map_eq_iff (·.map It.canon) (·.map It.canon) x.ls y.ls q4
  simp [F_c_ref17_Same, eRm, b1, b2, b3, b4, b5]
  refine wc_up x.cs.length (fun i => ⟨[(2, .q (.ptr 2 0)), (3, .q (.ptr 3 0)), (47, .v (.i .i64 x.cs.length)), (48, .v (.i .i64 i))], [(2, [.i .i64 x.k, .i .i64 x.p, .i .u64 x.c, .l .z 1 (x.ls.map (eL 2 eR)), .l .z 1 (x.cs.map (.i .i64))]), (3, [.i .i64 y.k, .i .i64 y.p, .i .u64 y.c, .l .z 1 (y.ls.map (eL 2 eR)), .l .z 1 (y.cs.map (.i .i64))])], sg, sg.length⟩) (fun i => ∀ j, j < i → ∀ (h : j < x.cs.length), x.cs[j] = y.cs[j]) ?_ ?_ 0 (by omega) (by omega)
  · intro i hi hp ih
    have hib : i < y.cs.length := by omega
    have hi' : (i : Int) < y.cs.length := by omega
    have hi2 : (i : Int) < x.cs.length := by omega
    have w1 : IntKind.i64.wrap ((i : Int) + 1) = i + 1 := wrap64 (by omega)
    by_cases he : x.cs[i] = y.cs[i]
    · have hbe : (x.cs[i] != y.cs[i]) = false := by simpa using he
      simp [hi', hib, hi, hi2, hbe]
      have := ih (fun j hj h => by
        by_cases e : j = i
        · subst e; exact he
        · exact hp j (by omega) h)
      simpa [w1] using this
    · have hbe : (x.cs[i] != y.cs[i]) = true := by simpa using he
      have : ¬ x.cs = y.cs := fun h => he (hcs.1 h i hi)
      simp [hi', hib, hi, hi2, hbe]
      simp [hiff, this]
  · intro hp
    have hcs : x.cs = y.cs := hcs.2 (fun i h => hp i h h)
    simp
    refine wc_up x.ls.length (fun i => ⟨[(2, .q (.ptr 2 0)), (3, .q (.ptr 3 0)), (65, .v (.i .i64 x.ls.length)), (66, .v (.i .i64 i))], [(2, [.i .i64 x.k, .i .i64 x.p, .i .u64 x.c, .l .z 1 (x.ls.map (eL 2 eR)), .l .z 1 (x.cs.map (.i .i64))]), (3, [.i .i64 y.k, .i .i64 y.p, .i .u64 y.c, .l .z 1 (y.ls.map (eL 2 eR)), .l .z 1 (y.cs.map (.i .i64))])], sg, sg.length⟩) (fun i => ∀ j, j < i → ∀ (h : j < x.ls.length), x.ls[j].map It.canon = (y.ls[j]'(q4 ▸ h)).map It.canon) ?_ ?_ 0 (by omega) (by omega)
    · intro i hi hp ih
      have hib : i < y.ls.length := by omega
      have hi' : (i : Int) < y.ls.length := by omega
      have hi2 : (i : Int) < x.ls.length := by omega
      have w1 : IntKind.i64.wrap ((i : Int) + 1) = i + 1 := wrap64 (by omega)
      have sl := sx3 x.ls[i] (List.getElem_mem _)
      by_cases q6 : x.ls[i].length = y.ls[i].length
      case neg =>
        have b6 : ((x.ls[i].length : Int) != y.ls[i].length) = true := by simp; omega
        have : ¬ x.ls.map (·.map It.canon) = y.ls.map (·.map It.canon) := fun h => q6 (by have := congrArg List.length (hls.1 h i hi); simpa using this)
        simp [hi', hib, hi, hi2, eL, b6]
        simp [hiff, this]
      have b6 : ((x.ls[i].length : Int) != y.ls[i].length) = false := by simp; omega
      have hls2 := map_eq_iff It.canon It.canon x.ls[i] y.ls[i] q6
      simp [hi', hib, hi, hi2, eL, b6]
      refine wc_up x.ls[i].length (fun j => ⟨[(2, .q (.ptr 2 0)), (3, .q (.ptr 3 0)), (6, .v (.i .i64 i)), (65, .v (.i .i64 x.ls.length)), (66, .v (.i .i64 i)), (87, .v (.i .i64 x.ls[i].length)), (88, .v (.i .i64 j))], [(2, [.i .i64 x.k, .i .i64 x.p, .i .u64 x.c, .l .z 1 (x.ls.map (eL 2 eR)), .l .z 1 (x.cs.map (.i .i64))]), (3, [.i .i64 y.k, .i .i64 y.p, .i .u64 y.c, .l .z 1 (y.ls.map (eL 2 eR)), .l .z 1 (y.cs.map (.i .i64))])], sg, sg.length⟩) (fun k => ∀ j, j < k → ∀ (h : j < x.ls[i].length), x.ls[i][j].canon = (y.ls[i][j]'(q6 ▸ h)).canon) ?_ ?_ 0 (by omega) (by omega)
      · intro j hj hq ih2
        have hjb : j < y.ls[i].length := by omega
        have hj' : (j : Int) < x.ls[i].length := by omega
        have hj2 : (j : Int) < y.ls[i].length := by omega
        have w2 : IntKind.i64.wrap ((j : Int) + 1) = j + 1 := wrap64 (by omega)
        have ox := hx.1 x.ls[i] (List.getElem_mem _) x.ls[i][j] (List.getElem_mem _)
        have oy := hy.1 y.ls[i] (List.getElem_mem _) y.ls[i][j] (List.getElem_mem _)
        have h1 := c_ref04_Cmp x.ls[i][j] y.ls[i][j] ox oy sg
        have hz := cmpI_zero ox oy
        simp at h1
        by_cases he : cmpI x.ls[i][j] y.ls[i][j] = 0
        · have hbe : (cmpI x.ls[i][j] y.ls[i][j] != 0) = false := by simpa using he
          simp [hi', hib, hi, hi2, hj, hjb, hj', hj2, eL, h1, hbe]
          have := ih2 (fun j' hj' h => by
            by_cases e : j' = j
            · subst e; exact hz.1 he
            · exact hq j' (by omega) h)
          simpa [w2] using this
        · have hbe : (cmpI x.ls[i][j] y.ls[i][j] != 0) = true := by simpa using he
          have : ¬ x.ls.map (·.map It.canon) = y.ls.map (·.map It.canon) := fun h => he (hz.2 (hls2.1 (hls.1 h i hi) j hj))
          simp [hi', hib, hi, hi2, hj, hjb, hj', hj2, eL, h1, hbe]
          simp [hiff, this]
      · intro hq
        have he := hls2.2 (fun j h => hq j h h)
        simp
        have := ih (fun j hj h => by
          by_cases e : j = i
          · subst e; exact he
          · exact hp j (by omega) h)
        simpa [w1] using this
    · intro hp
      have : x.ls.map (·.map It.canon) = y.ls.map (·.map It.canon) := hls.2 (fun i h => hp i h h)
      simp
      simp [hiff, this, hcs, q1, q2, q3]
/-- Is it the document's? -/
theorem c_law18_Is (x y : Im) (hx : x.ok) (sx : x.small) (hy : y.ok) (sy : y.small) (sg) : LL.call n_c_law18_Is [eIm x, eRm y] sg sg.length = some (.i .i64 (if x.ls = y.ls ∧ toldI x = toldI y then 0 else -1), sg, sg.length) := by
  refine wp_call e_c_law18_Is rfl ?_
  have hT := c_law17_Told x hx sx sg
  have hS := c_ref17_Same (toldI x) y (toldI_ok x hx) hy ⟨by simp [toldI]; exact sx.1, sx.2.1, by
    intro l hl
    simp only [toldI] at hl
    obtain ⟨m, hm, rfl⟩ := List.mem_map.1 hl
    simp; exact sx.2.2 m hm⟩ sy sg
  have htt : toldI (toldI x) = toldI x := by
    have : ∀ l : List It, (l.map It.canon).map It.canon = l.map It.canon := by
      intro l; rw [List.map_map]; apply List.map_congr_left; intro y _
      show It.canon (It.canon y) = It.canon y
      simp [It.canon, canon_canon]
    simp only [toldI, List.map_map]
    congr 1
    apply List.map_congr_left; intro l _; exact this l
  rw [htt] at hS
  have er : (eLK .z 2 eR : List It → D) = eL 2 eR := rfl
  generalize toldI x = t at *
  obtain ⟨sx1, sx2, sx3⟩ := sx
  simp [eIm, eRmK, eRm, er] at hT hS
  by_cases q4 : x.ls.length = y.ls.length
  case neg =>
    have b4 : ((x.ls.length : Int) != y.ls.length) = true := by simp; omega
    have : ¬ x.ls = y.ls := fun h => q4 (by rw [h])
    simp [F_c_law18_Is, eIm, eRm, b4]
    simp [this]
  have b4 : ((x.ls.length : Int) != y.ls.length) = false := by simp; omega
  have hls := map_eq_iff id id x.ls y.ls q4
  simp only [List.map_id, id] at hls
  simp [F_c_law18_Is, eIm, eRm, b4]
  refine wc_up x.ls.length (fun i => ⟨[(2, .q (.ptr 2 0)), (3, .q (.ptr 3 0)), (15, .v (.i .i64 y.ls.length)), (16, .v (.i .i64 i))], [(2, [.i .i64 x.k, .i .i64 x.p, .i .u64 x.c, .l .z 1 (x.ls.map (eL 2 eI)), .l .z 1 (x.cs.map (.i .i64))]), (3, [.i .i64 y.k, .i .i64 y.p, .i .u64 y.c, .l .z 1 (y.ls.map (eL 2 eR)), .l .z 1 (y.cs.map (.i .i64))])], sg, sg.length⟩) (fun i => ∀ j, j < i → ∀ (h : j < x.ls.length), x.ls[j] = (y.ls[j]'(q4 ▸ h))) ?_ ?_ 0 (by omega) (by omega)
  · intro i hi hp ih
    have hib : i < y.ls.length := by omega
    have hi' : (i : Int) < y.ls.length := by omega
    have hi2 : (i : Int) < x.ls.length := by omega
    have w1 : IntKind.i64.wrap ((i : Int) + 1) = i + 1 := wrap64 (by omega)
    have h1 := c_law04_Are x.ls[i] y.ls[i] (sx3 _ (List.getElem_mem _)) sg
    by_cases he : x.ls[i] = y.ls[i]
    · rw [if_pos he] at h1
      simp [hi', hib, hi, hi2, eL, h1]
      have := ih (fun j hj h => by
        by_cases e : j = i
        · subst e; exact he
        · exact hp j (by omega) h)
      simpa [w1] using this
    · rw [if_neg he] at h1
      have : ¬ x.ls = y.ls := fun h => he (hls.1 h i hi)
      simp [hi', hib, hi, hi2, eL, h1]
      simp [this]
  · intro hp
    have : x.ls = y.ls := hls.2 (fun i h => hp i h h)
    simp [← q4, hT, hS]
    simp [this]
end Go.AM

/-
Layer 20's statements: what is read of any bytes.
-/
namespace Go.AM
set_option linter.unusedSimpArgs false
set_option linter.unusedVariables false
theorem decR_zero {s : List UInt8} (h : (decR s).1 ≠ 0) : (decR s).2 = zeroI := by
  unfold decR at h ⊢
  by_cases h0 : hd0 s = 0
  case neg => rw [if_pos h0]
  rw [if_neg (by simpa using h0)] at h ⊢
  by_cases h1 : (openR s).2 = 0
  case neg => rw [if_pos h1]
  rw [if_neg (by simpa using h1)] at h ⊢
  generalize sctR (openR s).1 (bytesR ⟨(openR s).1, 0⟩ 10).1 = S at *
  by_cases h2 : S.1 = 0
  case neg => rw [if_pos h2]
  rw [if_neg (by simpa using h2)] at h ⊢
  generalize readS (kindF s) S.2 = R at *
  by_cases h3 : R.1 = 0
  case neg => rw [if_pos h3]
  rw [if_neg (by simpa using h3)] at h ⊢
  by_cases h4 : checkI R.2 = 0
  case neg => rw [if_pos h4]
  rw [if_neg (by simpa using h4)] at h
  simp at h
set_option maxRecDepth 20000 in
theorem c_law20_reads (s : List UInt8) (hs : s.length ≤ 1073741824) (sg) : LL.call n_c_law20_reads [.s (bs s)] sg sg.length = some (.b true, sg, sg.length) := by
  refine wp_call e_c_law20_reads rfl ?_
  have hD := c_file_Decode s hs sg
  have hF := c_ref20_Decode s hs sg
  have ee : (eLK .z 2 eI : List It → D) = eL 2 eI := rfl
  have er : (eLK .z 2 eR : List It → D) = eL 2 eR := rfl
  by_cases h0 : (decR s).1 = 0
  · obtain ⟨h1, h2, h3, h4⟩ := decR_inv h0
    have hl : s.length = 41 + (metaB (decR s).2).length + (dataB (decR s).2).length := by
      conv => lhs; rw [h3]
      exact encB_len _
    rw [h0] at hD hF
    generalize (decR s).2 = x at *
    have hI := c_law18_Is x x h1.ok h1.small h1.ok h1.small sg
    have hE := c_file_Encode x h1.ok h1.wr' h2 h1.k (by omega) (by omega) sg
    rw [← h3] at hE
    simp [eImK, eRmK, eIm, eRm, ee, er] at hD hF hI hE
    simp [F_c_law20_reads, hD, hF, hI, hE, bins]
  · have hz := decR_zero h0
    rw [hz] at hD hF
    have hb : ((decR s).1 != 0) = true := by simpa using h0
    have w0 : IntKind.i64.wrap 0 = 0 := by decide
    simp [eImK, eRmK, zeroI, h0] at hD hF
    simp [F_c_law20_reads, hD, hF, hb, w0]
theorem makeI_small2 (x : Raw) (h : x.ok) : (metaB (makeI x)).length ≤ 20 ∧ (dataB (makeI x)).length ≤ 17600 := by
  have hrd := makeI_rd x h
  have h1 := numB_len10 (n := (makeI x).p.toNat) (by have := hrd.p; omega)
  have h2 := numB_len10 (n := (makeI x).c.toNat) (by have := hrd.c; omega)
  have hl := makeI_lens x
  have hs := shape_le _ _ (makeI_legal x)
  have h3 := flatMap_len itemsB 1090 (makeI x).ls (fun l hl => by
    have := itemsB_len (fun y hy => ((makeI_ls x h l hl).2 y hy).1) (by have := (makeI_ls x h l hl).1; omega)
    have := (makeI_ls x h l hl).1
    omega)
  have h4 := flatMap_len (fun n : Int => numB n.toNat) 10 (makeI x).cs (fun n hn => numB_len10 (by have := hrd.cs n hn; omega))
  refine ⟨by simp [metaB]; omega, ?_⟩
  simp only [dataB, List.length_append]; omega
end Go.AM

/-
Layer 20's statements: the answers that the document fixes.
-/
namespace Go.AM
set_option linter.unusedSimpArgs false
set_option linter.unusedVariables false
def awkI : Im := ⟨4, 4, 0, [], [300]⟩
theorem awkI_rd : awkI.rd := ⟨by simp [awkI], by simp [awkI], by simp [awkI], rfl, rfl, by simp [awkI], by simp [awkI]⟩
theorem c_law20_awake : LL.call n_c_law20_awake [] [] 0 = some (.b true, [], 0) := by
  refine wp_call e_c_law20_awake rfl ?_
  have hm : metaB awkI = [4, 0] := by simp [metaB, awkI, numB_small]
  have hd : dataB awkI = [172, 2] := by
    have : numB 300 = [172, 2] := by rw [numB_big (by omega), numB_small (by omega)]; rfl
    simp [dataB, awkI, this]
  have hE := c_file_Encode awkI awkI_rd.ok awkI_rd.wr' (by decide) awkI_rd.k (by rw [hm]; simp) (by rw [hd]; simp) []
  have hl := encB_len awkI
  rw [hm, hd] at hl
  simp at hl
  obtain ⟨r, hr⟩ := encB_head awkI
  have h5 : (encB awkI).take 5 = [67, 82, 89, 79, 4] := by rw [hr]; simp
  have hD := c_file_Decode [67, 82, 89, 88] (by simp) []
  have hz : decR [67, 82, 89, 88] = (10, zeroI) := by unfold decR; rw [if_pos (by decide)]; rfl
  rw [hz] at hD
  generalize encB awkI = s at *
  have hl5 : 5 ≤ s.length := by omega
  simp [eIm, awkI] at hE
  simp [eImK, zeroI] at hD
  simp [F_c_law20_awake, hE, hD, hl, h5, bins]
  skip
end Go.AM

/-
Layer 20's statements: a file of which bytes are others; an image's file.
-/
namespace Go.AM
set_option linter.unusedSimpArgs false
set_option linter.unusedVariables false
/-- A place, of any number. -/
theorem place {n i : Int} (hn : 0 < n) (hn2 : n ≤ 1099511627776) : ∃ m : Nat, (IntKind.i64.wrap (i.tmod n + n)).tmod n = m ∧ (m : Int) < n := by
  have h1 := Int.tmod_lt_of_pos i hn
  have h2 := Int.lt_tmod_of_pos i hn
  rw [wrap64 (by omega), Int.tmod_eq_emod_of_nonneg (by omega)]
  have h3 := Int.emod_nonneg (i.tmod n + n) (b := n) (by omega)
  have h4 := Int.emod_lt_of_pos (i.tmod n + n) hn
  exact ⟨((i.tmod n + n) % n).toNat, by omega, by omega⟩
theorem fileSpoilt (x : Raw) (h : x.ok) (i j k : Int) (a b c : UInt8) : LL.call n_c_law20_FileSpoilt [eRaw x, .i .i64 i, .i .i64 j, .i .i64 k, eB a, eB b, eB c] [] 0 = some (.b true, [], 0) := by
  refine wp_call e_c_law20_FileSpoilt rfl ?_
  have ha := c_law20_awake
  have h1 := c_law17_Make x h []
  have hrd := makeI_rd x h
  have htd := toldI_make x h
  have hsz := makeI_small2 x h
  have hw : eRaw x = .a [.i .i64 x.k, .i .i64 x.p, .i .u64 x.c, .l .z 2 (x.is.map eR), .l .z 1 (x.cs.map (.i .i64)), .i .i64 x.sp] := rfl
  generalize makeI x = y at *
  have hT := c_law17_Told y hrd.ok hrd.small []
  rw [htd] at hT
  have hE := c_ref20_Encode y hrd.wr' hrd.k (by omega) (by omega) []
  have hel := encB_len y
  have ee : (eLK .z 2 eI : List It → D) = eL 2 eI := rfl
  have er : (eLK .z 2 eR : List It → D) = eL 2 eR := rfl
  simp [eImK, hw, eIm, eRmK, eRm, ee, er] at h1 hT hE
  generalize encB y = s at *
  obtain ⟨n, hn⟩ : ∃ n, s.length = n + 4 := ⟨s.length - 4, by omega⟩
  have w1 : IntKind.i64.wrap ((s.length : Int) - 4) = (n : Int) := by rw [wrap64 (by omega)]; omega
  have n1 : (n : Int) ≤ s.length := by omega
  have n2 : n ≤ s.length := by omega
  have hal : (s.take n).length = n := by simp; omega
  obtain ⟨m1, hm1, l1⟩ := place (n := n) (i := i) (by omega) (by omega)
  obtain ⟨m2, hm2, l2⟩ := place (n := n) (i := j) (by omega) (by omega)
  obtain ⟨m3, hm3, l3⟩ := place (n := n) (i := k) (by omega) (by omega)
  generalize halq : s.take n = al at *
  have hset : ∀ (l : List UInt8) (m : Nat) (c : UInt8), (l.map eB).set m (.i .u8 (c.toNat : Int)) = (l.set m c).map eB := by
    intro l m c; rw [List.map_set]; rfl
  have l1 : m1 < n := by omega
  have l2 : m2 < n := by omega
  have l3 : m3 < n := by omega
  obtain ⟨v1, g1⟩ : ∃ v, al[m1]? = some v := ⟨_, List.getElem?_eq_getElem (by omega)⟩
  obtain ⟨al1, ha1⟩ : ∃ q, al.set m1 a = q := ⟨_, rfl⟩
  have hl1 : al1.length = n := by rw [← ha1]; simpa using hal
  obtain ⟨v2, g2⟩ : ∃ v, al1[m2]? = some v := ⟨_, List.getElem?_eq_getElem (by omega)⟩
  obtain ⟨al2, ha2⟩ : ∃ q, al1.set m2 b = q := ⟨_, rfl⟩
  have hl2 : al2.length = n := by rw [← ha2]; simpa using hl1
  obtain ⟨v3, g3⟩ : ∃ v, al2[m3]? = some v := ⟨_, List.getElem?_eq_getElem (by omega)⟩
  obtain ⟨al3, ha3⟩ : ∃ q, al2.set m3 c = q := ⟨_, rfl⟩
  have hl3 : al3.length = n := by rw [← ha3]; simpa using hl2
  have hS := c_ref02_Seal al3 (by omega) []
  have hR := c_law20_reads (sealB al3) (by simp [sealB, fixB_len]; omega) []
  have n0 : ¬ n = 0 := by omega
  have e1 := hset al m1 a
  have e2 := hset al1 m2 b
  have e3 := hset al2 m3 c
  rw [ha1] at e1
  rw [ha2] at e2
  rw [ha3] at e3
  simp at hS hR
  rw [hw]
  simp [F_c_law20_FileSpoilt, ha, h1, hT, hE, ee, er, w1, n1, n2, halq, hal, hl1, hl2, hl3, hm1, hm2, hm3, n0, l1, l2, l3, g1, e1, g2, e2, g3, e3, hS, hR]
  skip
end Go.AM

/-
Layer 20's statements: a file of which bits are turned.
-/
namespace Go.AM
set_option linter.unusedSimpArgs false
set_option linter.unusedVariables false
theorem set_sum : ∀ (l : List (List It)) (i : Nat) (x : It), ((l.set i ((l[i]?).getD [] ++ [x])).map List.length).sum ≤ (l.map List.length).sum + 1
  | [], i, x => by simp
  | a :: l, 0, x => by simp; omega
  | a :: l, i + 1, x => by
    have := set_sum l i x
    simp only [List.set_cons_succ, List.map_cons, List.sum_cons, List.getElem?_cons_succ]; omega
theorem dealI_sum (n : Nat) : ∀ (r : List It) (a : List (List It)) (i : Nat), ((dealI n a i r).map List.length).sum ≤ (a.map List.length).sum + r.length
  | [], a, i => by simp [dealI]
  | x :: r, a, i => by
    rw [dealI]
    have h1 := dealI_sum n r (a.set (i % n) ((a[i % n]?).getD [] ++ [x.canon])) (i + 1)
    have h2 := set_sum a (i % n) x.canon
    simp only [List.length_cons]; omega
theorem makeI_sum60 (x : Raw) : ((makeI x).ls.map List.length).sum ≤ 60 := by
  have hd : ∀ n, ((dealI n (List.replicate n []) 0 (if n = 0 then [] else x.is.take 60)).map List.length).sum ≤ 60 := by
    intro n
    have h1 := dealI_sum n (if n = 0 then [] else x.is.take 60) (List.replicate n []) 0
    have h2 : ((List.replicate n ([] : List It)).map List.length).sum = 0 := by
      induction n with
      | zero => rfl
      | succ n ih => simp [List.replicate_succ]
    have h3 : (if n = 0 then [] else x.is.take 60).length ≤ 60 := by
      split
      · simp
      · simp; omega
    omega
  simp only [makeI]
  split
  · rw [List.map_map, show (List.length ∘ sortI) = List.length from funext sortI_len]
    exact hd _
  · exact hd _
theorem flat_items : ∀ (ls : List (List It)), (∀ l ∈ ls, (∀ y ∈ l, y.ok) ∧ l.length ≤ 1099511627776) → (ls.flatMap itemsB).length ≤ 10 * ls.length + 18 * (ls.map List.length).sum
  | [], _ => by simp
  | a :: l, h => by
    have h1 := itemsB_len (h a (by simp)).1 (h a (by simp)).2
    have h2 := flat_items l (fun m hm => h m (by simp [hm]))
    simp only [List.flatMap_cons, List.length_append, List.length_cons, List.map_cons, List.sum_cons]; omega
theorem makeI_tiny (x : Raw) (h : x.ok) : (metaB (makeI x)).length ≤ 20 ∧ (dataB (makeI x)).length ≤ 1400 := by
  have hrd := makeI_rd x h
  have hl := makeI_lens x
  have hs := shape_le _ _ (makeI_legal x)
  have h3 := flat_items (makeI x).ls (fun l hl => ⟨fun y hy => ((makeI_ls x h l hl).2 y hy).1, by have := (makeI_ls x h l hl).1; omega⟩)
  have h4 := flatMap_len (fun n : Int => numB n.toNat) 10 (makeI x).cs (fun n hn => numB_len10 (by have := hrd.cs n hn; omega))
  have h5 := makeI_sum60 x
  refine ⟨(makeI_small2 x h).1, ?_⟩
  simp only [dataB, List.length_append]; omega
/-- One bit is turned. -/
theorem turn_bit {b : List UInt8} {q : Nat} (h : q < 8 * b.length) : ∃ d c : UInt8, b[q / 8]? = some d ∧ bits .xor .u8 d.toNat (2 ^ (q % 8) : Nat) = (c.toNat : Int) ∧ (b.map eB).set (q / 8) (.i .u8 (c.toNat : Int)) = (b.set (q / 8) c).map eB ∧ leV (b.set (q / 8) c) = leV b ^^^ 2 ^ q := by
  have hl : q / 8 < b.length := by omega
  have hm : 2 ^ (q % 8) < 256 := by
    have : 2 ^ (q % 8) ≤ 2 ^ 7 := Nat.pow_le_pow_right (by omega) (by omega)
    have e : (2 : Nat) ^ 7 = 128 := by decide
    omega
  have hx := u8_xor b[q / 8].toNat (2 ^ (q % 8)) (u8_lt _) hm
  have hlt : b[q / 8].toNat ^^^ 2 ^ (q % 8) < 256 := Nat.xor_lt_two_pow (n := 8) (u8_lt _) hm
  refine ⟨b[q / 8], UInt8.ofNat (b[q / 8].toNat ^^^ 2 ^ (q % 8)), List.getElem?_eq_getElem hl, ?_, ?_, ?_⟩
  · rw [ofNat_toNat' hlt]; exact hx
  · rw [List.map_set]; rfl
  · rw [leV_set b (q / 8) _ (2 ^ (q % 8)) ⟨b[q / 8], List.getElem?_eq_getElem hl, ofNat_toNat' hlt⟩, ← Nat.pow_add, show 8 * (q / 8) + q % 8 = q by omega]
theorem mod_pow_succ (a k : Nat) : a % 2 ^ (k + 1) = if a / 2 ^ k % 2 = 1 then a % 2 ^ k ^^^ 2 ^ k else a % 2 ^ k := by
  apply Nat.eq_of_testBit_eq
  intro i
  have hb : a.testBit k = (a / 2 ^ k % 2 == 1) := by
    have : (a / 2 ^ k).testBit 0 = a.testBit (0 + k) := Nat.testBit_div_two_pow a 0
    rw [Nat.zero_add] at this
    rw [← this, Nat.testBit_zero]
    by_cases h : a / 2 ^ k % 2 = 1 <;> simp [h]
  split
  · rename_i h
    rw [h] at hb
    rw [Nat.testBit_xor, Nat.testBit_mod_two_pow, Nat.testBit_mod_two_pow, Nat.testBit_two_pow]
    by_cases e : k = i
    · subst e; simp [hb]
    · by_cases h2 : i < k
      · have : i < k + 1 := by omega
        simp [e, h2, this]
      · have : ¬ i < k + 1 := by omega
        simp [e, h2, this]
  · rename_i h
    have hb : a.testBit k = false := by rw [hb]; simpa using h
    rw [Nat.testBit_mod_two_pow, Nat.testBit_mod_two_pow]
    by_cases e : k = i
    · subst e; simp [hb]
    · by_cases h2 : i < k
      · have : i < k + 1 := by omega
        simp [h2, this]
      · have : ¬ i < k + 1 := by omega
        simp [h2, this]
/-- What is read as a file is sealed. -/
theorem decR_reg {t : List UInt8} (h : (decR t).1 = 0) : reg t = stps 32 4294967295 := by
  obtain ⟨-, -, h3, -⟩ := decR_inv h
  rw [h3]; exact reg_seal _
theorem same_iff {s t : List UInt8} (hl : s.length = t.length) : s = t ↔ leV s ^^^ leV t = 0 := by
  constructor
  · intro h; rw [h, Nat.xor_self]
  · intro h
    refine leV_inj s t hl ?_
    have := congrArg (· ^^^ leV t) h
    simp only [Nat.xor_assoc, Nat.xor_self, Nat.xor_zero, Nat.zero_xor] at this
    exact this
set_option maxHeartbeats 1000000 in
set_option maxRecDepth 20000 in
theorem fileBursts (x : Raw) (h : x.ok) (at_ : Int) (bits_ : Nat) (hbits : bits_ < 4294967296) (fl : List Int) (hfl : fl.length ≤ 9223372036854775807) : LL.call n_c_law20_FileBursts [eRaw x, .i .i64 at_, .i .u32 bits_, .l .z 1 (fl.map (.i .i64))] [] 0 = some (.b true, [], 0) := by
  refine wp_call e_c_law20_FileBursts rfl ?_
  have ha := c_law20_awake
  have h1 := c_law17_Make x h []
  have hrd := makeI_rd x h
  have htd := toldI_make x h
  have hck := makeI_check x h
  have hsz := makeI_tiny x h
  have hw : eRaw x = .a [.i .i64 x.k, .i .i64 x.p, .i .u64 x.c, .l .z 2 (x.is.map eR), .l .z 1 (x.cs.map (.i .i64)), .i .i64 x.sp] := rfl
  generalize makeI x = y at *
  have hT := c_law17_Told y hrd.ok hrd.small []
  rw [htd] at hT
  have hE := c_ref20_Encode y hrd.wr' hrd.k (by omega) (by omega) []
  have hel := encB_len y
  have hsd : (decR (encB y)).1 = 0 := by rw [decR_enc hrd hck (by omega)]
  have ee : (eLK .z 2 eI : List It → D) = eL 2 eI := rfl
  have er : (eLK .z 2 eR : List It → D) = eL 2 eR := rfl
  simp [eImK, hw, eIm, eRmK, eRm, ee, er] at h1 hT hE
  generalize encB y = s at *
  have hrs := decR_reg hsd
  have w01 : IntKind.i64.wrap 1 = 1 := by decide
  have hn1 : s.length ≤ 1461 := by omega
  have hn0 : 41 ≤ s.length := by omega
  have w8 : IntKind.i64.wrap (8 * (s.length : Int)) = 8 * s.length := wrap64 (by omega)
  obtain ⟨N, hN⟩ : ∃ N, N = 8 * s.length := ⟨_, rfl⟩
  have w8' : IntKind.i64.wrap (8 * (s.length : Int)) = (N : Int) := by rw [w8]; omega
  obtain ⟨A, hA, hAl⟩ := place (n := N) (i := at_) (by omega) (by omega)
  have hAl : A < N := by omega
  have hN0 : ¬ N = 0 := by omega
  rw [hw]
  simp [F_c_law20_FileBursts, ha, h1, hT, hE, ee, er, w8', hA, hN0]
  refine wc_ind (fun a : Nat × List UInt8 × Bool => ⟨[(1, .v (.i .i64 A)), (2, .v (.i .u32 bits_)), (3, .v (.l .z 1 (fl.map (.i .i64)))), (9, .v (.s (bs s))), (10, .v (.i .i64 N)), (11, if a.2.2 = true then .q (Q.hdr 11) else .v (.l .x 1 (a.2.1.map eB))), (12, .v (.b a.2.2)), (13, .v (.i .i64 a.1))], if a.2.2 = true then [(11, [.l .x 1 (a.2.1.map eB)])] else [], [], 0⟩) (fun a => 32 - a.1)
    (fun a => a.1 ≤ 32 ∧ a.2.1.length = s.length ∧ leV s ^^^ leV a.2.1 = 2 ^ A * (bits_ % 2 ^ a.1) ∧ a.2.2 = decide (bits_ % 2 ^ a.1 ≠ 0)) ?_ (0, s, false) ⟨by simp, rfl, by simp [Nat.mod_one], by simp [Nat.mod_one]⟩
  rintro ⟨k, b, ch⟩ ⟨g1, g2, g3, g4⟩ ih
  simp only at g1 g2 g3 g4
  have w1 : IntKind.i64.wrap ((A : Int) + k) = ((A + k : Nat) : Int) := by rw [wrap64 (by omega)]; omega
  have w2 : IntKind.i64.wrap ((k : Int) + 1) = k + 1 := wrap64 (by omega)
  by_cases hk : k < 32 ∧ A + k < N
  · have hk1 : (k : Int) < 32 := by omega
    have hk2 : ((A + k : Nat) : Int) < N := by omega
    obtain ⟨q, hq⟩ : ∃ q, q = A + k := ⟨_, rfl⟩
    rw [← hq] at w1 hk2
    obtain ⟨d, c, t1, t2, t3, t4⟩ := turn_bit (b := b) (q := q) (by omega)
    have hms := mod_pow_succ bits_ k
    have hkm : min k 32 = k := by omega
    have e1 : (bits_ : Int).fdiv (2 ^ min k IntKind.u32.bits) = ((bits_ / 2 ^ k : Nat) : Int) := by
      rw [Int.fdiv_eq_ediv_of_nonneg _ (Int.pow_nonneg (by omega))]
      have : min k IntKind.u32.bits = k := by simp [IntKind.bits]; omega
      rw [this]; simp
    have e2 : bits .and .u32 ((bits_ / 2 ^ k : Nat) : Int) 1 = ((bits_ / 2 ^ k % 2 : Nat) : Int) := u32_and1 _ (by have := Nat.div_le_self bits_ (2 ^ k); omega)
    generalize hX : bits_ / 2 ^ k = X at *
    by_cases hbit : X % 2 = 1
    · have hb : ((X : Int) % 2 == 1) = true := by simp; omega
      rw [if_pos hbit] at hms
      obtain ⟨j, hj⟩ : ∃ j, q / 8 = j := ⟨_, rfl⟩
      obtain ⟨P, hP⟩ : ∃ P, 2 ^ (q % 8) = P := ⟨_, rfl⟩
      have hP256 : P < 256 := by
        have h2 : 2 ^ (q % 8) ≤ 2 ^ 7 := Nat.pow_le_pow_right (by omega) (by omega)
        have e7 : (2 : Nat) ^ 7 = 128 := by decide
        omega
      have f1 : (q : Int).tdiv 8 = (j : Int) := by rw [← hj]; rfl
      obtain ⟨e, he⟩ : ∃ e, q % 8 = e := ⟨_, rfl⟩
      have f2 : (q : Int).tmod 8 = (e : Int) := by rw [← he]; rfl
      have f3 : IntKind.i64.wrap (j : Int) = j := wrap64 (by omega)
      have f4 : j < b.length := by omega
      have f4' : (j : Int) < b.length := by omega
      have f5 : IntKind.u8.wrap (2 ^ min e IntKind.u8.bits) = (P : Int) := by
        have : min e IntKind.u8.bits = e := by simp [IntKind.bits]; omega
        rw [this, wrap_u8, show (2 : Int) ^ e = (P : Int) by rw [← hP, he]; simp]; omega
      rw [hj] at t1 t3 t4
      rw [hP] at t2
      have hd : b[j] = d := by rw [List.getElem?_eq_getElem f4] at t1; exact Option.some.inj t1
      have t2' : bits .xor .u8 (b[j].toNat : Int) (P : Int) = (c.toNat : Int) := by rw [hd]; exact t2
      have := ih (k + 1, b.set j c, true) (by simp; omega) ⟨by simp; omega, by simpa using g2, by
        simp only
        rw [t4, ← Nat.xor_assoc, g3, hms, hq, Nat.pow_add, mul_xor], by
        simp only
        rw [hms]
        have : bits_ % 2 ^ k ^^^ 2 ^ k ≠ 0 := by
          intro h0
          have h1 := congrArg (· ^^^ 2 ^ k) h0
          simp only [Nat.xor_assoc, Nat.xor_self, Nat.xor_zero, Nat.zero_xor] at h1
          have := Nat.mod_lt bits_ (Nat.two_pow_pos k)
          omega
        simpa using this⟩
      cases ch
      · simp [hk1, hk2, w1, e1, e2, hb, f1, f2, f3, f4, f4', f5, t2']
        simpa [w2] using this
      · simp [hk1, hk2, w1, e1, e2, hb, f1, f2, f3, f4, f4', f5, t2']
        simpa [w2] using this
    · have hb : ((X : Int) % 2 == 1) = false := by simp; omega
      rw [if_neg hbit] at hms
      have := ih (k + 1, b, ch) (by simp; omega) ⟨by simp; omega, g2, by rw [hms]; exact g3, by rw [hms]; exact g4⟩
      cases ch
      · simp [hk1, hk2, w1, e1, e2, hb]
        simpa [w2] using this
      · simp [hk1, hk2, w1, e1, e2, hb]
        simpa [w2] using this
  · have hD := c_file_Decode b (by omega) []
    have hde : ((decR b).1 == 0) = !ch := by
      rw [g4]
      by_cases hB : bits_ % 2 ^ k = 0
      · have hsb : s = b := (same_iff g2.symm).2 (by rw [g3, hB]; simp)
        rw [← hsb, hsd]; simp [hB]
      · have : (decR b).1 ≠ 0 := by
          intro h0
          have hz := two_seals g2.symm hrs (decR_reg h0)
          rw [g3, ← hN] at hz
          exact hB (burst (by omega) (by have := Nat.mod_le bits_ (2 ^ k); omega) hz)
        simp [hB, this]
    have hex : (¬ k < 32) ∨ (k < 32 ∧ ¬ A + k < N) := by omega
    clear ih g3 g4
    rcases hex with hk | ⟨hk, hA2⟩ <;> cases ch <;> simp only [Bool.not_true, Bool.not_false] at hde
    have hk1 : ¬ (k : Int) < 32 := by omega
    have hdz : (decR b).1 = 0 := by simpa using hde
    simp [hdz, eImK] at hD
    simp [hk, hk1, hD]
    rotate_left
    have hk1 : ¬ (k : Int) < 32 := by omega
    have hdz : (decR b).1 ≠ 0 := by simpa using hde
    simp [hdz, eImK] at hD
    simp [hk, hk1, hD, hde]
    rotate_left
    have hk1 : (k : Int) < 32 := by omega
    have hk2 : ¬ (A : Int) + k < N := by omega
    have hdz : (decR b).1 = 0 := by simpa using hde
    simp [hdz, eImK] at hD
    simp [hk, hk1, w1, hA2, hk2, hD]
    rotate_left
    have hk1 : (k : Int) < 32 := by omega
    have hk2 : ¬ (A : Int) + k < N := by omega
    have hdz : (decR b).1 ≠ 0 := by simpa using hde
    simp [hdz, eImK] at hD
    simp [hk, hk1, w1, hA2, hk2, hD, hde]
    rotate_left
    all_goals
      clear hD hde w1 w2
      refine wc_ind (fun a : Nat × List UInt8 × List Nat => ⟨[(3, .v (.l .z 1 (fl.map (.i .i64)))), (9, .v (.s (bs s))), (10, .v (.i .i64 N)), (11, if a.1 = 0 then .v (.l .x 1 (a.2.1.map eB)) else .q (Q.hdr 11)), (16, .v (.i .i64 a.1))], if a.1 = 0 then [] else [(11, [.l .x 1 (a.2.1.map eB)])], [], 0⟩) (fun a => 3 - a.1)
        (fun a => a.1 ≤ 3 ∧ a.2.1.length = s.length ∧ a.2.2.length = a.1 ∧ (∀ i ∈ a.2.2, i < N) ∧ leV s ^^^ leV a.2.1 = a.2.2.foldl (fun e i => e ^^^ 2 ^ i) 0 ∧ a.1 ≤ fl.length) ?_ (0, s, []) ⟨by simp, rfl, rfl, by simp, by simp, by simp⟩
      rintro ⟨i, b, ks⟩ ⟨g1, g2, g3, g4, g5, g6⟩ ih
      simp only at g1 g2 g3 g4 g5 g6
      have w2 : IntKind.i64.wrap ((i : Int) + 1) = i + 1 := wrap64 (by omega)
      by_cases hi : i < fl.length ∧ i < 3
      · have hi1 : (i : Int) < fl.length := by omega
        have hi2 : (i : Int) < 3 := by omega
        have hi1n := hi.1
        have hi2n := hi.2
        obtain ⟨q, hq, hql⟩ := place (n := N) (i := fl[i]) (by omega) (by omega)
        have hqN : q < N := by omega
        obtain ⟨d, c, t1, t2, t3, t4⟩ := turn_bit (b := b) (q := q) (by omega)
        obtain ⟨j, hj⟩ : ∃ j, q / 8 = j := ⟨_, rfl⟩
        obtain ⟨P, hP⟩ : ∃ P, 2 ^ (q % 8) = P := ⟨_, rfl⟩
        have hP256 : P < 256 := by
          have h2 : 2 ^ (q % 8) ≤ 2 ^ 7 := Nat.pow_le_pow_right (by omega) (by omega)
          have e7 : (2 : Nat) ^ 7 = 128 := by decide
          omega
        have f1 : (q : Int).tdiv 8 = (j : Int) := by rw [← hj]; rfl
        obtain ⟨e, he⟩ : ∃ e, q % 8 = e := ⟨_, rfl⟩
        have f2 : (q : Int).tmod 8 = (e : Int) := by rw [← he]; rfl
        have f3 : IntKind.i64.wrap (j : Int) = j := wrap64 (by omega)
        have f4 : j < b.length := by omega
        have f4' : (j : Int) < b.length := by omega
        have f5 : IntKind.u8.wrap (2 ^ min e IntKind.u8.bits) = (P : Int) := by
          have : min e IntKind.u8.bits = e := by simp [IntKind.bits]; omega
          rw [this, wrap_u8, show (2 : Int) ^ e = (P : Int) by rw [← hP, he]; simp]; omega
        rw [hj] at t1 t3 t4
        rw [hP] at t2
        have hd : b[j] = d := by rw [List.getElem?_eq_getElem f4] at t1; exact Option.some.inj t1
        have t2' : bits .xor .u8 (b[j].toNat : Int) (P : Int) = (c.toNat : Int) := by rw [hd]; exact t2
        have := ih (i + 1, b.set j c, ks ++ [q]) (by simp; omega) ⟨by simp; omega, by simpa using g2, by simp [g3], by
          intro z hz
          rcases List.mem_append.1 hz with hz | hz
          · exact g4 z hz
          · simp at hz; omega, by
          simp only
          rw [t4, ← Nat.xor_assoc, g5, List.foldl_append]; rfl, by simp; omega⟩
        by_cases hi0 : i = 0
        · subst hi0
          simp [hi1, hi1n, hq, hN0, f1, f2, f3, f4, f4', f5, t2']
          simpa [w01] using this
        · simp [hi0, hi1, hi2, hi1n, hi2n, hq, hN0, f1, f2, f3, f4, f4', f5, t2']
          simpa [w2] using this
      · have hD := c_file_Decode b (by omega) []
        have hbs : (decR b).1 = 0 ↔ b = s := by
          constructor
          · intro h0
            have hz := two_seals g2.symm hrs (decR_reg h0)
            rw [g5, ← hN] at hz
            have := flips0 (by omega) ks (by omega) g4 hz
            exact ((same_iff g2.symm).2 (by rw [g5]; exact this)).symm
          · intro h0; rw [h0]; exact hsd
        have hex : (¬ i < fl.length) ∨ (i < fl.length ∧ ¬ i < 3) := by omega
        clear ih g5 g4
        by_cases hb : b = s
        · have hdz := hbs.2 hb
          simp [hdz, eImK] at hD
          have hbb : (b == s) = true := by simpa using hb
          rcases hex with hk | ⟨hk, hA2⟩
          · have hk1 : ¬ (i : Int) < fl.length := by omega
            by_cases hi0 : i = 0
            · subst hi0
              simp [hk, hk1, hD, bins, hbb]
              skip
            · simp [hi0, hk, hk1, hD, bins, hbb]
              skip
          · have hk1 : (i : Int) < fl.length := by omega
            have hk2 : ¬ (i : Int) < 3 := by omega
            have hi0 : ¬ i = 0 := by omega
            simp [hi0, hk, hk1, hA2, hk2, hD, bins, hbb]
            skip
        · have hdz : ¬ (decR b).1 = 0 := fun h => hb (hbs.1 h)
          have hde : ((decR b).1 == 0) = false := by simpa using hdz
          simp [hdz, eImK] at hD
          have hbb : (b == s) = false := by simpa using hb
          rcases hex with hk | ⟨hk, hA2⟩
          · have hk1 : ¬ (i : Int) < fl.length := by omega
            by_cases hi0 : i = 0
            · subst hi0
              simp [hk, hk1, hD, bins, hbb, hde]
              skip
            · simp [hi0, hk, hk1, hD, bins, hbb, hde]
              skip
          · have hk1 : (i : Int) < fl.length := by omega
            have hk2 : ¬ (i : Int) < 3 := by omega
            have hi0 : ¬ i = 0 := by omega
            simp [hi0, hk, hk1, hA2, hk2, hD, bins, hbb, hde]
            skip
end Go.AM

/-
What data a law is asked of, opened: numbers, bytes, raw images.
-/
namespace Go.AM
set_option linter.unusedSimpArgs false
set_option linter.unusedVariables false
theorem wf_i64 {n : Int} (h : (Lit.int .i64 n).wf = true) : -9223372036854775808 ≤ n ∧ n ≤ 9223372036854775807 := by
  simpa [Lit.wf, IntKind.min, IntKind.max, IntKind.signed, IntKind.bits] using h
theorem wf_u64 {n : Int} (h : (Lit.int .u64 n).wf = true) : 0 ≤ n ∧ n < 18446744073709551616 := by
  have : 0 ≤ n ∧ n ≤ 18446744073709551615 := by simpa [Lit.wf, IntKind.min, IntKind.max, IntKind.signed, IntKind.bits] using h
  omega
theorem wf_u32 {n : Int} (h : (Lit.int .u32 n).wf = true) : 0 ≤ n ∧ n < 4294967296 := by
  have : 0 ≤ n ∧ n ≤ 4294967295 := by simpa [Lit.wf, IntKind.min, IntKind.max, IntKind.signed, IntKind.bits] using h
  omega
theorem wf_u8 {n : Int} (h : (Lit.int .u8 n).wf = true) : 0 ≤ n ∧ n < 256 := by
  have : 0 ≤ n ∧ n ≤ 255 := by simpa [Lit.wf, IntKind.min, IntKind.max, IntKind.signed, IntKind.bits] using h
  omega
theorem fits_i {k : IntKind} {d : D} (h : Fits (.i k) [d]) : ∃ n, d = .i k n ∧ (Lit.int k n).wf = true := by
  cases h with | i k n h => exact ⟨n, rfl, h⟩
theorem fits_b {d : D} (h : Fits .b [d]) : ∃ x, d = .b x := by
  cases h with | b x => exact ⟨x, rfl⟩
theorem fits_s {d : D} (h : Fits .s [d]) : ∃ v, d = .s v ∧ v.size ≤ maxLen := by
  cases h with | s v h => exact ⟨v, rfl, h⟩
theorem fits_ints {k : IntKind} : ∀ xs : List D, (∀ x ∈ xs, Fits (.i k) x.cells) → (∀ x ∈ xs, ∃ c, x = c ∧ c.cells = [c]) → ∃ ns : List Int, xs = ns.map (.i k) ∧ ∀ n ∈ ns, (Lit.int k n).wf = true
  | [], _, _ => ⟨[], rfl, by simp⟩
  | x :: xs, h, hc => by
    obtain ⟨ns, e, hn⟩ := fits_ints xs (fun y hy => h y (by simp [hy])) (fun y hy => hc y (by simp [hy]))
    obtain ⟨c, rfl, h2⟩ := hc x (by simp)
    have := h x (by simp)
    rw [h2] at this
    obtain ⟨n, rfl, hw⟩ := fits_i this
    exact ⟨n :: ns, by simp [e], by simpa [hw] using hn⟩
theorem fits_l {k : IntKind} {d : D} (h : Fits (.l 1 false (.i k)) [d]) : ∃ ns : List Int, d = .l .z 1 (ns.map (.i k)) ∧ (∀ n ∈ ns, (Lit.int k n).wf = true) ∧ ns.length ≤ maxLen := by
  cases h with
  | l sz agg e xs hl hx ha =>
    obtain ⟨ns, e, hn⟩ := fits_ints xs hx (by simpa using ha)
    subst e
    exact ⟨ns, rfl, hn, by simpa using hl⟩
abbrev tItem : Ty := .st [.i .u64, .i .i64]
abbrev tRaw : Ty := .st [.i .i64, .i .i64, .i .u64, .l 2 true tItem, .l 1 false (.i .i64), .i .i64]
theorem fitss_cons1 {f : Ty} {fs : List Ty} {cs : List D} (h : Fitss (f :: fs) cs) (hf : ∀ c, Fits f c → ∃ d, c = [d]) : ∃ d r, cs = d :: r ∧ Fits f [d] ∧ Fitss fs r := by
  cases h with
  | cons h k => obtain ⟨d, rfl⟩ := hf _ h; exact ⟨d, _, rfl, h, k⟩
theorem one_i (k : IntKind) (c : List D) (h : Fits (.i k) c) : ∃ d, c = [d] := by cases h; exact ⟨_, rfl⟩
theorem one_l (sz : Nat) (a : Bool) (T : Ty) (c : List D) (h : Fits (.l sz a T) c) : ∃ d, c = [d] := by cases h; exact ⟨_, rfl⟩
theorem one_s (c : List D) (h : Fits .s c) : ∃ d, c = [d] := by cases h; exact ⟨_, rfl⟩
theorem one_b (c : List D) (h : Fits .b c) : ∃ d, c = [d] := by cases h; exact ⟨_, rfl⟩
theorem fitss_nil {cs : List D} (h : Fitss [] cs) : cs = [] := by cases h; rfl
theorem fits_item {cs : List D} (h : Fits tItem cs) : ∃ x : It, D.a cs = eR x ∧ x.ok := by
  cases h with
  | st h =>
    obtain ⟨d1, r, rfl, h1, h⟩ := fitss_cons1 h (one_i _)
    obtain ⟨d2, r, rfl, h2, h⟩ := fitss_cons1 h (one_i _)
    have := fitss_nil h; subst this
    obtain ⟨n1, rfl, w1⟩ := fits_i h1
    obtain ⟨n2, rfl, w2⟩ := fits_i h2
    have := wf_u64 w1
    have := wf_i64 w2
    refine ⟨⟨n1.toNat, n2⟩, ?_, ?_, ?_⟩
    · have : ((n1.toNat : Nat) : Int) = n1 := by omega
      simp [this]
    · simp; omega
    · simpa using this
theorem fits_items : ∀ xs : List D, (∀ x ∈ xs, Fits tItem x.cells) → (∀ x ∈ xs, ∃ cs, x = .a cs) → ∃ ns : List It, xs = ns.map eR ∧ ∀ n ∈ ns, n.ok
  | [], _, _ => ⟨[], rfl, by simp⟩
  | x :: xs, h, hc => by
    obtain ⟨ns, e, hn⟩ := fits_items xs (fun y hy => h y (by simp [hy])) (fun y hy => hc y (by simp [hy]))
    obtain ⟨cs, rfl⟩ := hc x (by simp)
    obtain ⟨y, e2, hy⟩ := fits_item (h _ (by simp : D.a cs ∈ D.a cs :: xs))
    exact ⟨y :: ns, by rw [e, List.map_cons, ← e2]; rfl, by simpa [hy] using hn⟩
theorem fits_raw {cs : List D} (h : Fits tRaw cs) : ∃ x : Raw, D.a cs = eRaw x ∧ x.ok := by
  cases h with
  | st h =>
    obtain ⟨d1, r, rfl, h1, h⟩ := fitss_cons1 h (one_i _)
    obtain ⟨d2, r, rfl, h2, h⟩ := fitss_cons1 h (one_i _)
    obtain ⟨d3, r, rfl, h3, h⟩ := fitss_cons1 h (one_i _)
    obtain ⟨d4, r, rfl, h4, h⟩ := fitss_cons1 h (one_l _ _ _)
    obtain ⟨d5, r, rfl, h5, h⟩ := fitss_cons1 h (one_l _ _ _)
    obtain ⟨d6, r, rfl, h6, h⟩ := fitss_cons1 h (one_i _)
    have := fitss_nil h; subst this
    obtain ⟨n1, rfl, w1⟩ := fits_i h1
    obtain ⟨n2, rfl, w2⟩ := fits_i h2
    obtain ⟨n3, rfl, w3⟩ := fits_i h3
    obtain ⟨n5, rfl, w5, l5⟩ := fits_l h5
    obtain ⟨n6, rfl, w6⟩ := fits_i h6
    cases h4 with
    | l sz agg e xs hl hx ha =>
      obtain ⟨is, rfl, hi⟩ := fits_items xs hx (by simpa using ha)
      exact ⟨⟨n1, n2, n3, is, n5, n6⟩, rfl, hi, wf_u64 w3, wf_i64 w6⟩
end Go.AM

/- Every function of the table is the program's. -/
namespace Go.AM
set_option linter.unusedVariables false
open Go.Proofs
set_option maxRecDepth 100000
theorem fol : Try.prog.follows .mixedOrders = true := by kernel_rfl
theorem tab_ok : tab.all (fun p => chkFn Try.prog EE.fbits EE.frb p.1 p.2) = true := by kernel_rfl
theorem look_in {α : Type} {k : Nat} {x : α} : ∀ {l : List (Nat × α)}, look k l = some x → (k, x) ∈ l
  | (j, y) :: r, h => by
    simp only [look] at h
    split at h
    · rename_i e; cases h; subst e; simp
    · exact List.mem_cons_of_mem _ (look_in h)
theorem env_ok : EnvOK Try.prog EE := fun f af h => List.all_eq_true.1 tab_ok (f, af) (look_in h)
theorem lib_ok : Lib Try.prog EE.fbits EE.frb EE.meth where
  bits := fun f h n w => by cases h; rfl
  frb := fun f h n w => by cases h; rfl
  meth := fun t nm f h => (nomatch h)
end Go.AM

namespace Go.AM
open Go.Proofs
set_option linter.unusedSimpArgs false
set_option linter.unusedVariables false
def args_FileBursts : List (Bool × Ty) := [(true, tRaw), (false, .i .i64), (false, .i .u32), (false, .l 1 false (.i .i64))]
theorem args_FileBursts_ok : tyA Try.prog [26, 3, 84, 37] = some args_FileBursts := by kernel_rfl
theorem law_FileBursts (ds : List D) (h : FitA args_FileBursts ds) : ∃ sg lo, (lim EE).call n_c_law20_FileBursts ds [] 0 = some (.b true, sg, lo) := by
  cases h with
  | a h1 k =>
    obtain ⟨x, e1, hx⟩ := fits_raw h1
    cases k with
    | c h2 k =>
      obtain ⟨n2, rfl, w2⟩ := fits_i h2
      cases k with
      | c h3 k =>
        obtain ⟨n3, rfl, w3⟩ := fits_i h3
        cases k with
        | c h4 k =>
          obtain ⟨n4, rfl, w4, l4⟩ := fits_l h4
          cases k
          have h3 := wf_u32 w3
          have e3 : ((n3.toNat : Nat) : Int) = n3 := by omega
          rw [e1, ← e3]
          exact ⟨[], 0, fileBursts x hx n2 n3.toNat (by omega) n4 l4⟩
end Go.AM
