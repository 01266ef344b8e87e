/- Lemmas: an abstract machine over the loaded program, proved sound against the model once; what the program's functions compute. -/
import Derived.Test.YtpckpfohnpljgaaK5
import Derived.Test.YtpckpfohnpljgaaK2
import Derived.Test.YtpckpfohnpljgaaK4
import Derived.Test.YtpckpfohnpljgaaProg
/-
What data a law is asked of, opened: numbers, bytes, raw images.
-/
namespace Go.AM
set_option linter.unusedSimpArgs false
set_option linter.unusedVariables false
theorem wf_i64 {n : Int} (h : (Lit.int .i64 n).wf = true) : -9223372036854775808 ≤ n ∧ n ≤ 9223372036854775807 := by
  simpa [Lit.wf, IntKind.min, IntKind.max, IntKind.signed, IntKind.bits] using h
theorem wf_u64 {n : Int} (h : (Lit.int .u64 n).wf = true) : 0 ≤ n ∧ n < 18446744073709551616 := by
  have : 0 ≤ n ∧ n ≤ 18446744073709551615 := by simpa [Lit.wf, IntKind.min, IntKind.max, IntKind.signed, IntKind.bits] using h
  omega
theorem wf_u32 {n : Int} (h : (Lit.int .u32 n).wf = true) : 0 ≤ n ∧ n < 4294967296 := by
  have : 0 ≤ n ∧ n ≤ 4294967295 := by simpa [Lit.wf, IntKind.min, IntKind.max, IntKind.signed, IntKind.bits] using h
  omega
theorem wf_u8 {n : Int} (h : (Lit.int .u8 n).wf = true) : 0 ≤ n ∧ n < 256 := by
  have : 0 ≤ n ∧ n ≤ 255 := by simpa [Lit.wf, IntKind.min, IntKind.max, IntKind.signed, IntKind.bits] using h
  omega
theorem fits_i {k : IntKind} {d : D} (h : Fits (.i k) [d]) : ∃ n, d = .i k n ∧ (Lit.int k n).wf = true := by
  cases h with | i k n h => exact ⟨n, rfl, h⟩
theorem fits_b {d : D} (h : Fits .b [d]) : ∃ x, d = .b x := by
  cases h with | b x => exact ⟨x, rfl⟩
theorem fits_s {d : D} (h : Fits .s [d]) : ∃ v, d = .s v ∧ v.size ≤ maxLen := by
  cases h with | s v h => exact ⟨v, rfl, h⟩
theorem fits_ints {k : IntKind} : ∀ xs : List D, (∀ x ∈ xs, Fits (.i k) x.cells) → (∀ x ∈ xs, ∃ c, x = c ∧ c.cells = [c]) → ∃ ns : List Int, xs = ns.map (.i k) ∧ ∀ n ∈ ns, (Lit.int k n).wf = true
  | [], _, _ => ⟨[], rfl, by simp⟩
  | x :: xs, h, hc => by
    obtain ⟨ns, e, hn⟩ := fits_ints xs (fun y hy => h y (by simp [hy])) (fun y hy => hc y (by simp [hy]))
    obtain ⟨c, rfl, h2⟩ := hc x (by simp)
    have := h x (by simp)
    rw [h2] at this
    obtain ⟨n, rfl, hw⟩ := fits_i this
    exact ⟨n :: ns, by simp [e], by simpa [hw] using hn⟩
theorem fits_l {k : IntKind} {d : D} (h : Fits (.l 1 false (.i k)) [d]) : ∃ ns : List Int, d = .l .z 1 (ns.map (.i k)) ∧ (∀ n ∈ ns, (Lit.int k n).wf = true) ∧ ns.length ≤ maxLen := by
  cases h with
  | l sz agg e xs hl hx ha =>
    obtain ⟨ns, e, hn⟩ := fits_ints xs hx (by simpa using ha)
    subst e
    exact ⟨ns, rfl, hn, by simpa using hl⟩
abbrev tItem : Ty := .st [.i .u64, .i .i64]
abbrev tRaw : Ty := .st [.i .i64, .i .i64, .i .u64, .l 2 true tItem, .l 1 false (.i .i64), .i .i64]
theorem fitss_cons1 {f : Ty} {fs : List Ty} {cs : List D} (h : Fitss (f :: fs) cs) (hf : ∀ c, Fits f c → ∃ d, c = [d]) : ∃ d r, cs = d :: r ∧ Fits f [d] ∧ Fitss fs r := by
  cases h with
  | cons h k => obtain ⟨d, rfl⟩ := hf _ h; exact ⟨d, _, rfl, h, k⟩
theorem one_i (k : IntKind) (c : List D) (h : Fits (.i k) c) : ∃ d, c = [d] := by cases h; exact ⟨_, rfl⟩
theorem one_l (sz : Nat) (a : Bool) (T : Ty) (c : List D) (h : Fits (.l sz a T) c) : ∃ d, c = [d] := by cases h; exact ⟨_, rfl⟩
theorem one_s (c : List D) (h : Fits .s c) : ∃ d, c = [d] := by cases h; exact ⟨_, rfl⟩
theorem one_b (c : List D) (h : Fits .b c) : ∃ d, c = [d] := by cases h; exact ⟨_, rfl⟩
theorem fitss_nil {cs : List D} (h : Fitss [] cs) : cs = [] := by cases h; rfl
theorem fits_item {cs : List D} (h : Fits tItem cs) : ∃ x : It, D.a cs = eR x ∧ x.ok := by
  cases h with
  | st h =>
    obtain ⟨d1, r, rfl, h1, h⟩ := fitss_cons1 h (one_i _)
    obtain ⟨d2, r, rfl, h2, h⟩ := fitss_cons1 h (one_i _)
    have := fitss_nil h; subst this
    obtain ⟨n1, rfl, w1⟩ := fits_i h1
    obtain ⟨n2, rfl, w2⟩ := fits_i h2
    have := wf_u64 w1
    have := wf_i64 w2
    refine ⟨⟨n1.toNat, n2⟩, ?_, ?_, ?_⟩
    · have : ((n1.toNat : Nat) : Int) = n1 := by omega
      simp [this]
    · simp; omega
    · simpa using this
theorem fits_items : ∀ xs : List D, (∀ x ∈ xs, Fits tItem x.cells) → (∀ x ∈ xs, ∃ cs, x = .a cs) → ∃ ns : List It, xs = ns.map eR ∧ ∀ n ∈ ns, n.ok
  | [], _, _ => ⟨[], rfl, by simp⟩
  | x :: xs, h, hc => by
    obtain ⟨ns, e, hn⟩ := fits_items xs (fun y hy => h y (by simp [hy])) (fun y hy => hc y (by simp [hy]))
    obtain ⟨cs, rfl⟩ := hc x (by simp)
    obtain ⟨y, e2, hy⟩ := fits_item (h _ (by simp : D.a cs ∈ D.a cs :: xs))
    exact ⟨y :: ns, by rw [e, List.map_cons, ← e2]; rfl, by simpa [hy] using hn⟩
theorem fits_raw {cs : List D} (h : Fits tRaw cs) : ∃ x : Raw, D.a cs = eRaw x ∧ x.ok := by
  cases h with
  | st h =>
    obtain ⟨d1, r, rfl, h1, h⟩ := fitss_cons1 h (one_i _)
    obtain ⟨d2, r, rfl, h2, h⟩ := fitss_cons1 h (one_i _)
    obtain ⟨d3, r, rfl, h3, h⟩ := fitss_cons1 h (one_i _)
    obtain ⟨d4, r, rfl, h4, h⟩ := fitss_cons1 h (one_l _ _ _)
    obtain ⟨d5, r, rfl, h5, h⟩ := fitss_cons1 h (one_l _ _ _)
    obtain ⟨d6, r, rfl, h6, h⟩ := fitss_cons1 h (one_i _)
    have := fitss_nil h; subst this
    obtain ⟨n1, rfl, w1⟩ := fits_i h1
    obtain ⟨n2, rfl, w2⟩ := fits_i h2
    obtain ⟨n3, rfl, w3⟩ := fits_i h3
    obtain ⟨n5, rfl, w5, l5⟩ := fits_l h5
    obtain ⟨n6, rfl, w6⟩ := fits_i h6
    cases h4 with
    | l sz agg e xs hl hx ha =>
      obtain ⟨is, rfl, hi⟩ := fits_items xs hx (by simpa using ha)
      exact ⟨⟨n1, n2, n3, is, n5, n6⟩, rfl, hi, wf_u64 w3, wf_i64 w6⟩
end Go.AM

/- Every function of the table is the program's. -/
namespace Go.AM
set_option linter.unusedVariables false
open Go.Proofs
set_option maxRecDepth 100000
theorem fol : Try.prog.follows .mixedOrders = true := by kernel_rfl
theorem tab_ok : tab.all (fun p => chkFn Try.prog EE.fbits EE.frb p.1 p.2) = true := by kernel_rfl
theorem look_in {α : Type} {k : Nat} {x : α} : ∀ {l : List (Nat × α)}, look k l = some x → (k, x) ∈ l
  | (j, y) :: r, h => by
    simp only [look] at h
    split at h
    · rename_i e; cases h; subst e; simp
    · exact List.mem_cons_of_mem _ (look_in h)
theorem env_ok : EnvOK Try.prog EE := fun f af h => List.all_eq_true.1 tab_ok (f, af) (look_in h)
theorem lib_ok : Lib Try.prog EE.fbits EE.frb EE.meth where
  bits := fun f h n w => by cases h; rfl
  frb := fun f h n w => by cases h; rfl
  meth := fun t nm f h => (nomatch h)
end Go.AM

namespace Go.AM
open Go.Proofs
set_option linter.unusedSimpArgs false
set_option linter.unusedVariables false
theorem c_law19_awake : LL.call n_c_law19_awake [] [] 0 = some (.b true, [], 0) := lim_call.2 ⟨30, by kernel_rfl⟩
theorem wrap1 : IntKind.i64.wrap 1 = 1 := by decide
theorem wrap2 : IntKind.i64.wrap 2 = 2 := by decide
theorem wrap3 : IntKind.i64.wrap 3 = 3 := by decide
theorem sectionShapes (k a b n : Int) : LL.call n_c_law19_SectionShapes [.i .i64 k, .i .i64 a, .i .i64 b, .i .i64 n] [] 0 = some (.b true, [], 0) := by
  refine wp_call e_c_law19_SectionShapes rfl ?_
  have ha := c_law19_awake
  have h255 := i64_255 n
  obtain ⟨m, hm, hm3⟩ : ∃ m : Nat, (bits .and .i64 n 255).tmod 3 = m ∧ m < 3 := by
    refine ⟨(n % 256).toNat % 3, ?_, by omega⟩
    rw [h255, Int.tmod_eq_emod_of_nonneg (by omega)]; omega
  have hR : ∀ l : List (Int × List UInt8), l = [(a, [1, 0]), (b, [0]), (3, [])].take (1 + m) → LL.call n_section_Read [.i .i64 k, .l .z 2 (l.map eSec)] [] 0 = _ := fun l hl => c_section_Read k l (by subst hl; simp; omega) (by
    subst hl
    intro x hx
    have := List.mem_of_mem_take hx
    simp at this
    rcases this with rfl | rfl | rfl <;> simp) .z []
  have h3 : m = 0 ∨ m = 1 ∨ m = 2 := by omega
  by_cases hk : k < 1 ∨ 4 < k
  · have hq : ((decide (k < 1)) = true ∧ True) ∨ (decide (k < 1)) = false ∧ (decide (4 < k)) = true := by
      by_cases h : k < 1
      · exact .inl ⟨by simpa using h, trivial⟩
      · exact .inr ⟨by simpa using h, by simp; omega⟩
    have hr : ∀ l, readS k l = (6, zeroI) := fun l => if_pos hk
    rcases h3 with rfl | rfl | rfl <;> (have h := hR _ rfl; rw [hr] at h; simp [eSec, eImK, zeroI] at h)
    all_goals
      have w0 : IntKind.i64.wrap (1 + 0) = 1 := by decide
      have w1 : IntKind.i64.wrap (1 + 1) = 2 := by decide
      have w2 : IntKind.i64.wrap (1 + 2) = 3 := by decide
      rcases hq with ⟨q1, q2⟩ | ⟨q1, q2⟩ <;> simp [F_c_law19_SectionShapes, ha, hm, q1, q2, w0, w1, w2, wrap1, wrap2, wrap3, h]
  have q1 : decide (k < 1) = false := by simp; omega
  have q2 : decide (4 < k) = false := by simp; omega
  by_cases hs : m = 1 ∧ a = 1 ∧ b = 2
  · obtain ⟨rfl, rfl, rfl⟩ := hs
    have h := hR _ rfl
    have hk4 : k = 1 ∨ k = 2 ∨ k = 3 ∨ k = 4 := by omega
    have hr : ∃ x : Im, readS k [((1 : Int), ([1, 0] : List UInt8)), (2, [0])] = (0, x) ∧ x.k = k ∧ x.p = 1 := by
      rcases hk4 with rfl | rfl | rfl | rfl
      · exact ⟨⟨1, 1, 0, [[]], []⟩, by kernel_rfl, rfl, rfl⟩
      · exact ⟨⟨2, 1, 0, [[]], []⟩, by kernel_rfl, rfl, rfl⟩
      · exact ⟨⟨3, 1, 0, [], [0]⟩, by kernel_rfl, rfl, rfl⟩
      · exact ⟨⟨4, 1, 0, [], [0]⟩, by kernel_rfl, rfl, rfl⟩
    obtain ⟨x, hr, x1, x2⟩ := hr
    simp [hr, eSec, eImK, x1, x2] at h
    simp [F_c_law19_SectionShapes, ha, hm, q1, q2, wrap2, h]
  · have hr : readS k ([(a, [1, 0]), (b, [0]), (3, [])].take (1 + m)) = (2, zeroI) := by
      unfold readS
      rw [if_neg hk]
      rcases h3 with rfl | rfl | rfl
      · rfl
      · simp at hs ⊢
        intro h1 h2; exact absurd h2 (hs h1)
      · rfl
    have h := hR _ rfl
    rw [hr] at h
    have hA : m = 1 → ((a != 1) = true ∧ True) ∨ (a != 1) = false ∧ (b != 2) = true := by
      intro h
      by_cases h2 : a = 1
      · exact .inr ⟨by simpa using h2, by simp; exact fun h3 => hs ⟨h, h2, h3⟩⟩
      · exact .inl ⟨by simpa using h2, trivial⟩
    rcases h3 with rfl | rfl | rfl
    · simp [eSec, eImK, zeroI] at h
      simp [F_c_law19_SectionShapes, ha, hm, q1, q2, wrap1, h]
    · simp [eSec, eImK, zeroI] at h
      rcases hA rfl with ⟨q3, q4⟩ | ⟨q3, q4⟩ <;> simp [F_c_law19_SectionShapes, ha, hm, q1, q2, q3, q4, wrap2, h]
    · simp [eSec, eImK, zeroI] at h
      simp [F_c_law19_SectionShapes, ha, hm, q1, q2, wrap3, h]
def args_SectionShapes : List (Bool × Ty) := [(false, .i .i64), (false, .i .i64), (false, .i .i64), (false, .i .i64)]
theorem args_SectionShapes_ok : tyA Try.prog [3, 3, 3, 3] = some args_SectionShapes := by kernel_rfl
theorem law_SectionShapes (ds : List D) (h : FitA args_SectionShapes ds) : ∃ sg lo, (lim EE).call n_c_law19_SectionShapes ds [] 0 = some (.b true, sg, lo) := by
  cases h with
  | c h1 k =>
    obtain ⟨n1, rfl, w1⟩ := fits_i h1
    cases k with
    | c h2 k =>
      obtain ⟨n2, rfl, w2⟩ := fits_i h2
      cases k with
      | c h3 k =>
        obtain ⟨n3, rfl, w3⟩ := fits_i h3
        cases k with
        | c h4 k =>
          obtain ⟨n4, rfl, w4⟩ := fits_i h4
          cases k
          exact ⟨[], 0, sectionShapes n1 n2 n3 n4⟩
end Go.AM

namespace Go.AM
open Go.Proofs
set_option linter.unusedSimpArgs false
set_option linter.unusedVariables false
theorem readS_of {x : Im} (h : x.rd) : readS x.k [(1, metaB x), (2, dataB x)] = (0, x) := by
  unfold readS; rw [if_neg (by have := h.k; omega)]
  simp [readI_fwd h]
theorem metaB_len {x : Im} (h : x.rd) : (metaB x).length ≤ 20 := by
  have h1 := numB_len10 (n := x.p.toNat) (by have := h.p; omega)
  have h2 := numB_len10 (n := x.c.toNat) (by have := h.c; omega)
  simp [metaB]; omega
set_option maxRecDepth 20000 in
theorem sectionPuts (x : Raw) (h : x.ok) : LL.call n_c_law19_SectionPuts [eRaw x] [] 0 = some (.b true, [], 0) := by
  refine wp_call e_c_law19_SectionPuts rfl ?_
  have ha := c_law19_awake
  have h1 := c_law17_Make x h []
  have hrd := makeI_rd x h
  have htd := toldI_make x h
  have hw : eRaw x = .a [.i .i64 x.k, .i .i64 x.p, .i .u64 x.c, .l .z 2 (x.is.map eR), .l .z 1 (x.cs.map (.i .i64)), .i .i64 x.sp] := rfl
  generalize makeI x = y at *
  have hok := hrd.ok
  have hsm := hrd.small
  have hwr := hrd.wr'
  have hO := c_section_Of y hwr []
  have hT := c_law17_Told y hok hsm []
  rw [htd] at hT
  have hM := c_ref19_Meta y hwr []
  have hD := c_ref19_Data y hwr []
  have hR := c_section_Read y.k [(1, metaB y), (2, dataB y)] (by simp) (by simp; exact ⟨by have := metaB_len hrd; omega, hrd.dlen⟩) .z []
  rw [readS_of hrd] at hR
  have hS := c_image_Same y y hok hok hsm []
  have hI := c_law18_Is y y hok hsm hok hsm []
  have ee : (eLK .z 2 eI : List It → D) = eL 2 eI := rfl
  have er : (eLK .z 2 eR : List It → D) = eL 2 eR := rfl
  have eo : ∀ l : List (List It), D.fzs (l.map (eLK .o 2 eI)) = l.map (eL 2 eI) := fzs_eLK .o (.inl rfl) 2 eI
  simp [eImK, hw, eIm, eRmK, eRm, ee, er, eSec, eo] at h1 hO hT hM hD hR hS hI
  rw [hw]
  simp [F_c_law19_SectionPuts, ha, h1, hO, hT, hM, hD, hR, hS, hI, ee, er, eo, bins]
  by_cases hl : y.ls.length = 0
  · have b0 : ((y.ls.length : Int) == 0) = true := by rw [hl]; rfl
    simp [b0]
  · have b0 : ((y.ls.length : Int) == 0) = false := by simpa using hl
    have l0 : 0 < y.ls.length := by omega
    have hm := hrd.is y.ls[0] (List.getElem_mem _)
    have oi : ∀ z ∈ y.ls[0], z.ok := fun z hz => (hm.1 z hz).1
    have hlen := itemsB_len oi (by have := hm.2; omega)
    have hq := c_section_Items (.inl rfl) [97, 98] y.ls[0] oi (by have := hm.2; simp; omega) (by have := hm.2; omega) []
    have hq2 := c_ref19_Items y.ls[0] oi (by have := hm.2; omega) (by have := hm.2; omega) []
    simp at hq
    simp only [List.length_nil] at hq2
    have htb : ∀ l : List UInt8, toBy (D.i .u8 97 :: D.i .u8 98 :: l.map eB) = some (97 :: 98 :: l) := fun l => toBy_eB (97 :: 98 :: l)
    simp [b0, l0, eL, eLK, hq, hq2, bins, htb]
    have := hm.2; omega
def args_SectionPuts : List (Bool × Ty) := [(true, tRaw)]
theorem args_SectionPuts_ok : tyA Try.prog [26] = some args_SectionPuts := by kernel_rfl
theorem law_SectionPuts (ds : List D) (h : FitA args_SectionPuts ds) : ∃ sg lo, (lim EE).call n_c_law19_SectionPuts ds [] 0 = some (.b true, sg, lo) := by
  cases h with
  | a h1 k =>
    obtain ⟨x, e1, hx⟩ := fits_raw h1
    cases k
    rw [e1]
    exact ⟨[], 0, sectionPuts x hx⟩
end Go.AM

namespace Go.AM
open Go.Proofs
set_option linter.unusedSimpArgs false
set_option linter.unusedVariables false
/-- A Kfifo's image with so many items of nothing; a Net's with a count. -/
def manyI (n : Nat) : Im := ⟨2, 1, 0, [List.replicate n ⟨0, 0⟩], []⟩
def netI (c : Int) : Im := ⟨4, 1, 0, [], [c]⟩
theorem zero_can : (⟨0, 0⟩ : It).can := ⟨⟨by simp, by simp⟩, by decide⟩
theorem rep_can (n : Nat) : ∀ y ∈ List.replicate n (⟨0, 0⟩ : It), y.can := by
  intro y hy; rw [(List.mem_replicate.1 hy).2]; exact zero_can
theorem manyI_rd {n : Nat} (h : n ≤ 1000) : (manyI n).rd := by
  refine ⟨by simp [manyI], by simp [manyI], by simp [manyI], rfl, rfl, fun m hm => ?_, fun m hm => by simp [manyI] at hm⟩
  simp [manyI] at hm
  subst hm
  exact ⟨rep_can n, by simpa using h⟩
theorem manyI_big {n : Nat} (h : 1000 < n) (h2 : n ≤ 1200) : readS 2 [(1, metaB (manyI n)), (2, dataB (manyI n))] = (3, zeroI) := by
  unfold readS
  rw [if_neg (by omega)]
  have hm : metaB (manyI n) = [1, 0] := by simp [metaB, manyI, numB_small]
  have hd : dataB (manyI n) = itemsB (List.replicate n ⟨0, 0⟩) ++ [] := by simp [manyI, dataB]
  have e1 : numR ⟨[1, 0], 0⟩ 255 = (⟨[0], 0⟩, 1) := by kernel_rfl
  have e2 : numR ⟨[0], 0⟩ 18446744073709551615 = (⟨[], 0⟩, 0) := by kernel_rfl
  have ht := takeS_fwd (rep_can n) (by simp; omega) []
  rw [if_pos (by simpa using h)] at ht
  have hR : readG (shapeN 2 1).1 (shapeN 2 1).2 ⟨dataB (manyI n), 0⟩ = (failR 3, [[]], []) := by
    rw [hd]
    show (endR (countsG 0 (listsG 1 _ []).1 []).1, (listsG 1 _ []).2, (countsG 0 (listsG 1 _ []).1 []).2) = _
    have : listsG 1 ⟨itemsB (List.replicate n ⟨0, 0⟩) ++ [], 0⟩ [] = (failR 3, [[]]) := by
      rw [listsG_succ, ht]; rfl
    rw [this]; rfl
  simp only [hm, readI, e1, e2]
  have : ((1 : Nat) : Int) = 1 := rfl
  simp only [this, hR, endR_nil, failR]
  rfl
theorem netI_rd {c : Int} (h : 0 ≤ c ∧ c ≤ 1125899906842624) : (netI c).rd := by
  refine ⟨by simp [netI], by simp [netI], by simp [netI], rfl, rfl, fun m hm => by simp [netI] at hm, fun m hm => ?_⟩
  simp [netI] at hm
  subst hm; exact h
theorem netI_big {c : Int} (h : 1125899906842624 < c ∧ c ≤ 9223372036854775807) : readS 4 [(1, metaB (netI c)), (2, dataB (netI c))] = (3, zeroI) := by
  unfold readS
  rw [if_neg (by omega)]
  have hm : metaB (netI c) = [1, 0] := by simp [metaB, netI, numB_small]
  have hd : dataB (netI c) = numB c.toNat ++ [] := by simp [netI, dataB]
  have e1 : numR ⟨[1, 0], 0⟩ 255 = (⟨[0], 0⟩, 1) := by kernel_rfl
  have e2 : numR ⟨[0], 0⟩ 18446744073709551615 = (⟨[], 0⟩, 0) := by kernel_rfl
  have ht := numR_numB (n := c.toNat) (most := 1125899906842624) (by omega) []
  rw [if_pos (by omega)] at ht
  have hR : readG (shapeN 4 1).1 (shapeN 4 1).2 ⟨dataB (netI c), 0⟩ = (failR 3, [], [0]) := by
    rw [hd]
    show (endR (countsG 1 ⟨numB c.toNat ++ [], 0⟩ []).1, [], (countsG 1 ⟨numB c.toNat ++ [], 0⟩ []).2) = _
    have : countsG 1 ⟨numB c.toNat ++ [], 0⟩ [] = (failR 3, [0]) := by
      rw [countsG_succ, ht]; rfl
    rw [this]; rfl
  simp only [hm, readI, e1, e2]
  have : ((1 : Nat) : Int) = 1 := rfl
  simp only [this, hR, endR_nil, failR]
  rfl
theorem manyI_facts {n : Nat} (h : n ≤ 1200) : (manyI n).ok ∧ (manyI n).small ∧ (manyI n).wr := by
  have hl := itemsB_len (l := List.replicate n ⟨0, 0⟩) (fun y hy => (rep_can n y hy).1) (by simp; omega)
  simp at hl
  have ho : ∀ l ∈ (manyI n).ls, ∀ y ∈ l, y.ok := by
    intro l hm y hy
    simp [manyI] at hm; subst hm; exact (rep_can n y hy).1
  refine ⟨⟨ho, by simp [manyI], by simp [manyI]; omega⟩, ⟨by simp [manyI], by simp [manyI], by intro l hm; simp [manyI] at hm; subst hm; simp; omega⟩, ⟨by simp [manyI], by simp [manyI], by simp [manyI], ho, by simp [manyI, dataB]; omega, by simp [manyI], by simp [manyI], by intro l hm; simp [manyI] at hm; subst hm; simp; omega⟩⟩
theorem netI_facts {c : Int} (h : 0 ≤ c ∧ c ≤ 9223372036854775807) : (netI c).ok ∧ (netI c).small ∧ (netI c).wr := by
  have hl := numB_len10 (n := c.toNat) (by omega)
  refine ⟨⟨by simp [netI], by simp [netI]; omega, by simp [netI]⟩, ⟨by simp [netI], by simp [netI], by simp [netI]⟩, ⟨by simp [netI], by simp [netI], by simp [netI]; omega, by simp [netI], by simp [netI, dataB]; omega, by simp [netI], by simp [netI], by simp [netI]⟩⟩
theorem i64_2047 (x : Int) : bits .and .i64 x 2047 = x % 2048 := i64_mask 11 (by decide) x
set_option maxRecDepth 20000 in
theorem sectionMany (n c : Int) (hc : -9223372036854775808 ≤ c ∧ c ≤ 9223372036854775807) : LL.call n_c_law19_SectionMany [.i .i64 n, .i .i64 c] [] 0 = some (.b true, [], 0) := by
  refine wp_call e_c_law19_SectionMany rfl ?_
  have ha := c_law19_awake
  have h2 := i64_2047 n
  obtain ⟨m, hm, hm3⟩ : ∃ m : Nat, n % 2048 = m ∧ m < 2048 := ⟨(n % 2048).toNat, by omega, by omega⟩
  rw [hm] at h2
  obtain ⟨q, hq⟩ : ∃ q : Nat, q = min m 1200 := ⟨_, rfl⟩
  have hq1 : q ≤ 1200 := by omega
  obtain ⟨f1, f2, f3⟩ := manyI_facts hq1
  have hmin : (if (1200 : Int) < m then (1200 : Int) else m) = q := by split <;> omega
  have hO := c_section_Of (manyI q) f3 []
  have hS := c_image_Same (manyI q) (manyI q) f1 f1 f2 []
  have hdl : (dataB (manyI q)).length ≤ 1099511627776 := f3.2.2.2.2.1
  have hml : (metaB (manyI q)).length ≤ 1099511627776 := by simp [metaB, manyI, numB_small]
  have hR := c_section_Read 2 [(1, metaB (manyI q)), (2, dataB (manyI q))] (by simp) (by simp; exact ⟨hml, hdl⟩) .z []
  have hrd := fun h : q ≤ 1000 => readS_of (manyI_rd h)
  have hbig := fun h : 1000 < q => manyI_big h hq1
  generalize metaB (manyI q) = mt at *
  generalize dataB (manyI q) = dt at *
  obtain ⟨L, hL⟩ : ∃ L : List It, L = List.replicate q ⟨0, 0⟩ := ⟨_, rfl⟩
  have hM : manyI q = ⟨2, 1, 0, [L], []⟩ := by rw [hL]; rfl
  have hrep : List.replicate q (D.a [.f .f64 0, .i .i64 0]) = L.map eI := by rw [hL]; simp
  rw [hM] at hO hS
  have ee : (eLK .z 2 eI : List It → D) = eL 2 eI := rfl
  simp [eIm, eSec] at hO hS
  have q16 : q * 16 ≤ 140737488355328 := by omega
  have q0 : (0 : Int) ≤ q := by omega
  have q1 : (q : Int) ≤ 9223372036854775807 := by omega
  obtain ⟨d, hd, hd2⟩ : ∃ d : Int, (if c < 0 then (0 : Int) else c) = d ∧ 0 ≤ d ∧ d ≤ 9223372036854775807 := ⟨_, rfl, by split <;> omega, by split <;> omega⟩
  obtain ⟨g1, g2, g3⟩ := netI_facts hd2
  have hO2 := c_section_Of (netI d) g3 []
  have hS2 := c_image_Same (netI d) (netI d) g1 g1 g2 []
  have hdl2 : (dataB (netI d)).length ≤ 1099511627776 := g3.2.2.2.2.1
  have hml2 : (metaB (netI d)).length ≤ 1099511627776 := by simp [metaB, netI, numB_small]
  have hR2 := c_section_Read 4 [(1, metaB (netI d)), (2, dataB (netI d))] (by simp) (by simp; exact ⟨hml2, hdl2⟩) .z []
  have hrd2 := fun h : d ≤ 1125899906842624 => readS_of (netI_rd ⟨hd2.1, h⟩)
  have hbig2 := fun h : 1125899906842624 < d => netI_big ⟨h, hd2.2⟩
  generalize metaB (netI d) = mt2 at *
  generalize dataB (netI d) = dt2 at *
  have hN : netI d = ⟨4, 1, 0, [], [d]⟩ := rfl
  rw [hN] at hO2 hS2
  simp [eIm, eSec] at hO2 hS2
  have hfin : ∀ A : Prop, A → A := fun _ h => h
  have hk2 : (manyI q).k = 2 := rfl
  have hk4 : (netI d).k = 4 := rfl
  rw [hk2] at hrd
  rw [hk4] at hrd2
  by_cases hq10 : q ≤ 1000
  · have hm10 : (m : Int) ≤ 1000 := by omega
    have hm11 : m ≤ 1000 := by omega
    rw [hrd hq10, hM] at hR
    simp [eImK, ee, eSec] at hR
    by_cases hd10 : d ≤ 1125899906842624
    · have hd11 : ¬ 1125899906842624 < d := by omega
      rw [hrd2 hd10, hN] at hR2
      simp [eImK, ee, eSec] at hR2
      simp [F_c_law19_SectionMany, ha, h2, hmin, q16, q0, q1, hrep, hO, hR, hS, hm10, hm11, hd, hO2, hR2, hd11, hS2]
    · have hd11 : 1125899906842624 < d := by omega
      rw [hbig2 hd11] at hR2
      simp [eImK, ee, eSec, zeroI] at hR2
      simp [F_c_law19_SectionMany, ha, h2, hmin, q16, q0, q1, hrep, hO, hR, hS, hm10, hm11, hd, hO2, hR2, hd11, hS2]
  · have hm10 : ¬ (m : Int) ≤ 1000 := by omega
    have hm11 : ¬ m ≤ 1000 := by omega
    rw [hbig (by omega)] at hR
    simp [eImK, ee, eSec, zeroI] at hR
    by_cases hd10 : d ≤ 1125899906842624
    · have hd11 : ¬ 1125899906842624 < d := by omega
      rw [hrd2 hd10, hN] at hR2
      simp [eImK, ee, eSec] at hR2
      simp [F_c_law19_SectionMany, ha, h2, hmin, q16, q0, q1, hrep, hO, hR, hm10, hm11, hd, hO2, hR2, hd11, hS2]
    · have hd11 : 1125899906842624 < d := by omega
      rw [hbig2 hd11] at hR2
      simp [eImK, ee, eSec, zeroI] at hR2
      simp [F_c_law19_SectionMany, ha, h2, hmin, q16, q0, q1, hrep, hO, hR, hm10, hm11, hd, hO2, hR2, hd11, hS2]
def args_SectionMany : List (Bool × Ty) := [(false, .i .i64), (false, .i .i64)]
theorem args_SectionMany_ok : tyA Try.prog [3, 2] = some args_SectionMany := by kernel_rfl
theorem law_SectionMany (ds : List D) (h : FitA args_SectionMany ds) : ∃ sg lo, (lim EE).call n_c_law19_SectionMany ds [] 0 = some (.b true, sg, lo) := by
  cases h with
  | c h1 k =>
    obtain ⟨n1, rfl, w1⟩ := fits_i h1
    cases k with
    | c h2 k =>
      obtain ⟨n2, rfl, w2⟩ := fits_i h2
      cases k
      exact ⟨[], 0, sectionMany n1 n2 (wf_i64 w2)⟩
end Go.AM
