/- Lemmas: an abstract machine over the loaded program, proved sound against the model once; what the program's functions compute. -/
import Derived.Test.YtpckpfohnpljgaaK5
import Derived.Test.YtpckpfohnpljgaaK2
import Derived.Test.YtpckpfohnpljgaaK4
import Derived.Test.YtpckpfohnpljgaaProg
/-
What data a law is asked of, opened: numbers, bytes, raw images.
-/
namespace Go.AM
set_option linter.unusedSimpArgs false
set_option linter.unusedVariables false
theorem wf_i64 {n : Int} (h : (Lit.int .i64 n).wf = true) : -9223372036854775808 ≤ n ∧ n ≤ 9223372036854775807 := by
  simpa [Lit.wf, IntKind.min, IntKind.max, IntKind.signed, IntKind.bits] using h
theorem wf_u64 {n : Int} (h : (Lit.int .u64 n).wf = true) : 0 ≤ n ∧ n < 18446744073709551616 := by
  have : 0 ≤ n ∧ n ≤ 18446744073709551615 := by simpa [Lit.wf, IntKind.min, IntKind.max, IntKind.signed, IntKind.bits] using h
  omega
theorem wf_u32 {n : Int} (h : (Lit.int .u32 n).wf = true) : 0 ≤ n ∧ n < 4294967296 := by
  have : 0 ≤ n ∧ n ≤ 4294967295 := by simpa [Lit.wf, IntKind.min, IntKind.max, IntKind.signed, IntKind.bits] using h
  omega
theorem wf_u8 {n : Int} (h : (Lit.int .u8 n).wf = true) : 0 ≤ n ∧ n < 256 := by
  have : 0 ≤ n ∧ n ≤ 255 := by simpa [Lit.wf, IntKind.min, IntKind.max, IntKind.signed, IntKind.bits] using h
  omega
theorem fits_i {k : IntKind} {d : D} (h : Fits (.i k) [d]) : ∃ n, d = .i k n ∧ (Lit.int k n).wf = true := by
  cases h with | i k n h => exact ⟨n, rfl, h⟩
theorem fits_b {d : D} (h : Fits .b [d]) : ∃ x, d = .b x := by
  cases h with | b x => exact ⟨x, rfl⟩
theorem fits_s {d : D} (h : Fits .s [d]) : ∃ v, d = .s v ∧ v.size ≤ maxLen := by
  cases h with | s v h => exact ⟨v, rfl, h⟩
theorem fits_ints {k : IntKind} : ∀ xs : List D, (∀ x ∈ xs, Fits (.i k) x.cells) → (∀ x ∈ xs, ∃ c, x = c ∧ c.cells = [c]) → ∃ ns : List Int, xs = ns.map (.i k) ∧ ∀ n ∈ ns, (Lit.int k n).wf = true
  | [], _, _ => ⟨[], rfl, by simp⟩
  | x :: xs, h, hc => by
    obtain ⟨ns, e, hn⟩ := fits_ints xs (fun y hy => h y (by simp [hy])) (fun y hy => hc y (by simp [hy]))
    obtain ⟨c, rfl, h2⟩ := hc x (by simp)
    have := h x (by simp)
    rw [h2] at this
    obtain ⟨n, rfl, hw⟩ := fits_i this
    exact ⟨n :: ns, by simp [e], by simpa [hw] using hn⟩
theorem fits_l {k : IntKind} {d : D} (h : Fits (.l 1 false (.i k)) [d]) : ∃ ns : List Int, d = .l .z 1 (ns.map (.i k)) ∧ (∀ n ∈ ns, (Lit.int k n).wf = true) ∧ ns.length ≤ maxLen := by
  cases h with
  | l sz agg e xs hl hx ha =>
    obtain ⟨ns, e, hn⟩ := fits_ints xs hx (by simpa using ha)
    subst e
    exact ⟨ns, rfl, hn, by simpa using hl⟩
abbrev tItem : Ty := .st [.i .u64, .i .i64]
abbrev tRaw : Ty := .st [.i .i64, .i .i64, .i .u64, .l 2 true tItem, .l 1 false (.i .i64), .i .i64]
theorem fitss_cons1 {f : Ty} {fs : List Ty} {cs : List D} (h : Fitss (f :: fs) cs) (hf : ∀ c, Fits f c → ∃ d, c = [d]) : ∃ d r, cs = d :: r ∧ Fits f [d] ∧ Fitss fs r := by
  cases h with
  | cons h k => obtain ⟨d, rfl⟩ := hf _ h; exact ⟨d, _, rfl, h, k⟩
theorem one_i (k : IntKind) (c : List D) (h : Fits (.i k) c) : ∃ d, c = [d] := by cases h; exact ⟨_, rfl⟩
theorem one_l (sz : Nat) (a : Bool) (T : Ty) (c : List D) (h : Fits (.l sz a T) c) : ∃ d, c = [d] := by cases h; exact ⟨_, rfl⟩
theorem one_s (c : List D) (h : Fits .s c) : ∃ d, c = [d] := by cases h; exact ⟨_, rfl⟩
theorem one_b (c : List D) (h : Fits .b c) : ∃ d, c = [d] := by cases h; exact ⟨_, rfl⟩
theorem fitss_nil {cs : List D} (h : Fitss [] cs) : cs = [] := by cases h; rfl
theorem fits_item {cs : List D} (h : Fits tItem cs) : ∃ x : It, D.a cs = eR x ∧ x.ok := by
  cases h with
  | st h =>
    obtain ⟨d1, r, rfl, h1, h⟩ := fitss_cons1 h (one_i _)
    obtain ⟨d2, r, rfl, h2, h⟩ := fitss_cons1 h (one_i _)
    have := fitss_nil h; subst this
    obtain ⟨n1, rfl, w1⟩ := fits_i h1
    obtain ⟨n2, rfl, w2⟩ := fits_i h2
    have := wf_u64 w1
    have := wf_i64 w2
    refine ⟨⟨n1.toNat, n2⟩, ?_, ?_, ?_⟩
    · have : ((n1.toNat : Nat) : Int) = n1 := by omega
      simp [this]
    · simp; omega
    · simpa using this
theorem fits_items : ∀ xs : List D, (∀ x ∈ xs, Fits tItem x.cells) → (∀ x ∈ xs, ∃ cs, x = .a cs) → ∃ ns : List It, xs = ns.map eR ∧ ∀ n ∈ ns, n.ok
  | [], _, _ => ⟨[], rfl, by simp⟩
  | x :: xs, h, hc => by
    obtain ⟨ns, e, hn⟩ := fits_items xs (fun y hy => h y (by simp [hy])) (fun y hy => hc y (by simp [hy]))
    obtain ⟨cs, rfl⟩ := hc x (by simp)
    obtain ⟨y, e2, hy⟩ := fits_item (h _ (by simp : D.a cs ∈ D.a cs :: xs))
    exact ⟨y :: ns, by rw [e, List.map_cons, ← e2]; rfl, by simpa [hy] using hn⟩
theorem fits_raw {cs : List D} (h : Fits tRaw cs) : ∃ x : Raw, D.a cs = eRaw x ∧ x.ok := by
  cases h with
  | st h =>
    obtain ⟨d1, r, rfl, h1, h⟩ := fitss_cons1 h (one_i _)
    obtain ⟨d2, r, rfl, h2, h⟩ := fitss_cons1 h (one_i _)
    obtain ⟨d3, r, rfl, h3, h⟩ := fitss_cons1 h (one_i _)
    obtain ⟨d4, r, rfl, h4, h⟩ := fitss_cons1 h (one_l _ _ _)
    obtain ⟨d5, r, rfl, h5, h⟩ := fitss_cons1 h (one_l _ _ _)
    obtain ⟨d6, r, rfl, h6, h⟩ := fitss_cons1 h (one_i _)
    have := fitss_nil h; subst this
    obtain ⟨n1, rfl, w1⟩ := fits_i h1
    obtain ⟨n2, rfl, w2⟩ := fits_i h2
    obtain ⟨n3, rfl, w3⟩ := fits_i h3
    obtain ⟨n5, rfl, w5, l5⟩ := fits_l h5
    obtain ⟨n6, rfl, w6⟩ := fits_i h6
    cases h4 with
    | l sz agg e xs hl hx ha =>
      obtain ⟨is, rfl, hi⟩ := fits_items xs hx (by simpa using ha)
      exact ⟨⟨n1, n2, n3, is, n5, n6⟩, rfl, hi, wf_u64 w3, wf_i64 w6⟩
end Go.AM

/- Every function of the table is the program's. -/
namespace Go.AM
set_option linter.unusedVariables false
open Go.Proofs
set_option maxRecDepth 100000
theorem fol : Try.prog.follows .mixedOrders = true := by kernel_rfl
theorem tab_ok : tab.all (fun p => chkFn Try.prog EE.fbits EE.frb p.1 p.2) = true := by kernel_rfl
theorem look_in {α : Type} {k : Nat} {x : α} : ∀ {l : List (Nat × α)}, look k l = some x → (k, x) ∈ l
  | (j, y) :: r, h => by
    simp only [look] at h
    split at h
    · rename_i e; cases h; subst e; simp
    · exact List.mem_cons_of_mem _ (look_in h)
theorem env_ok : EnvOK Try.prog EE := fun f af h => List.all_eq_true.1 tab_ok (f, af) (look_in h)
theorem lib_ok : Lib Try.prog EE.fbits EE.frb EE.meth where
  bits := fun f h n w => by cases h; rfl
  frb := fun f h n w => by cases h; rfl
  meth := fun t nm f h => (nomatch h)
end Go.AM

namespace Go.AM
open Go.Proofs
set_option linter.unusedSimpArgs false
set_option linter.unusedVariables false
theorem c_law19_awake : LL.call n_c_law19_awake [] [] 0 = some (.b true, [], 0) := lim_call.2 ⟨30, by kernel_rfl⟩
theorem wrap1 : IntKind.i64.wrap 1 = 1 := by decide
theorem wrap2 : IntKind.i64.wrap 2 = 2 := by decide
theorem wrap3 : IntKind.i64.wrap 3 = 3 := by decide
theorem sectionShapes (k a b n : Int) : LL.call n_c_law19_SectionShapes [.i .i64 k, .i .i64 a, .i .i64 b, .i .i64 n] [] 0 = some (.b true, [], 0) := by
  refine wp_call e_c_law19_SectionShapes rfl ?_
  have ha := c_law19_awake
  have h255 := i64_255 n
  obtain ⟨m, hm, hm3⟩ : ∃ m : Nat, (bits .and .i64 n 255).tmod 3 = m ∧ m < 3 := by
    refine ⟨(n % 256).toNat % 3, ?_, by omega⟩
    rw [h255, Int.tmod_eq_emod_of_nonneg (by omega)]; omega
  have hR : ∀ l : List (Int × List UInt8), l = [(a, [1, 0]), (b, [0]), (3, [])].take (1 + m) → LL.call n_section_Read [.i .i64 k, .l .z 2 (l.map eSec)] [] 0 = _ := fun l hl => c_section_Read k l (by subst hl; simp; omega) (by
    subst hl
    intro x hx
    have := List.mem_of_mem_take hx
    simp at this
    rcases this with rfl | rfl | rfl <;> simp) .z []
  have h3 : m = 0 ∨ m = 1 ∨ m = 2 := by omega
  by_cases hk : k < 1 ∨ 4 < k
  · have hq : ((decide (k < 1)) = true ∧ True) ∨ (decide (k < 1)) = false ∧ (decide (4 < k)) = true := by
      by_cases h : k < 1
      · exact .inl ⟨by simpa using h, trivial⟩
      · exact .inr ⟨by simpa using h, by simp; omega⟩
    have hr : ∀ l, readS k l = (6, zeroI) := fun l => if_pos hk
    rcases h3 with rfl | rfl | rfl <;> (have h := hR _ rfl; rw [hr] at h; simp [eSec, eImK, zeroI] at h)
    all_goals
      have w0 : IntKind.i64.wrap (1 + 0) = 1 := by decide
      have w1 : IntKind.i64.wrap (1 + 1) = 2 := by decide
      have w2 : IntKind.i64.wrap (1 + 2) = 3 := by decide
      rcases hq with ⟨q1, q2⟩ | ⟨q1, q2⟩ <;> simp [F_c_law19_SectionShapes, ha, hm, q1, q2, w0, w1, w2, wrap1, wrap2, wrap3, h]
  have q1 : decide (k < 1) = false := by simp; omega
  have q2 : decide (4 < k) = false := by simp; omega
  by_cases hs : m = 1 ∧ a = 1 ∧ b = 2
  · obtain ⟨rfl, rfl, rfl⟩ := hs
    have h := hR _ rfl
    have hk4 : k = 1 ∨ k = 2 ∨ k = 3 ∨ k = 4 := by omega
    have hr : ∃ x : Im, readS k [((1 : Int), ([1, 0] : List UInt8)), (2, [0])] = (0, x) ∧ x.k = k ∧ x.p = 1 := by
      rcases hk4 with rfl | rfl | rfl | rfl
      · exact ⟨⟨1, 1, 0, [[]], []⟩, by kernel_rfl, rfl, rfl⟩
      · exact ⟨⟨2, 1, 0, [[]], []⟩, by kernel_rfl, rfl, rfl⟩
      · exact ⟨⟨3, 1, 0, [], [0]⟩, by kernel_rfl, rfl, rfl⟩
      · exact ⟨⟨4, 1, 0, [], [0]⟩, by kernel_rfl, rfl, rfl⟩
    obtain ⟨x, hr, x1, x2⟩ := hr
    simp [hr, eSec, eImK, x1, x2] at h
    simp [F_c_law19_SectionShapes, ha, hm, q1, q2, wrap2, h]
  · have hr : readS k ([(a, [1, 0]), (b, [0]), (3, [])].take (1 + m)) = (2, zeroI) := by
      unfold readS
      rw [if_neg hk]
      rcases h3 with rfl | rfl | rfl
      · rfl
      · simp at hs ⊢
        intro h1 h2; exact absurd h2 (hs h1)
      · rfl
    have h := hR _ rfl
    rw [hr] at h
    have hA : m = 1 → ((a != 1) = true ∧ True) ∨ (a != 1) = false ∧ (b != 2) = true := by
      intro h
      by_cases h2 : a = 1
      · exact .inr ⟨by simpa using h2, by simp; exact fun h3 => hs ⟨h, h2, h3⟩⟩
      · exact .inl ⟨by simpa using h2, trivial⟩
    rcases h3 with rfl | rfl | rfl
    · simp [eSec, eImK, zeroI] at h
      simp [F_c_law19_SectionShapes, ha, hm, q1, q2, wrap1, h]
    · simp [eSec, eImK, zeroI] at h
      rcases hA rfl with ⟨q3, q4⟩ | ⟨q3, q4⟩ <;> simp [F_c_law19_SectionShapes, ha, hm, q1, q2, q3, q4, wrap2, h]
    · simp [eSec, eImK, zeroI] at h
      simp [F_c_law19_SectionShapes, ha, hm, q1, q2, wrap3, h]
def args_SectionShapes : List (Bool × Ty) := [(false, .i .i64), (false, .i .i64), (false, .i .i64), (false, .i .i64)]
theorem args_SectionShapes_ok : tyA Try.prog [3, 3, 3, 3] = some args_SectionShapes := by kernel_rfl
theorem law_SectionShapes (ds : List D) (h : FitA args_SectionShapes ds) : ∃ sg lo, (lim EE).call n_c_law19_SectionShapes ds [] 0 = some (.b true, sg, lo) := by
  cases h with
  | c h1 k =>
    obtain ⟨n1, rfl, w1⟩ := fits_i h1
    cases k with
    | c h2 k =>
      obtain ⟨n2, rfl, w2⟩ := fits_i h2
      cases k with
      | c h3 k =>
        obtain ⟨n3, rfl, w3⟩ := fits_i h3
        cases k with
        | c h4 k =>
          obtain ⟨n4, rfl, w4⟩ := fits_i h4
          cases k
          exact ⟨[], 0, sectionShapes n1 n2 n3 n4⟩
end Go.AM

namespace Go.AM
open Go.Proofs
set_option linter.unusedSimpArgs false
set_option linter.unusedVariables false
theorem c_law01_Cut (l : List UInt8) (n : Nat) (hn : n ≤ 1099511627776) (hl : l.length ≤ 9223372036854775807) (sg) : LL.call n_c_law01_Cut [.s (bs l), .i .i64 n] sg sg.length = some (.s (bs (l.take n)), sg, sg.length) := by
  refine wp_call e_c_law01_Cut rfl ?_
  by_cases h : n < l.length
  · have h' : (n : Int) < l.length := by omega
    have h2 : (n : Int) ≤ l.length := by omega
    simp [F_c_law01_Cut, h, h', h2]
  · have h' : ¬ (n : Int) < l.length := by omega
    simp [F_c_law01_Cut, h, h']
    rw [List.take_of_length_le (by omega)]
theorem wrap0 : IntKind.i64.wrap 0 = 0 := by decide
set_option maxRecDepth 20000 in
theorem sectionReads (k : Int) (mt dt : List UInt8) (hm : mt.length ≤ 9223372036854775807) (hd : dt.length ≤ 9223372036854775807) : LL.call n_c_law19_SectionReads [.i .i64 k, .s (bs mt), .s (bs dt)] [] 0 = some (.b true, [], 0) := by
  refine wp_call e_c_law19_SectionReads rfl ?_
  have ha := c_law19_awake
  have hC1 := c_law01_Cut mt 40 (by omega) hm []
  have hC2 := c_law01_Cut dt 400 (by omega) hd []
  have l1 : (mt.take 40).length ≤ 40 := by simp; omega
  have l2 : (dt.take 400).length ≤ 400 := by simp; omega
  generalize mt.take 40 = mt' at *
  generalize dt.take 400 = dt' at *
  have h255 := i64_255 k
  obtain ⟨K, hK, hK1, hK4⟩ : ∃ K : Int, IntKind.i64.wrap (1 + (bits .and .i64 k 255).tmod 4) = K ∧ 1 ≤ K ∧ K ≤ 4 := by
    refine ⟨1 + k % 256 % 4, ?_, by omega, by omega⟩
    rw [h255, Int.tmod_eq_emod_of_nonneg (by omega), wrap64 (by omega)]
  have hR := c_section_Read K [(1, mt'), (2, dt')] (by simp) (by simp; omega) .z []
  have hF := c_ref19_Read K ⟨hK1, hK4⟩ mt' dt' (by omega) (by omega) []
  have hS : readS K [(1, mt'), (2, dt')] = readI K mt' dt' := by
    unfold readS; rw [if_neg (by omega)]; rfl
  rw [hS] at hR
  have ee : (eLK .z 2 eI : List It → D) = eL 2 eI := rfl
  have er : (eLK .z 2 eR : List It → D) = eL 2 eR := rfl
  simp at hC1 hC2
  by_cases h0 : (readI K mt' dt').1 = 0
  · obtain ⟨hrd, hkk, hmm, hdd⟩ := readI_inv ⟨hK1, hK4⟩ h0
    rw [if_pos h0] at hR
    rw [h0] at hR hF
    generalize (readI K mt' dt').2 = x at *
    have hok : x.ok := hrd.ok
    have hsm : x.small := hrd.small
    have hwr : x.wr := hrd.wr (by rw [hdd]; omega)
    have hI := c_law18_Is x x hok hsm hok hsm []
    have hO := c_section_Of x hwr []
    rw [hmm, hdd] at hO
    simp [eImK, eRmK, eIm, eRm, ee, er, eSec] at hR hF hI hO
    simp [F_c_law19_SectionReads, ha, hC1, hC2, hK, hR, hF, hI, hO]
  · have hz : (readI K mt' dt').2 = zeroI := readI_zero h0
    rw [hz] at hR hF
    simp [eImK, eRmK, zeroI, eSec, h0] at hR hF
    have hb : ((readI K mt' dt').1 != 0) = true := by simpa using h0
    simp [F_c_law19_SectionReads, ha, hC1, hC2, hK, hR, hF, hb, wrap0]
def args_SectionReads : List (Bool × Ty) := [(false, .i .i64), (false, .s), (false, .s)]
theorem args_SectionReads_ok : tyA Try.prog [3, 9, 9] = some args_SectionReads := by kernel_rfl
theorem law_SectionReads (ds : List D) (h : FitA args_SectionReads ds) : ∃ sg lo, (lim EE).call n_c_law19_SectionReads ds [] 0 = some (.b true, sg, lo) := by
  cases h with
  | c h1 k =>
    obtain ⟨n1, rfl, w1⟩ := fits_i h1
    cases k with
    | c h2 k =>
      obtain ⟨v2, rfl, w2⟩ := fits_s h2
      cases k with
      | c h3 k =>
        obtain ⟨v3, rfl, w3⟩ := fits_s h3
        cases k
        exact ⟨[], 0, sectionReads n1 v2.data.toList v3.data.toList w2 w3⟩
end Go.AM

namespace Go.AM
open Go.Proofs
set_option linter.unusedSimpArgs false
set_option linter.unusedVariables false
theorem c_law21_awake : LL.call n_c_law21_awake [] [] 0 = some (.b true, [], 0) := lim_call.2 ⟨30, by kernel_rfl⟩
theorem elderVersions (s : List UInt8) (hs : s.length ≤ 9223372036854775807) (m l : Bool) : LL.call n_c_law21_ElderVersions [.s (bs s), .b m, .b l] [] 0 = some (.b true, [], 0) := by
  refine wp_call e_c_law21_ElderVersions rfl ?_
  have ha := c_law21_awake
  have hC := c_law01_Cut s 10 (by omega) hs []
  have l1 : (s.take 10).length ≤ 10 := by simp; omega
  generalize s.take 10 = t at *
  simp at hC
  simp [F_c_law21_ElderVersions, hC]
  have hV := fun s hs => c_elder_Version s hs []
  have hW := fun s hs => c_ref21_Version s hs []
  simp at hV hW
  obtain ⟨u, hu, hul⟩ : ∃ u : List UInt8, (67 :: 82 :: 89 :: 79 :: t) = u ∧ u.length ≤ 14 := ⟨_, rfl, by simp; omega⟩
  cases m
  · cases l
    · simp [ha, hV t (by omega), hW t (by omega)]
    · simp
      refine wc_ind (fun a : Nat × List UInt8 => ⟨[(0, .v (.s (bs a.2))), (7, .v (.i .i64 a.1))], [], [], 0⟩) (fun a => 13 - a.1) (fun a => a.1 ≤ 13 ∧ a.2.length ≤ 14 * 2 ^ a.1) ?_ (0, t) ⟨by simp, by simp; omega⟩
      rintro ⟨i, v⟩ ⟨h1, h2⟩ ih
      simp only at h1 h2
      have hp : 2 ^ i ≤ 2 ^ 13 := Nat.pow_le_pow_right (by omega) h1
      have e13 : (2 : Nat) ^ 13 = 8192 := by decide
      have hv : v.length ≤ 114688 := by omega
      by_cases hi : i < 13
      · have hi' : (i : Int) < 13 := by omega
        by_cases h0 : 0 < v.length
        · have h0' : (0 : Int) < v.length := by omega
          have w1 : IntKind.i64.wrap ((i : Int) + 1) = i + 1 := wrap64 (by omega)
          simp [hi, hi', h0, h0', bins]
          refine ⟨by omega, ?_⟩
          have := ih (i + 1, v ++ v) (by simp; omega) ⟨hi, by simp [Nat.pow_succ]; omega⟩
          simpa [w1] using this
        · have h0' : ¬ (0 : Int) < v.length := by omega
          simp [hi, hi', h0, h0', ha, hV v (by omega), hW v (by omega)]
      · have hi' : ¬ (i : Int) < 13 := by omega
        simp [hi, hi', ha, hV v (by omega), hW v (by omega)]
  · cases l
    · simp [ha, bins, hu, hV u (by omega), hW u (by omega)]
      omega
    · simp [bins, hu]
      refine ⟨by omega, ?_⟩
      refine wc_ind (fun a : Nat × List UInt8 => ⟨[(0, .v (.s (bs a.2))), (7, .v (.i .i64 a.1))], [], [], 0⟩) (fun a => 13 - a.1) (fun a => a.1 ≤ 13 ∧ a.2.length ≤ 14 * 2 ^ a.1) ?_ (0, u) ⟨by simp, by simp; omega⟩
      rintro ⟨i, v⟩ ⟨h1, h2⟩ ih
      simp only at h1 h2
      have hp : 2 ^ i ≤ 2 ^ 13 := Nat.pow_le_pow_right (by omega) h1
      have e13 : (2 : Nat) ^ 13 = 8192 := by decide
      have hv : v.length ≤ 114688 := by omega
      by_cases hi : i < 13
      · have hi' : (i : Int) < 13 := by omega
        by_cases h0 : 0 < v.length
        · have h0' : (0 : Int) < v.length := by omega
          have w1 : IntKind.i64.wrap ((i : Int) + 1) = i + 1 := wrap64 (by omega)
          simp [hi, hi', h0, h0', bins]
          refine ⟨by omega, ?_⟩
          have := ih (i + 1, v ++ v) (by simp; omega) ⟨hi, by simp [Nat.pow_succ]; omega⟩
          simpa [w1] using this
        · have h0' : ¬ (0 : Int) < v.length := by omega
          simp [hi, hi', h0, h0', ha, hV v (by omega), hW v (by omega)]
      · have hi' : ¬ (i : Int) < 13 := by omega
        simp [hi, hi', ha, hV v (by omega), hW v (by omega)]
def args_ElderVersions : List (Bool × Ty) := [(false, .s), (false, .b), (false, .b)]
theorem args_ElderVersions_ok : tyA Try.prog [9, 4, 4] = some args_ElderVersions := by kernel_rfl
theorem law_ElderVersions (ds : List D) (h : FitA args_ElderVersions ds) : ∃ sg lo, (lim EE).call n_c_law21_ElderVersions ds [] 0 = some (.b true, sg, lo) := by
  cases h with
  | c h1 k =>
    obtain ⟨v1, rfl, w1⟩ := fits_s h1
    cases k with
    | c h2 k =>
      obtain ⟨b2, rfl⟩ := fits_b h2
      cases k with
      | c h3 k =>
        obtain ⟨b3, rfl⟩ := fits_b h3
        cases k
        exact ⟨[], 0, elderVersions v1.data.toList w1 b2 b3⟩
end Go.AM
