/- Lemmas: an abstract machine over the loaded program, proved sound against the model once; what the program's functions compute. -/
import Derived.Test.YtpckpfohnpljgaaK5
namespace Go.AM
open Go.Proofs
set_option linter.unusedSimpArgs false
set_option linter.unusedVariables false
theorem c_law19_awake : LL.call n_c_law19_awake [] [] 0 = some (.b true, [], 0) := lim_call.2 ⟨30, by kernel_rfl⟩
theorem wrap1 : IntKind.i64.wrap 1 = 1 := by decide
theorem wrap2 : IntKind.i64.wrap 2 = 2 := by decide
theorem wrap3 : IntKind.i64.wrap 3 = 3 := by decide
theorem sectionShapes (k a b n : Int) : LL.call n_c_law19_SectionShapes [.i .i64 k, .i .i64 a, .i .i64 b, .i .i64 n] [] 0 = some (.b true, [], 0) := by
  refine wp_call e_c_law19_SectionShapes rfl ?_
  have ha := c_law19_awake
  have h255 := i64_255 n
  obtain ⟨m, hm, hm3⟩ : ∃ m : Nat, (bits .and .i64 n 255).tmod 3 = m ∧ m < 3 := by
    refine ⟨(n % 256).toNat % 3, ?_, by omega⟩
    rw [h255, Int.tmod_eq_emod_of_nonneg (by omega)]; omega
  have hR : ∀ l : List (Int × List UInt8), l = [(a, [1, 0]), (b, [0]), (3, [])].take (1 + m) → LL.call n_section_Read [.i .i64 k, .l .z 2 (l.map eSec)] [] 0 = _ := fun l hl => c_section_Read k l (by subst hl; simp; omega) (by
    subst hl
    intro x hx
    have := List.mem_of_mem_take hx
    simp at this
    rcases this with rfl | rfl | rfl <;> simp) .z []
  have h3 : m = 0 ∨ m = 1 ∨ m = 2 := by omega
  by_cases hk : k < 1 ∨ 4 < k
  · have hq : ((decide (k < 1)) = true ∧ True) ∨ (decide (k < 1)) = false ∧ (decide (4 < k)) = true := by
      by_cases h : k < 1
      · exact .inl ⟨by simpa using h, trivial⟩
      · exact .inr ⟨by simpa using h, by simp; omega⟩
    have hr : ∀ l, readS k l = (6, zeroI) := fun l => if_pos hk
    rcases h3 with rfl | rfl | rfl <;> (have h := hR _ rfl; rw [hr] at h; simp [eSec, eImK, zeroI] at h)
    all_goals
      have w0 : IntKind.i64.wrap (1 + 0) = 1 := by decide
      have w1 : IntKind.i64.wrap (1 + 1) = 2 := by decide
      have w2 : IntKind.i64.wrap (1 + 2) = 3 := by decide
      rcases hq with ⟨q1, q2⟩ | ⟨q1, q2⟩ <;> simp [F_c_law19_SectionShapes, ha, hm, q1, q2, w0, w1, w2, wrap1, wrap2, wrap3, h]
  have q1 : decide (k < 1) = false := by simp; omega
  have q2 : decide (4 < k) = false := by simp; omega
  by_cases hs : m = 1 ∧ a = 1 ∧ b = 2
  · obtain ⟨rfl, rfl, rfl⟩ := hs
    have h := hR _ rfl
    have hk4 : k = 1 ∨ k = 2 ∨ k = 3 ∨ k = 4 := by omega
    have hr : ∃ x : Im, readS k [((1 : Int), ([1, 0] : List UInt8)), (2, [0])] = (0, x) ∧ x.k = k ∧ x.p = 1 := by
      rcases hk4 with rfl | rfl | rfl | rfl
      · exact ⟨⟨1, 1, 0, [[]], []⟩, by kernel_rfl, rfl, rfl⟩
      · exact ⟨⟨2, 1, 0, [[]], []⟩, by kernel_rfl, rfl, rfl⟩
      · exact ⟨⟨3, 1, 0, [], [0]⟩, by kernel_rfl, rfl, rfl⟩
      · exact ⟨⟨4, 1, 0, [], [0]⟩, by kernel_rfl, rfl, rfl⟩
    obtain ⟨x, hr, x1, x2⟩ := hr
    simp [hr, eSec, eImK, x1, x2] at h
    simp [F_c_law19_SectionShapes, ha, hm, q1, q2, wrap2, h]
  · have hr : readS k ([(a, [1, 0]), (b, [0]), (3, [])].take (1 + m)) = (2, zeroI) := by
      unfold readS
      rw [if_neg hk]
      rcases h3 with rfl | rfl | rfl
      · rfl
      · simp at hs ⊢
        intro h1 h2; exact absurd h2 (hs h1)
      · rfl
    have h := hR _ rfl
    rw [hr] at h
    have hA : m = 1 → ((a != 1) = true ∧ True) ∨ (a != 1) = false ∧ (b != 2) = true := by
      intro h
      by_cases h2 : a = 1
      · exact .inr ⟨by simpa using h2, by simp; exact fun h3 => hs ⟨h, h2, h3⟩⟩
      · exact .inl ⟨by simpa using h2, trivial⟩
    rcases h3 with rfl | rfl | rfl
    · simp [eSec, eImK, zeroI] at h
      simp [F_c_law19_SectionShapes, ha, hm, q1, q2, wrap1, h]
    · simp [eSec, eImK, zeroI] at h
      rcases hA rfl with ⟨q3, q4⟩ | ⟨q3, q4⟩ <;> simp [F_c_law19_SectionShapes, ha, hm, q1, q2, q3, q4, wrap2, h]
    · simp [eSec, eImK, zeroI] at h
      simp [F_c_law19_SectionShapes, ha, hm, q1, q2, wrap3, h]
def args_SectionShapes : List (Bool × Ty) := [(false, .i .i64), (false, .i .i64), (false, .i .i64), (false, .i .i64)]
theorem args_SectionShapes_ok : tyA Try.prog [3, 3, 3, 3] = some args_SectionShapes := by kernel_rfl
theorem law_SectionShapes (ds : List D) (h : FitA args_SectionShapes ds) : ∃ sg lo, (lim EE).call n_c_law19_SectionShapes ds [] 0 = some (.b true, sg, lo) := by
  cases h with
  | c h1 k =>
    obtain ⟨n1, rfl, w1⟩ := fits_i h1
    cases k with
    | c h2 k =>
      obtain ⟨n2, rfl, w2⟩ := fits_i h2
      cases k with
      | c h3 k =>
        obtain ⟨n3, rfl, w3⟩ := fits_i h3
        cases k with
        | c h4 k =>
          obtain ⟨n4, rfl, w4⟩ := fits_i h4
          cases k
          exact ⟨[], 0, sectionShapes n1 n2 n3 n4⟩
end Go.AM

namespace Go.AM
open Go.Proofs
set_option linter.unusedSimpArgs false
set_option linter.unusedVariables false
theorem c_law01_Cut (l : List UInt8) (n : Nat) (hn : n ≤ 1099511627776) (hl : l.length ≤ 9223372036854775807) (sg) : LL.call n_c_law01_Cut [.s (bs l), .i .i64 n] sg sg.length = some (.s (bs (l.take n)), sg, sg.length) := by
  refine wp_call e_c_law01_Cut rfl ?_
  by_cases h : n < l.length
  · have h' : (n : Int) < l.length := by omega
    have h2 : (n : Int) ≤ l.length := by omega
    simp [F_c_law01_Cut, h, h', h2]
  · have h' : ¬ (n : Int) < l.length := by omega
    simp [F_c_law01_Cut, h, h']
    rw [List.take_of_length_le (by omega)]
theorem wrap0 : IntKind.i64.wrap 0 = 0 := by decide
set_option maxRecDepth 20000 in
theorem sectionReads (k : Int) (mt dt : List UInt8) (hm : mt.length ≤ 9223372036854775807) (hd : dt.length ≤ 9223372036854775807) : LL.call n_c_law19_SectionReads [.i .i64 k, .s (bs mt), .s (bs dt)] [] 0 = some (.b true, [], 0) := by
  refine wp_call e_c_law19_SectionReads rfl ?_
  have ha := c_law19_awake
  have hC1 := c_law01_Cut mt 40 (by omega) hm []
  have hC2 := c_law01_Cut dt 400 (by omega) hd []
  have l1 : (mt.take 40).length ≤ 40 := by simp; omega
  have l2 : (dt.take 400).length ≤ 400 := by simp; omega
  generalize mt.take 40 = mt' at *
  generalize dt.take 400 = dt' at *
  have h255 := i64_255 k
  obtain ⟨K, hK, hK1, hK4⟩ : ∃ K : Int, IntKind.i64.wrap (1 + (bits .and .i64 k 255).tmod 4) = K ∧ 1 ≤ K ∧ K ≤ 4 := by
    refine ⟨1 + k % 256 % 4, ?_, by omega, by omega⟩
    rw [h255, Int.tmod_eq_emod_of_nonneg (by omega), wrap64 (by omega)]
  have hR := c_section_Read K [(1, mt'), (2, dt')] (by simp) (by simp; omega) .z []
  have hF := c_ref19_Read K ⟨hK1, hK4⟩ mt' dt' (by omega) (by omega) []
  have hS : readS K [(1, mt'), (2, dt')] = readI K mt' dt' := by
    unfold readS; rw [if_neg (by omega)]; rfl
  rw [hS] at hR
  have ee : (eLK .z 2 eI : List It → D) = eL 2 eI := rfl
  have er : (eLK .z 2 eR : List It → D) = eL 2 eR := rfl
  simp at hC1 hC2
  by_cases h0 : (readI K mt' dt').1 = 0
  · obtain ⟨hrd, hkk, hmm, hdd⟩ := readI_inv ⟨hK1, hK4⟩ h0
    rw [if_pos h0] at hR
    rw [h0] at hR hF
    generalize (readI K mt' dt').2 = x at *
    have hok : x.ok := hrd.ok
    have hsm : x.small := hrd.small
    have hwr : x.wr := hrd.wr (by rw [hdd]; omega)
    have hI := c_law18_Is x x hok hsm hok hsm []
    have hO := c_section_Of x hwr []
    rw [hmm, hdd] at hO
    simp [eImK, eRmK, eIm, eRm, ee, er, eSec] at hR hF hI hO
    simp [F_c_law19_SectionReads, ha, hC1, hC2, hK, hR, hF, hI, hO]
  · have hz : (readI K mt' dt').2 = zeroI := readI_zero h0
    rw [hz] at hR hF
    simp [eImK, eRmK, zeroI, eSec, h0] at hR hF
    have hb : ((readI K mt' dt').1 != 0) = true := by simpa using h0
    simp [F_c_law19_SectionReads, ha, hC1, hC2, hK, hR, hF, hb, wrap0]
def args_SectionReads : List (Bool × Ty) := [(false, .i .i64), (false, .s), (false, .s)]
theorem args_SectionReads_ok : tyA Try.prog [3, 9, 9] = some args_SectionReads := by kernel_rfl
theorem law_SectionReads (ds : List D) (h : FitA args_SectionReads ds) : ∃ sg lo, (lim EE).call n_c_law19_SectionReads ds [] 0 = some (.b true, sg, lo) := by
  cases h with
  | c h1 k =>
    obtain ⟨n1, rfl, w1⟩ := fits_i h1
    cases k with
    | c h2 k =>
      obtain ⟨v2, rfl, w2⟩ := fits_s h2
      cases k with
      | c h3 k =>
        obtain ⟨v3, rfl, w3⟩ := fits_s h3
        cases k
        exact ⟨[], 0, sectionReads n1 v2.data.toList v3.data.toList w2 w3⟩
end Go.AM
