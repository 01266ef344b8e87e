/- Lemmas: an abstract machine over the loaded program, proved sound against the model once; what the program's functions compute. -/
import Derived.Test.YtpgengahgdmhmaaGreatK4
set_option linter.all false
namespace Go.AM
theorem flatMap_len {α : Type} (f : α → List UInt8) (B : Nat) : ∀ l : List α, (∀ x ∈ l, (f x).length ≤ B) → (l.flatMap f).length ≤ B * l.length
 | [], h => by simp
 | a :: l, h => by
  have h1 := h a (by simp)
  have h2 := flatMap_len f B l (fun x hx => h x (by simp [hx]))
  simp only [List.flatMap_cons, List.length_append, List.length_cons, Nat.mul_add, Nat.mul_one]; omega
theorem itemB_len {y : It} (h : y.ok) : (itemB y).length ≤ 18 := by
 have := numB_len10 (zig_lt h.2)
 simp [itemB, fixB_len]; omega
theorem itemsB_len {l : List It} (h : ∀ y ∈ l, y.ok) (hl : l.length ≤ 1099511627776) : (itemsB l).length ≤ 10 + 18 * l.length := by
 have h1 := flatMap_len itemB 18 l (fun y hy => itemB_len (h y hy))
 have h2 := numB_len10 (n := l.length) (by omega)
 simp only [itemsB, List.length_append]; omega
theorem Im.rd.dlen {x : Im} (h : x.rd) : (dataB x).length ≤ 1099511627776 := by
 have h1 := h.lens
 have h2 := flatMap_len itemsB 18010 x.ls (fun l hl => by
  have := itemsB_len (fun y hy => ((h.is l hl).1 y hy).1) (by have := (h.is l hl).2; omega)
  have := (h.is l hl).2
  omega)
 have h3 := flatMap_len (fun n : Int => numB n.toNat) 10 x.cs (fun n hn => numB_len10 (by have := h.cs n hn; omega))
 simp only [dataB, List.length_append]; omega
theorem Im.rd.wr' {x : Im} (h : x.rd) : x.wr := h.wr h.dlen
theorem signR_numB {v : Int} (h : -9223372036854775808 ≤ v ∧ v ≤ 9223372036854775807) (r : List UInt8) : signR ⟨numB (zig v) ++ r, 0⟩ = (⟨r, 0⟩, v) := by
 have hz := zig_lt h
 unfold signR
 rw [numR_numB hz, if_neg (by omega)]
 simp [unzig_zig v h]
theorem wholeR_fixB {n : Nat} (h : n < 18446744073709551616) (r : List UInt8) : wholeR ⟨fixB n 8 ++ r, 0⟩ 8 = (⟨r, 0⟩, n) := by
 have := bytesR_app (fixB n 8) r (by simp [fixB_len])
 rw [fixB_len] at this
 have e : ((8 : Nat) : Int) = 8 := rfl
 rw [e] at this
 unfold wholeR
 rw [this]
 simp only [leV_fixB 8 n (by simpa using h)]
theorem itemsG_fwd : ∀ (l : List It) (r : List UInt8) (acc : List It), (∀ y ∈ l, y.can) → itemsG l.length ⟨l.flatMap itemB ++ r, 0⟩ acc = (⟨r, 0⟩, acc ++ l)
 | [], r, acc, h => by simp [itemsG]
 | y :: l, r, acc, h => by
  have hy := h y (by simp)
  have ih := itemsG_fwd l r (acc ++ [y]) (fun z hz => h z (by simp [hz]))
  have e : (y :: l).flatMap itemB ++ r = fixB (key y.p) 8 ++ (numB (zig y.v) ++ (l.flatMap itemB ++ r)) := by simp [itemB]
  have hk := key_lt hy.1.1
  have hb : backB (key y.p) = y.p := by rw [key_can hy, backB_keyC hy.1.1]
  rw [List.length_cons, itemsG_succ, e, wholeR_fixB hk]
  simp only
  rw [signR_numB hy.1.2]
  simp only [hb, hy.2]
  rw [if_neg (by simp), if_neg (by simp), ih]
  simp
theorem takeS_fwd {l : List It} (h : ∀ y ∈ l, y.can) (hl : l.length < 18446744073709551616) (r : List UInt8) : takeS ⟨itemsB l ++ r, 0⟩ = if l.length > 1000 then (failR 3, []) else (⟨r, 0⟩, l) := by
 unfold takeS itemsB
 rw [List.append_assoc, numR_numB hl]
 split
 ·rfl
 ·simp only
  rw [itemsG_fwd l r [] h]; rfl
theorem listsG_fwd : ∀ (ls : List (List It)) (r : List UInt8) (acc), (∀ m ∈ ls, (∀ y ∈ m, y.can) ∧ m.length ≤ 1000) → listsG ls.length ⟨ls.flatMap itemsB ++ r, 0⟩ acc = (⟨r, 0⟩, acc ++ ls)
 | [], r, acc, h => by simp [listsG]
 | m :: ls, r, acc, h => by
  have hm := h m (by simp)
  have ih := listsG_fwd ls r (acc ++ [m]) (fun z hz => h z (by simp [hz]))
  rw [List.length_cons, listsG_succ, List.flatMap_cons, List.append_assoc, takeS_fwd hm.1 (by have := hm.2; omega), if_neg (by have := hm.2; omega)]
  simp only [ih, List.append_assoc, List.singleton_append]
theorem countsG_fwd : ∀ (cs : List Int) (r : List UInt8) (acc), (∀ m ∈ cs, 0 ≤ m ∧ m ≤ 1125899906842624) → countsG cs.length ⟨cs.flatMap (fun n => numB n.toNat) ++ r, 0⟩ acc = (⟨r, 0⟩, acc ++ cs)
 | [], r, acc, h => by simp [countsG]
 | m :: cs, r, acc, h => by
  have hm := h m (by simp)
  have ih := countsG_fwd cs r (acc ++ [m]) (fun z hz => h z (by simp [hz]))
  have e : ((m.toNat : Nat) : Int) = m := by omega
  rw [List.length_cons, countsG_succ, List.flatMap_cons, List.append_assoc, numR_numB (by omega), if_neg (by omega)]
  simp only [e, ih, List.append_assoc, List.singleton_append]
theorem endR_nil : endR ⟨[], 0⟩ = ⟨[], 0⟩ := rfl
theorem readI_fwd {x : Im} (h : x.rd) : readI x.k (metaB x) (dataB x) = (0, x) := by
 have hp := h.p
 have hc := h.c
 have e1 := numR_numB (n := x.p.toNat) (most := 255) (by omega) (numB x.c.toNat)
 rw [if_neg (by omega)] at e1
 have e := numR_numB (n := x.c.toNat) (most := 18446744073709551615) (by omega) []
 rw [List.append_nil, if_neg (by omega)] at e
 have ep : ((x.p.toNat : Nat) : Int) = x.p := by omega
 have ec : ((x.c.toNat : Nat) : Int) = x.c := by omega
 have e2 := countsG_fwd x.cs [] [] h.cs
 rw [List.append_nil] at e2
 have hR : readG (shapeN x.k x.p).1 (shapeN x.k x.p).2 ⟨dataB x, 0⟩ = (⟨[], 0⟩, x.ls, x.cs) := by
  unfold readG dataB
  rw [← h.l, ← h.n, listsG_fwd x.ls _ [] h.is]
  simp only
  rw [e2]
  simp [endR_nil]
 unfold readI metaB
 simp only [e1, e, endR_nil, ep, ec, hR]
 simp
theorem makeI_rd (x : Raw) (h : x.ok) : (makeI x).rd := by
 have h1 := makeI_lens x
 have h2 := makeI_legal x
 have h3 := legal_k h2
 have h4 := makeI_nn x
 have hp : 1 ≤ (makeI x).p ∧ (makeI x).p ≤ 16 := paramOf_le x.k x.p
 obtain ⟨s1, s2, s3, s4⟩ := shape_nat h3 (p := (makeI x).p) (by omega)
 refine ⟨h3, by omega, ?_, by omega, by omega, fun m hm => ⟨fun y hy => ?_, ?_⟩, fun m hm => ?_⟩
 ·rw [makeI_c]; exact h.2.1
 ·have := (makeI_ls x h m hm).2 y hy
  exact ⟨this.1, congrArg It.p this.2⟩
 ·have := (makeI_ls x h m hm).1; omega
 ·have := makeI_cs x m hm; omega
theorem readS_of {x : Im} (h : x.rd) : readS x.k [(1, metaB x), (2, dataB x)] = (0, x) := by
 unfold readS; rw [if_neg (by have := h.k; omega)]
 simp [readI_fwd h]
end Go.AM

namespace Go.AM
def poly : Nat := 3988292384
def stp1 (x : Nat) : Nat := if x % 2 = 1 then (x / 2) ^^^ poly else x / 2
def stps : Nat → Nat → Nat
 | 0, x => x
 | n + 1, x => stps n (stp1 x)
def tabE (i : Nat) : Nat := stps 8 i
def stpB (x : Nat) (c : UInt8) : Nat := (x / 256) ^^^ tabE ((x % 256) ^^^ c.toNat)
def moreN (sum : Nat) (s : List UInt8) : Nat := 4294967295 - s.foldl stpB (4294967295 - sum)
def sumN (s : List UInt8) : Nat := moreN 0 s
theorem xor_lt32 {a b : Nat} (ha : a < 4294967296) (hb : b < 4294967296) : a ^^^ b < 4294967296 := Nat.xor_lt_two_pow (n := 32) ha hb
theorem stp1_lt {x : Nat} (h : x < 4294967296) : stp1 x < 4294967296 := by
 unfold stp1
 split
 ·exact xor_lt32 (by omega) (by decide)
 ·omega
theorem stps_lt : ∀ (n : Nat) {x : Nat}, x < 4294967296 → stps n x < 4294967296
 | 0, x, h => h
 | n + 1, x, h => stps_lt n (stp1_lt h)
theorem tabE_lt {i : Nat} (h : i < 256) : tabE i < 4294967296 := stps_lt 8 (by omega)
theorem stpB_lt {x : Nat} (c : UInt8) (h : x < 4294967296) : stpB x c < 4294967296 := by
 have hc := u8_lt c
 unfold stpB
 refine xor_lt32 (by omega) (tabE_lt ?_)
 exact Nat.xor_lt_two_pow (n := 8) (by omega) hc
theorem foldB_lt : ∀ (s : List UInt8) {x : Nat}, x < 4294967296 → s.foldl stpB x < 4294967296
 | [], x, h => h
 | c :: s, x, h => foldB_lt s (stpB_lt c h)
theorem moreN_lt (sum : Nat) (s : List UInt8) : moreN sum s < 4294967296 := by unfold moreN; omega
theorem sumN_lt (s : List UInt8) : sumN s < 4294967296 := moreN_lt 0 s
theorem xor_half (a b : Nat) : (a ^^^ b) / 2 = (a / 2) ^^^ (b / 2) := Nat.xor_div_two
theorem xor_mod2 (a b : Nat) : (a ^^^ b) % 2 = (a % 2 + b % 2) % 2 := by
 have := Nat.xor_mod_two_pow (a := a) (b := b) (n := 1)
 simp at this
 rw [this]
 have h1 : a % 2 = 0 ∨ a % 2 = 1 := by omega
 have h2 : b % 2 = 0 ∨ b % 2 = 1 := by omega
 rcases h1 with h1 | h1 <;> rcases h2 with h2 | h2 <;> simp [h1, h2]
theorem stp1_xor (a b : Nat) : stp1 (a ^^^ b) = stp1 a ^^^ stp1 b := by
 unfold stp1
 have h := xor_mod2 a b
 rw [xor_half]
 have h1 : a % 2 = 0 ∨ a % 2 = 1 := by omega
 have h2 : b % 2 = 0 ∨ b % 2 = 1 := by omega
 rcases h1 with h1 | h1 <;> rcases h2 with h2 | h2 <;> rw [h1, h2] at h <;> simp only [Nat.zero_add, Nat.add_zero, Nat.reduceAdd, Nat.reduceMod] at h <;> rw [h, h1, h2] <;> simp only [if_true, if_false, Nat.zero_ne_one, reduceIte]
 ·ac_rfl
 ·ac_rfl
 ·rw [show (a / 2 ^^^ poly) ^^^ (b / 2 ^^^ poly) = (a / 2 ^^^ b / 2) ^^^ (poly ^^^ poly) by ac_rfl, Nat.xor_self, Nat.xor_zero]
theorem stps_xor : ∀ (n a b : Nat), stps n (a ^^^ b) = stps n a ^^^ stps n b
 | 0, a, b => rfl
 | n + 1, a, b => by simp only [stps, stp1_xor]; exact stps_xor n _ _
theorem stp1_even (x : Nat) : stp1 (2 * x) = x := by unfold stp1; rw [if_neg (by omega)]; omega
theorem stps_shift : ∀ (n x : Nat), stps n (2 ^ n * x) = x
 | 0, x => by simp [stps]
 | n + 1, x => by
  simp only [stps]
  rw [Nat.pow_succ, Nat.mul_comm (2 ^ n) 2, Nat.mul_assoc, stp1_even]
  exact stps_shift n x
theorem split_low (n x : Nat) : x = (2 ^ n * (x / 2 ^ n)) ^^^ (x % 2 ^ n) := by
 apply Nat.eq_of_testBit_eq
 intro i
 rw [Nat.testBit_xor, Nat.testBit_mod_two_pow, Nat.testBit_two_pow_mul, Nat.testBit_div_two_pow]
 by_cases h : i < n
 ·simp [h, Nat.not_le.2 h]
 ·simp [h, Nat.not_lt.1 h]
theorem stps8 (y : Nat) : stps 8 y = (y / 256) ^^^ tabE (y % 256) := by
 conv => lhs; rw [split_low 8 y]
 rw [stps_xor, stps_shift]; rfl
theorem stpB_eq (x : Nat) (c : UInt8) : stpB x c = stps 8 (x ^^^ c.toNat) := by
 have hc := u8_lt c
 rw [stps8]
 unfold stpB
 have h1 : (x ^^^ c.toNat) / 256 = x / 256 := by
  have := Nat.xor_div_two_pow (a := x) (b := c.toNat) (n := 8)
  simp at this
  rw [this, Nat.div_eq_of_lt hc]; simp
 have h2 : (x ^^^ c.toNat) % 256 = (x % 256) ^^^ c.toNat := by
  have := Nat.xor_mod_two_pow (a := x) (b := c.toNat) (n := 8)
  simp at this
  exact this
 rw [h1, h2]
def num : List Bool → Nat
 | [] => 0
 | b :: l => b.toNat + 2 * num l
def feed (x : Nat) (b : Bool) : Nat := stp1 (x ^^^ b.toNat)
def bits8 : Nat → Nat → List Bool
 | 0, _ => []
 | n + 1, x => (x % 2 == 1) :: bits8 n (x / 2)
def bitsB (s : List UInt8) : List Bool := s.flatMap fun c => bits8 8 c.toNat
theorem num_lt : ∀ l : List Bool, num l < 2 ^ l.length
 | [] => by simp [num]
 | b :: l => by
  have := num_lt l
  have hb := Bool.toNat_lt b
  simp only [num, List.length_cons, Nat.pow_succ]; omega
theorem num_cons_xor (b : Bool) (l : List Bool) : num (b :: l) = b.toNat ^^^ (2 * num l) := by
 have h := split_low 1 (num (b :: l))
 have hb := Bool.toNat_lt b
 have e1 : num (b :: l) / 2 ^ 1 = num l := by simp only [num]; omega
 have e2 : num (b :: l) % 2 ^ 1 = b.toNat := by simp only [num]; omega
 rw [e1, e2] at h
 rw [h, Nat.xor_comm]
theorem feed_all : ∀ (l : List Bool) (x : Nat), l.foldl feed x = stps l.length (x ^^^ num l)
 | [], x => by simp [num, stps]
 | b :: l, x => by
  rw [List.foldl_cons, feed_all l]
  simp only [List.length_cons, stps, feed]
  congr 1
  rw [num_cons_xor, ← Nat.xor_assoc, stp1_xor (x ^^^ b.toNat), stp1_even]
theorem num_bits8 : ∀ (n x : Nat), x < 2 ^ n → num (bits8 n x) = x
 | 0, x, h => by simp at h; subst h; rfl
 | n + 1, x, h => by
  rw [Nat.pow_succ] at h
  simp only [bits8, num, num_bits8 n (x / 2) (by omega)]
  by_cases h2 : x % 2 = 1
  ·rw [h2]; simp; omega
  ·rw [show x % 2 = 0 by omega]; simp; omega
theorem bits8_len : ∀ (n x : Nat), (bits8 n x).length = n
 | 0, x => rfl
 | n + 1, x => by simp [bits8, bits8_len]
theorem foldB_feed : ∀ (s : List UInt8) (x : Nat), s.foldl stpB x = (bitsB s).foldl feed x
 | [], x => rfl
 | c :: s, x => by
  have e : bitsB (c :: s) = bits8 8 c.toNat ++ bitsB s := by simp [bitsB]
  have e2 := feed_all (bits8 8 c.toNat) x
  rw [bits8_len, num_bits8 8 c.toNat (u8_lt c), ← stpB_eq] at e2
  rw [e, List.foldl_append, e2, List.foldl_cons]
  exact foldB_feed s _
theorem bitsB_len (s : List UInt8) : (bitsB s).length = 8 * s.length := by
 induction s with
 | nil => rfl
 | cons c s ih =>
  have e : bitsB (c :: s) = bits8 8 c.toNat ++ bitsB s := by simp [bitsB]
  rw [e, List.length_append, bits8_len, ih]; simp; omega
theorem testBit_num : ∀ (l : List Bool) (i : Nat), (num l).testBit i = (l[i]?).getD false
 | [], i => by simp [num]
 | b :: l, 0 => by
  have hb := Bool.toNat_lt b
  rw [Nat.testBit_zero]
  cases b <;> simp [num] <;> omega
 | b :: l, i + 1 => by
  have e : num (b :: l) / 2 = num l := by
   have hb := Bool.toNat_lt b
   simp only [num]; omega
  rw [Nat.testBit_succ, e, testBit_num l i]; simp
theorem num_flip {l : List Bool} {i : Nat} (h : i < l.length) : num (l.set i (!l[i])) = num l ^^^ 2 ^ i := by
 apply Nat.eq_of_testBit_eq
 intro j
 rw [Nat.testBit_xor, testBit_num, testBit_num, Nat.testBit_two_pow, List.getElem?_set]
 by_cases e : i = j
 ·subst e; simp [h]
 ·simp [e]
theorem num_drop (l : List Bool) (n : Nat) : num (l.drop n) = num l / 2 ^ n := by
 apply Nat.eq_of_testBit_eq
 intro j
 rw [testBit_num, Nat.testBit_div_two_pow, testBit_num, List.getElem?_drop, Nat.add_comm]
theorem num_append : ∀ (a b : List Bool), num (a ++ b) = num a + 2 ^ a.length * num b
 | [], b => by simp [num]
 | x :: a, b => by
  simp only [List.cons_append, num, num_append a b, List.length_cons, Nat.pow_succ]
  rw [Nat.mul_add, Nat.add_assoc, Nat.mul_comm (2 ^ a.length) 2, Nat.mul_assoc]
theorem num_false : ∀ n : Nat, num (List.replicate n false) = 0
 | 0 => rfl
 | n + 1 => by simp [List.replicate_succ, num, num_false n]
theorem num_not : ∀ l : List Bool, num (l.map (!·)) = 2 ^ l.length - 1 - num l
 | [] => by simp [num]
 | b :: l => by
  have h1 := num_not l
  have h2 := num_lt l
  simp only [List.map_cons, num, h1, List.length_cons, Nat.pow_succ]
  cases b <;> simp <;> omega
theorem ones_step (k : Nat) : (2 ^ k - 1) ^^^ 2 ^ k = 2 ^ (k + 1) - 1 := by
 apply Nat.eq_of_testBit_eq
 intro j
 rw [Nat.testBit_xor, Nat.testBit_two_pow_sub_one, Nat.testBit_two_pow_sub_one, Nat.testBit_two_pow]
 by_cases h1 : j < k
 ·have h2 : ¬ k = j := by omega
  have h3 : j < k + 1 := by omega
  simp [h1, h2, h3]
 ·by_cases h2 : k = j
  ·subst h2; simp
  ·have h3 : ¬ j < k + 1 := by omega
   simp [h1, h2, h3]
theorem mul_xor (i a b : Nat) : (2 ^ i * a) ^^^ (2 ^ i * b) = 2 ^ i * (a ^^^ b) := by
 apply Nat.eq_of_testBit_eq
 intro j
 rw [Nat.testBit_xor, Nat.testBit_two_pow_mul, Nat.testBit_two_pow_mul, Nat.testBit_two_pow_mul, Nat.testBit_xor]
 by_cases h : i ≤ j <;> simp [h]
def byL : List Nat := [32, 26, 23, 22, 16, 12, 11, 10, 8, 7, 5, 4, 2, 1, 0]
def byX (j : Nat) : Nat := (byL.take j).foldl (fun a p => a ^^^ 2 ^ (32 - p)) 0
theorem byX_all : byX 15 = 1 + 2 * poly := by decide
theorem byX_succ {j : Nat} (h : j < 15) : byX (j + 1) = byX j ^^^ 2 ^ (32 - byL[j]'h) := by
 unfold byX
 rw [List.take_add_one, List.getElem?_eq_getElem (show j < byL.length from h), List.foldl_append]; rfl
theorem stps_succ' : ∀ (n x : Nat), stps (n + 1) x = stp1 (stps n x)
 | 0, x => rfl
 | n + 1, x => stps_succ' n (stp1 x)
theorem div_odd {i V : Nat} (h : V % 2 = 1) : (2 ^ i * V) ^^^ (2 ^ i * (1 + 2 * poly)) = 2 ^ (i + 1) * stp1 V := by
 rw [mul_xor, Nat.pow_succ, Nat.mul_assoc]
 congr 1
 unfold stp1
 rw [if_pos h]
 have h1 := split_low 1 (V ^^^ (1 + 2 * poly))
 simp only [Nat.pow_one] at h1
 rw [xor_half, xor_mod2, h] at h1
 have e : (1 + 2 * poly) / 2 = poly := by decide
 have e2 : (1 + (1 + 2 * poly) % 2) % 2 = 0 := by decide
 rw [e, e2, Nat.xor_zero] at h1
 exact h1
theorem div_even {i V : Nat} (h : ¬ V % 2 = 1) : 2 ^ i * V = 2 ^ (i + 1) * stp1 V := by
 unfold stp1
 rw [if_neg h, Nat.pow_succ, Nat.mul_assoc]
 congr 1; omega
theorem sum_div (s : List UInt8) : stps (8 * s.length) (num (bitsB s) ^^^ 4294967295) = s.foldl stpB 4294967295 := by
 rw [foldB_feed, feed_all, bitsB_len, Nat.xor_comm]
end Go.AM

namespace Go.AM
def eb (b : Bool) : D := .i .i64 b.toNat
instance : Flat eb := ⟨fun _ => rfl, fun _ => rfl, fun _ _ => rfl⟩
theorem c_ref02_Bits (s : List UInt8) (hs : s.length ≤ 1099511627776) (sg) : LL.call n_c_ref02_Bits [.s (bs s)] sg sg.length = some (.l .x 1 ((bitsB s).map eb), sg, sg.length) := by
 refine wp_call e_c_ref02_Bits rfl ?_
 simp [F_c_ref02_Bits]
 refine wc_ind (fun a : Nat × List Bool => ⟨[(0, .v (.s (bs s))), (3, .v (.l .x 1 (a.2.map eb))), (4, .v (.i .i64 a.1))], [], sg, sg.length⟩) (fun a => s.length - a.1)
  (fun a => a.1 ≤ s.length ∧ a.2 = bitsB (s.take a.1)) ?_ (0, []) ⟨by simp, rfl⟩
 rintro ⟨i, l⟩ ⟨h1, h2⟩ ih
 simp only at h1 h2
 have hlen : l.length = 8 * i := by rw [h2, bitsB_len]; simp; omega
 by_cases hi : i < s.length
 ·have hi' : (i : Int) < s.length := by omega
  have w1 : IntKind.i64.wrap ((i : Int) + 1) = i + 1 := wrap64 (by omega)
  have hc := u8_lt s[i]
  have w2 : IntKind.i64.wrap (s[i].toNat : Int) = s[i].toNat := wrap64 (by omega)
  have hb : bitsB (s.take (i + 1)) = bitsB (s.take i) ++ bits8 8 s[i].toNat := by
   rw [List.take_add_one, List.getElem?_eq_getElem hi]
   show List.flatMap _ (_ ++ [s[i]]) = _
   rw [List.flatMap_append]; simp [bitsB]
  simp [hi, hi', w2]
  refine wc_ind (fun a : Nat × Nat × List Bool => ⟨[(0, .v (.s (bs s))), (3, .v (.l .x 1 (a.2.2.map eb))), (4, .v (.i .i64 i)), (5, .v (.i .i64 a.2.1)), (6, .v (.i .i64 a.1))], [], sg, sg.length⟩) (fun a => 8 - a.1)
   (fun a => a.1 ≤ 8 ∧ a.2.1 < 256 ∧ a.2.2 ++ bits8 (8 - a.1) a.2.1 = l ++ bits8 8 s[i].toNat) ?_ (0, s[i].toNat, l) ⟨by simp, hc, rfl⟩
  rintro ⟨k, c, m⟩ ⟨g1, g2, g3⟩ ih2
  simp only at g1 g2 g3
  have hlm : m.length ≤ 8 * i + 8 := by
   have := congrArg List.length g3
   simp [bits8_len] at this; omega
  by_cases hk : k < 8
  ·have hk' : (k : Int) < 8 := by omega
   have w3 : IntKind.i64.wrap ((k : Int) + 1) = k + 1 := wrap64 (by omega)
   have e1 : (c : Int).tmod 2 = ((c % 2 : Nat) : Int) := rfl
   have w4 : IntKind.i64.wrap ((c : Int) / 2) = (c : Int) / 2 := wrap64 (by omega)
   have e3 : bits8 (8 - k) c = (c % 2 == 1) :: bits8 (8 - (k + 1)) (c / 2) := by
    rw [show 8 - k = (8 - (k + 1)) + 1 by omega]; rfl
   have e4 : eb (c % 2 == 1) = .i .i64 ((c : Int) % 2) := by
    have : c % 2 = 0 ∨ c % 2 = 1 := by omega
    rcases this with h | h <;> simp [eb, h] <;> omega
   simp [hk', e1]
   refine ⟨by omega, ?_⟩
   have := ih2 (k + 1, c / 2, m ++ [c % 2 == 1]) (by simp; omega) ⟨hk, by simp; omega, by rw [← g3, e3]; simp⟩
   simpa [w3, w4, e4] using this
  ·have hk' : ¬ (k : Int) < 8 := by omega
   have k8 : k = 8 := by omega
   subst k8
   simp [bits8] at g3
   simp
   have := ih (i + 1, m) (by simp; omega) ⟨hi, by rw [g3, hb, ← h2]; rfl⟩
   simpa [w1] using this
 ·have hi' : ¬ (i : Int) < s.length := by omega
  simp [hi, hi']
  rw [h2, List.take_of_length_le (by omega)]
theorem c_ref02_Sum (s : List UInt8) (hs : s.length ≤ 1073741824) (sg) : LL.call n_c_ref02_Sum [.s (bs s)] sg sg.length = some (.i .u32 (sumN s), sg, sg.length) := by
 refine wp_call e_c_ref02_Sum rfl ?_
 have hB := c_ref02_Bits s (by omega) sg
 have hlen := bitsB_len s
 obtain ⟨m, hm⟩ : ∃ m, m = bitsB s := ⟨_, rfl⟩
 rw [← hm] at hB hlen
 simp [F_c_ref02_Sum, hB]
 have ef : eb false = .i .i64 0 := rfl
 have hml : m.length ≤ 8589934592 := by omega
 refine wc_loop ?_
 have w01 : IntKind.i64.wrap 1 = 1 := by decide
 simp [w01]
 refine ⟨by omega, ?_⟩
 rw [show List.map eb m ++ [D.i .i64 0] = List.map eb (m ++ [false]) by simp [eb]]
 refine wc_ind (fun a : Nat × List Bool => ⟨[(3, .v (.l .x 1 (a.2.map eb))), (4, .v (.i .i64 m.length)), (5, .v (.i .i64 a.1))], [], sg, sg.length⟩) (fun a => 32 - a.1)
  (fun a => a.1 ≤ 32 ∧ a.2 = m ++ List.replicate a.1 false) ?_ (1, m ++ [false]) ⟨by simp, by simp⟩
 rintro ⟨k, l⟩ ⟨h1, h2⟩ ih
 simp only at h1 h2
 have hl := congrArg List.length h2
 simp at hl
 by_cases hk : k < 32
 ·have hk' : (k : Int) < 32 := by omega
  have w1 : IntKind.i64.wrap ((k : Int) + 1) = k + 1 := wrap64 (by omega)
  simp [hk']
  refine ⟨by omega, ?_⟩
  have := ih (k + 1, l ++ [false]) (by simp; omega) ⟨hk, by rw [h2]; simp [List.replicate_succ']⟩
  simpa [w1, ef] using this
 have hk' : ¬ (k : Int) < 32 := by omega
 have k32 : k = 32 := by omega
 subst k32
 have hnl : num l = num m := by rw [h2, num_append, num_false]; simp
 simp
 clear ih h2
 refine wc_loop ?_
 have l0 : 0 < l.length := by omega
 have l0' : (0 : Int) < l.length := by omega
 have e1 : ∀ b : Bool, IntKind.i64.wrap (1 - (b.toNat : Int)) = ((!b).toNat : Int) := by intro b; cases b <;> decide
 have eset : ∀ (l : List Bool) (i : Nat) (b : Bool), (l.map eb).set i (.i .i64 (b.toNat : Int)) = (l.set i b).map eb := by
  intro l i b
  rw [List.map_set]; rfl
 simp [l0, l0', eb, e1, w01]
 rw [eset]
 refine wc_ind (fun a : Nat × List Bool => ⟨[(3, .q (Q.hdr 3)), (4, .v (.i .i64 m.length)), (6, .v (.i .i64 a.1))], [(3, [.l .x 1 (a.2.map eb)])], sg, sg.length⟩) (fun a => 32 - a.1)
  (fun a => a.1 ≤ 32 ∧ a.2.length = m.length + 32 ∧ num a.2 = num m ^^^ (2 ^ a.1 - 1)) ?_ (1, l.set 0 (!l[0])) ⟨by simp, by simp; omega, by rw [num_flip l0, hnl]; rfl⟩
 clear l0 l0' hnl hl hk hk' h1
 rintro ⟨k, l⟩ ⟨h1, h2, h3⟩ ih
 simp only at h1 h2 h3
 by_cases hk : k < 32
 ·have hk' : (k : Int) < 32 := by omega
  have w1 : IntKind.i64.wrap ((k : Int) + 1) = k + 1 := wrap64 (by omega)
  have l0 : k < l.length := by omega
  have l0' : (k : Int) < l.length := by omega
  simp [hk', l0, l0', eb, e1]
  rw [eset]
  have := ih (k + 1, l.set k (!l[k])) (by simp; omega) ⟨hk, by simp; omega, by rw [num_flip l0, h3, Nat.xor_assoc, ones_step]⟩
  simpa [w1] using this
 have hk' : ¬ (k : Int) < 32 := by omega
 have k32 : k = 32 := by omega
 subst k32
 simp
 clear ih
 have h3' : num l = 2 ^ 0 * stps 0 (num m ^^^ 4294967295) := by rw [h3]; simp [stps]
 refine wc_ind (fun a : Nat × List Bool => ⟨[(3, .q (Q.hdr 3)), (4, .v (.i .i64 m.length)), (7, .v (.l .o 1 (byL.map fun p => D.i .i64 (p : Nat)))), (8, .v (.i .i64 a.1))], [(3, [.l .x 1 (a.2.map eb)])], sg, sg.length⟩) (fun a => m.length - a.1)
  (fun a => a.1 ≤ m.length ∧ a.2.length = m.length + 32 ∧ num a.2 = 2 ^ a.1 * stps a.1 (num m ^^^ 4294967295)) ?_ (0, l) ⟨by simp, h2, h3'⟩
 clear h1 h2 h3 h3' hk hk'
 rintro ⟨i, l⟩ ⟨h1, h2, h3⟩ ih
 simp only at h1 h2 h3
 by_cases hi : i < m.length
 ·have hi' : (i : Int) < m.length := by omega
  have l0 : i < l.length := by omega
  have l0' : (i : Int) < l.length := by omega
  have w1 : IntKind.i64.wrap ((i : Int) + 1) = i + 1 := wrap64 (by omega)
  have hbit : l[i] = ((stps i (num m ^^^ 4294967295)) % 2 == 1) := by
   have := testBit_num l i
   rw [List.getElem?_eq_getElem l0, h3, Nat.testBit_two_pow_mul] at this
   simp at this
   rw [← this]
   by_cases h : stps i (num m ^^^ 4294967295) % 2 = 1 <;> simp [h]
  by_cases ho : stps i (num m ^^^ 4294967295) % 2 = 1
  ·have hli : l[i] = true := by rw [hbit, ho]; rfl
   simp [hi, hi', l0, l0', eb, hli]
   refine wc_ind (fun a : Nat × List Bool => ⟨[(3, .q (Q.hdr 3)), (4, .v (.i .i64 m.length)), (7, .v (.l .o 1 (byL.map fun p => D.i .i64 (p : Nat)))), (8, .v (.i .i64 i)), (47, .v (.l .z 1 (byL.map fun p => D.i .i64 (p : Nat)))), (48, .v (.i .i64 byL.length)), (49, .v (.i .i64 a.1))], [(3, [.l .x 1 (a.2.map eb)])], sg, sg.length⟩) (fun a => 15 - a.1)
    (fun a => a.1 ≤ 15 ∧ a.2.length = m.length + 32 ∧ num a.2 = num l ^^^ (2 ^ i * byX a.1)) ?_ (0, l) ⟨by simp, h2, by simp [byX]⟩
   rintro ⟨j, l2⟩ ⟨g1, g2, g3⟩ ih2
   simp only at g1 g2 g3
   by_cases hj : j < 15
   ·have hjb : j < byL.length := hj
    have hj' : (j : Int) < byL.length := by omega
    obtain ⟨p, hp⟩ : ∃ p, p = byL[j]'hjb := ⟨_, rfl⟩
    have hp32 : p ≤ 32 := by
     have : ∀ p ∈ byL, p ≤ 32 := by decide
     exact this p (hp ▸ List.getElem_mem _)
    have hbx : byX (j + 1) = byX j ^^^ 2 ^ (32 - p) := by rw [hp]; exact byX_succ hj
    have w2 : IntKind.i64.wrap ((i : Int) + 32) = (i : Int) + 32 := wrap64 (by omega)
    have w3 : IntKind.i64.wrap ((i : Int) + 32 - (p : Int)) = ((i + 32 - p : Nat) : Int) := by rw [wrap64 (by omega)]; omega
    have q0 : i + 32 - p < l2.length := by omega
    have q0' : ((i + 32 - p : Nat) : Int) < l2.length := by omega
    have w4 : IntKind.i64.wrap ((j : Int) + 1) = j + 1 := wrap64 (by omega)
    have hpe : byL[j]'hjb = p := hp.symm
    generalize hqe : i + 32 - p = q at *
    simp [hjb, hj', hpe, w2, w3, q0, q0', eb, e1]
    rw [eset]
    have := ih2 (j + 1, l2.set q (!l2[q])) (by simp; omega) ⟨hj, by simp; omega, by
     simp only
     rw [num_flip q0, g3, hbx, ← mul_xor, Nat.xor_assoc, ← Nat.pow_add, ← hqe, show i + 32 - p = i + (32 - p) by omega]⟩
    simpa [w4] using this
   ·have hj' : ¬ j < byL.length := hj
    have hj2 : ¬ (j : Int) < byL.length := by omega
    have j15 : j = 15 := by omega
    subst j15
    rw [byX_all, h3, div_odd ho] at g3
    have hj3 : ¬ (15 : Int) < byL.length := hj2
    simp [hj', hj2, hj3]
    have := ih (i + 1, l2) (by simp; omega) ⟨hi, g2, by rw [g3, stps_succ']⟩
    simpa [w1] using this
  ·have hli : l[i] = false := by rw [hbit]; simpa using ho
   simp [hi, hi', l0, l0', eb, hli]
   have := ih (i + 1, l) (by simp; omega) ⟨hi, h2, by rw [h3, div_even ho, stps_succ']⟩
   simpa [w1] using this
 ·have hi' : ¬ (i : Int) < m.length := by omega
  have im : i = m.length := by omega
  simp [hi, hi']
  subst im
  clear ih
  refine wc_ind (fun a : Nat × Nat × Int => ⟨[(3, .q (Q.hdr 3)), (4, .v (.i .i64 m.length)), (11, .v (.i .u32 a.2.1)), (12, .v (.i .i64 a.2.2))], [(3, [.l .x 1 (l.map eb)])], sg, sg.length⟩) (fun a => a.1)
   (fun a => a.1 ≤ 32 ∧ a.2.1 = num ((l.drop (m.length + a.1)).map (!·)) ∧ a.2.2 = (a.1 : Int) - 1) ?_ (32, 0, 31) ⟨by simp, by rw [List.drop_of_length_le (by omega)]; rfl, by simp⟩
  rintro ⟨j, n, k⟩ ⟨g1, g2, g3⟩ ih
  simp only at g1 g2 g3
  cases j with
  | zero =>
   have hk0 : ¬ (0 : Int) ≤ k := by omega
   simp [hk0]
   rw [g2, num_not, num_drop, h3]
   have hd : (l.drop (m.length + 0)).length = 32 := by simp; omega
   rw [hd, Nat.add_zero, Nat.mul_div_cancel_left _ (Nat.two_pow_pos _), hlen, hm, sum_div]
   simp [sumN, moreN]
  | succ j =>
   have hk0 : k = j := by omega
   subst hk0
   obtain ⟨q, hq⟩ : ∃ q, q = m.length + j := ⟨_, rfl⟩
   have q0 : q < l.length := by omega
   have q0' : (q : Int) < l.length := by omega
   have hd : l.drop q = l[q] :: l.drop (q + 1) := List.drop_eq_getElem_cons q0
   rw [show m.length + (j + 1) = q + 1 by omega] at g2
   have hn := num_lt ((l.drop (q + 1)).map (!·))
   have hll : ((l.drop (q + 1)).map (!·)).length = 31 - j := by simp; omega
   have hp : 2 ^ (31 - j) ≤ 2 ^ 31 := Nat.pow_le_pow_right (by omega) (by omega)
   have e31 : (2 : Nat) ^ 31 = 2147483648 := by decide
   have hnum : num ((l.drop q).map (!·)) = (!l[q]).toNat + 2 * n := by
    rw [hd, g2]; rfl
   have hb := Bool.toNat_lt (!l[q])
   rw [hll] at hn
   have hn31 : n < 2147483648 := by omega
   have w1 : IntKind.u32.wrap ((n : Int) * 2) = (n : Int) * 2 := by simp [IntKind.wrap, IntKind.bits, IntKind.signed]; omega
   have w2 : IntKind.u32.wrap (((!l[q]).toNat : Nat) : Int) = (!l[q]).toNat := by simp only [IntKind.wrap, IntKind.bits, IntKind.signed]; simp; omega
   have w3 : IntKind.u32.wrap ((n : Int) * 2 + ((!l[q]).toNat : Nat)) = ((num ((l.drop q).map (!·)) : Nat) : Int) := by
    rw [hnum]; simp only [IntKind.wrap, IntKind.bits, IntKind.signed]; simp; omega
   have w4 : IntKind.i64.wrap ((m.length : Int) + j) = (q : Int) := by rw [hq, wrap64 (by omega)]; omega
   have w5 : IntKind.i64.wrap ((j : Int) - 1) = (j : Int) - 1 := wrap64 (by omega)
   generalize hN : num ((l.drop q).map (!·)) = N at *
   simp [q0, q0', w1, w2, w3, w4, eb, e1]
   have := ih (j, N, (j : Int) - 1) (by simp) ⟨by simp; omega, by simp only; rw [← hN, hq], rfl⟩
   simpa [w5] using this
end Go.AM

namespace Go.AM
theorem wrap_u32 (n : Int) : IntKind.u32.wrap n = n % 4294967296 := by simp [IntKind.wrap, IntKind.bits, IntKind.signed]
theorem wrapu32 {n : Int} (h : 0 ≤ n ∧ n < 4294967296) : IntKind.u32.wrap n = n := by rw [wrap_u32]; omega
theorem u32k : ∀ n : Int, 0 ≤ n → n < 2 ^ 32 → IntKind.u32.wrap n = n := fun n h0 h1 => wrapu32 ⟨h0, by simpa using h1⟩
theorem u32_xor (a b : Nat) (ha : a < 4294967296) (hb : b < 4294967296) : bits .xor .u32 a b = ((a ^^^ b : Nat) : Int) := by
 show IntKind.u32.wrap ((BitVec.ofInt 32 (a : Int) ^^^ BitVec.ofInt 32 (b : Int) : BitVec 32).toNat : Int) = _
 have e1 : BitVec.ofInt 32 (a : Int) = BitVec.ofNat 32 a := by simp
 have e2 : BitVec.ofInt 32 (b : Int) = BitVec.ofNat 32 b := by simp
 rw [e1, e2, BitVec.toNat_xor, BitVec.toNat_ofNat, BitVec.toNat_ofNat, Nat.mod_eq_of_lt (by simpa using ha), Nat.mod_eq_of_lt (by simpa using hb)]
 exact wrapu32 ⟨by omega, by have := xor_lt32 ha hb; omega⟩
theorem u8_xor (a b : Nat) (ha : a < 256) (hb : b < 256) : bits .xor .u8 a b = ((a ^^^ b : Nat) : Int) := by
 show IntKind.u8.wrap ((BitVec.ofInt 8 (a : Int) ^^^ BitVec.ofInt 8 (b : Int) : BitVec 8).toNat : Int) = _
 have e1 : BitVec.ofInt 8 (a : Int) = BitVec.ofNat 8 a := by simp
 have e2 : BitVec.ofInt 8 (b : Int) = BitVec.ofNat 8 b := by simp
 rw [e1, e2, BitVec.toNat_xor, BitVec.toNat_ofNat, BitVec.toNat_ofNat, Nat.mod_eq_of_lt (by simpa using ha), Nat.mod_eq_of_lt (by simpa using hb)]
 have : a ^^^ b < 256 := Nat.xor_lt_two_pow (n := 8) ha hb
 rw [wrap_u8]; omega
theorem u32_and1 (a : Nat) (ha : a < 4294967296) : bits .and .u32 a 1 = ((a % 2 : Nat) : Int) := by
 have := (bits_nat .u32 32 (by decide) u32k a 1 (by simpa using ha) (by decide)).1
 rw [Nat.and_one_is_mod] at this
 exact this
theorem u32_not (a : Nat) (ha : a < 4294967296) : bits .xor .u32 4294967295 (a : Int) = ((4294967295 - a : Nat) : Int) := by
 show IntKind.u32.wrap ((BitVec.ofInt 32 4294967295 ^^^ BitVec.ofInt 32 (a : Int) : BitVec 32).toNat : Int) = _
 have e : BitVec.ofInt 32 4294967295 = BitVec.allOnes 32 := by decide
 have e2 : BitVec.ofInt 32 (a : Int) = BitVec.ofNat 32 a := by simp
 rw [e, e2, BitVec.allOnes_xor, BitVec.toNat_not, BitVec.toNat_ofNat, Nat.mod_eq_of_lt (by simpa using ha)]
 exact wrapu32 (by omega)
def eT (i : Nat) : D := .i .u32 (tabE i)
def tabO : List D := (List.range 256).map eT
theorem shr1 (n : Nat) : (n : Int).fdiv (2 ^ min 1 IntKind.u32.bits) = ((n / 2 : Nat) : Int) := by
 rw [Int.fdiv_eq_ediv_of_nonneg _ (Int.pow_nonneg (by omega))]; rfl
theorem shr8' (n : Nat) : (n : Int).fdiv (2 ^ min 8 IntKind.u32.bits) = ((n / 256 : Nat) : Int) := by
 rw [Int.fdiv_eq_ediv_of_nonneg _ (Int.pow_nonneg (by omega))]; rfl
def tabP (i : Nat) : List D := (List.range i).map eT ++ List.replicate (256 - i) (.i .u32 0)
theorem tabP_len {i : Nat} (h : i ≤ 256) : (tabP i).length = 256 := by simp [tabP, -List.reduceReplicate]; omega
theorem tabP_set {i : Nat} (h : i < 256) : (tabP i).set i (eT i) = tabP (i + 1) := by
 unfold tabP
 rw [List.set_append_right _ _ (by simp), List.range_succ, show 256 - i = (256 - (i + 1)) + 1 by omega, List.replicate_succ]
 simp [-List.reduceReplicate]
theorem tabP_all : tabP 256 = tabO := by simp [tabP, tabO]
theorem c_crc_Make (sg) : LL.call n_crc_Make [] sg sg.length = some (.p sg.length 0, sg ++ [tabO], sg.length) := by
 refine wp_call e_crc_Make rfl ?_
 simp [-List.reduceReplicate, F_crc_Make]
 refine wc_up 256 (fun i => ⟨[(1, .v (.p sg.length 0)), (6, .v (.i .i64 i))], [], sg ++ [tabP i], sg.length⟩) (fun _ => True) ?_ ?_ 0 (by omega) trivial
 ·intro i hi _ ih
  have hi' : (i : Int) < 256 := by omega
  have w0 : IntKind.u32.wrap (i : Int) = i := wrapu32 (by omega)
  have w1 : IntKind.i64.wrap ((i : Int) + 1) = i + 1 := wrap64 (by omega)
  have hl := tabP_len (i := i) (by omega)
  have hset := tabP_set hi
  simp [hi', w0]
  refine wc_up 8 (fun k => ⟨[(1, .v (.p sg.length 0)), (2, .v (.i .i64 i)), (3, .v (.i .u32 (stps k i))), (6, .v (.i .i64 i)), (11, .v (.i .i64 k))], [], sg ++ [tabP i], sg.length⟩) (fun _ => True) ?_ ?_ 0 (by omega) trivial
  ·intro k hk _ ih2
   have hk' : (k : Int) < 8 := by omega
   have w2 : IntKind.i64.wrap ((k : Int) + 1) = k + 1 := wrap64 (by omega)
   have hlt := stps_lt k (x := i) (by omega)
   have e1 := u32_and1 (stps k i) hlt
   have e2 := shr1 (stps k i)
   have hs := stps_succ' k i
   obtain ⟨x, hx⟩ : ∃ x, x = stps k i := ⟨_, rfl⟩
   rw [← hx] at e1 e2 hs hlt
   have e3 : bits .xor .u32 ((x : Int) / 2) 3988292384 = (((x / 2) ^^^ 3988292384 : Nat) : Int) := u32_xor (x / 2) poly (by omega) (by decide)
   by_cases ho : x % 2 = 1
   ·have hb : ((x : Int) % 2 == 1) = true := by simp; omega
    have hs2 : stps (k + 1) i = (x / 2) ^^^ poly := by rw [hs]; unfold stp1; rw [if_pos ho]
    simp only [poly] at hs2
    simp [← hx, hk', e1, hb, e2, e3]
    simpa [w2, hs2] using ih2 trivial
   ·have hb : ((x : Int) % 2 == 1) = false := by simp; omega
    have hs2 : stps (k + 1) i = x / 2 := by rw [hs]; unfold stp1; rw [if_neg ho]
    simp [← hx, hk', e1, hb, e2]
    simpa [w2, hs2] using ih2 trivial
  ·simp [hi', hl, iav]
   refine ⟨by omega, ?_⟩
   have hov : (tabP i).take i ++ D.i .u32 (stps 8 i) :: (tabP i).drop (i + 1) = tabP (i + 1) := by
    rw [← hset, List.set_eq_take_append_cons_drop, if_pos (by omega)]; rfl
   rw [hov]
   simpa [w1] using ih trivial
 ·simp [tabP_all]
theorem tabO_get {i : Nat} (h : i < 256) : tabO[i]? = some (eT i) := by
 unfold tabO
 rw [List.getElem?_map, List.getElem?_range h]; rfl
theorem tabO_len : tabO.length = 256 := by simp [tabO]
theorem c_crc_More (s : List UInt8) (hs : s.length ≤ 1099511627776) (n : Nat) (hn : n < 4294967296) (sg) (g : Nat) (h : sg[g]? = some tabO) : LL.call n_crc_Table_More [.p g 0, .i .u32 n, .s (bs s)] sg sg.length = some (.i .u32 (moreN n s), sg, sg.length) := by
 refine wp_call e_crc_Table_More rfl ?_
 have hnot := u32_not n hn
 simp [F_crc_Table_More, IntKind.signed, IntKind.max, IntKind.bits, hnot]
 refine wc_ind (fun a : Nat × Nat => ⟨[(0, .v (.p g 0)), (2, .v (.s (bs s))), (7, .v (.i .u32 a.2)), (12, .v (.i .i64 s.length)), (13, .v (.i .i64 a.1))], [], sg, sg.length⟩) (fun a => s.length - a.1)
  (fun a => a.1 ≤ s.length ∧ a.2 = (s.take a.1).foldl stpB (4294967295 - n)) ?_ (0, 4294967295 - n) ⟨by simp, rfl⟩
 rintro ⟨i, x⟩ ⟨h1, h2⟩ ih
 simp only at h1 h2
 have hx : x < 4294967296 := by rw [h2]; exact foldB_lt _ (by omega)
 by_cases hi : i < s.length
 ·have hi' : (i : Int) < s.length := by omega
  have w1 : IntKind.i64.wrap ((i : Int) + 1) = i + 1 := wrap64 (by omega)
  have hc := u8_lt s[i]
  have e1 := shr8' x
  have w8 : IntKind.u8.wrap (x : Int) = ((x % 256 : Nat) : Int) := by rw [wrap_u8]; rfl
  have e2 := u8_xor (x % 256) s[i].toNat (Nat.mod_lt _ (by omega)) hc
  have hy : (x % 256) ^^^ s[i].toNat < 256 := Nat.xor_lt_two_pow (n := 8) (Nat.mod_lt _ (by omega)) hc
  have hst : stpB x s[i] = (x / 256) ^^^ tabE ((x % 256) ^^^ s[i].toNat) := rfl
  have hnext : (s.take (i + 1)).foldl stpB (4294967295 - n) = stpB x s[i] := by
   rw [List.take_add_one, List.getElem?_eq_getElem hi, h2]
   show List.foldl _ _ (_ ++ [s[i]]) = _
   rw [List.foldl_append]; rfl
  obtain ⟨y, hye⟩ : ∃ y, y = (x % 256) ^^^ s[i].toNat := ⟨_, rfl⟩
  rw [← hye] at hy hst e2
  have hg := tabO_get hy
  have e3 := u32_xor (x / 256) (tabE y) (by omega) (tabE_lt hy)
  rw [← hst] at e3
  have hy' : (y : Int) < 256 := by omega
  have hyl : y < tabO.length := by rw [tabO_len]; exact hy
  have hy1 : y + 1 ≤ tabO.length := by rw [tabO_len]; omega
  generalize hz : stpB x s[i] = z at *
  have e2' : bits .xor .u8 ((x : Int) % 256) s[i].toNat = (y : Int) := e2
  have e3' : bits .xor .u32 ((x : Int) / 256) (tabE y) = (z : Int) := e3
  have hget : tabO[y]'hyl = eT y := by
   rw [List.getElem?_eq_getElem hyl] at hg; exact Option.some.inj hg
  have hy255 : y ≤ 255 := by omega
  have htd : (tabO.drop y).take 1 = [D.i .u32 (tabE y)] := by
   rw [List.drop_eq_getElem_cons hyl, hget]; rfl
  simp [hi, hi', e1, w8, e2', iav, hy', hy, h, tabO_len, hy255, htd, e3']
  have := ih (i + 1, z) (by simp; omega) ⟨hi, hnext.symm⟩
  simpa [w1] using this
 ·have hi' : ¬ (i : Int) < s.length := by omega
  have e4 := u32_not x hx
  simp [hi, hi', IntKind.signed, IntKind.max, IntKind.bits, e4]
  rw [h2, List.take_of_length_le (by omega)]; rfl
end Go.AM

namespace Go.AM
theorem c_octet_fixed_uint32 {K : AM.K} (hK : Ko K) (b : List UInt8) (n : Nat) (hn : n < 4294967296) (hb : b.length ≤ 1099511627776) (sg) : LL.call n_octet_fixed_uint32 [.l K 1 (b.map eB), .i .u32 n, .i .i64 4] sg sg.length = some (.l .o 1 ((b ++ fixB n 4).map eB), sg, sg.length) := by
 refine wp_call e_octet_fixed_uint32 rfl ?_
 simp [F_octet_fixed_uint32]
 refine wc_ind (fun a : List UInt8 × Nat × Nat × AM.K => ⟨[(0, .v (.l a.2.2.2 1 (a.1.map eB))), (1, .v (.i .u32 a.2.1)), (7, .v (.i .i64 4)), (8, .v (.i .i64 a.2.2.1))], [], sg, sg.length⟩) (fun a => 4 - a.2.2.1)
  (fun a => a.1 ++ fixB a.2.1 (4 - a.2.2.1) = b ++ fixB n 4 ∧ a.2.2.1 ≤ 4 ∧ Ko a.2.2.2 ∧ (a.2.2.1 = 4 → a.2.2.2 = .o)) ?_ (b, n, 0, K) ⟨rfl, by simp, hK, by simp⟩
 rintro ⟨c, m, j, K'⟩ ⟨h1, h2, h3, h4⟩ ih
 simp only at h1 h2 h3 h4
 have hlen : c.length ≤ 1099511627776 + 4 := by
  have h4 := congrArg List.length h1
  simp [fixB_len] at h4; omega
 by_cases hj : j = 4
 ·subst hj
  have := h4 rfl
  subst this
  have := congrArg (List.map eB) h1
  simp [fixB] at this
  simp [this, fixB]
 ·have hj' : (j : Int) < 4 := by omega
  have hg : fixB m (4 - j) = UInt8.ofNat (m % 256) :: fixB (m / 256) (4 - (j + 1)) := by
   rw [show 4 - j = (4 - (j + 1)) + 1 by omega]; rfl
  have w1 : IntKind.i64.wrap ((j : Int) + 1) = j + 1 := wrap64 (by omega)
  rcases h3 with rfl | rfl
  all_goals
   simp [hj']
   refine ⟨by omega, ?_⟩
   have := ih (c ++ [UInt8.ofNat (m % 256)], m / 256, j + 1, .o) (by simp; omega) ⟨by rw [← h1, hg]; simp, by simp; omega, .inl rfl, by simp⟩
   simpa [shr8', w1, wrap_u8] using this
theorem c_octet_Word {K : AM.K} (hK : Ko K) (b : List UInt8) (n : Nat) (hn : n < 4294967296) (hb : b.length ≤ 1099511627776) (sg) : LL.call n_octet_Word [.l K 1 (b.map eB), .i .u32 n] sg sg.length = some (.l .o 1 ((b ++ fixB n 4).map eB), sg, sg.length) := by
 refine wp_call e_octet_Word rfl ?_
 have h := c_octet_fixed_uint32 hK b n hn hb sg
 simp at h
 simp [F_octet_Word, h]
theorem u32_or (a b : Nat) (ha : a < 4294967296) (hb : b < 4294967296) : bits .or .u32 a b = ((a ||| b : Nat) : Int) := (bits_nat .u32 32 (by decide) u32k a b (by simpa using ha) (by simpa using hb)).2
theorem or_pow32 {acc c k : Nat} (hk : k ≤ 3) (ha : acc < 256 ^ k) (hc : c < 256) :
    bits .or .u32 (acc : Int) (IntKind.u32.wrap ((c : Int) * 2 ^ (8 * k))) = ((acc + c * 256 ^ k : Nat) : Int) := by
 have hp : (256 : Nat) ^ k = 2 ^ (8 * k) := by rw [Nat.pow_mul]
 have hk8 : k = 0 ∨ k = 1 ∨ k = 2 ∨ k = 3 := by omega
 have h1 : c * 2 ^ (8 * k) < 4294967296 := by
  rcases hk8 with rfl | rfl | rfl | rfl <;> simp <;> omega
 have h2 : acc < 4294967296 := by
  rcases hk8 with rfl | rfl | rfl | rfl <;> simp at ha <;> omega
 have e : ((c : Int) * 2 ^ (8 * k)) = ((c * 2 ^ (8 * k) : Nat) : Int) := by simp
 rw [e, wrapu32 (by omega), u32_or _ _ h2 h1, or_pow _ _ _ (hp ▸ ha), hp]
theorem c_octet_In_Word (x : Oc) (hx : x.ok) (sg) (g : Nat) (h : sg[g]? = some (eIn x)) : LL.call n_octet_In_Word [.p g 0] sg sg.length = some (.i .u32 (wholeR x 4).2, sg.set g (eIn (wholeR x 4).1), sg.length) := by
 refine wp_call e_octet_In_Word rfl ?_
 have hb := c_octet_In_Bytes x hx 4 sg g h
 have hl := bytesR_len x 4
 simp [wholeR]
 generalize (bytesR x 4).2 = l at *
 generalize (bytesR x 4).1 = y at *
 simp at hb h hl
 simp [F_octet_In_Word, hb]
 refine wc_up l.length (fun i => ⟨[(3, .v (.i .u32 (leV (l.take i)))), (8, .v (.l .o 1 (List.map eB l))), (9, .v (.i .i64 l.length)), (10, .v (.i .i64 i))], [], sg.set g [.s (bs y.s), .i .i64 y.e], sg.length⟩) (fun _ => True) ?_ ?_ 0 (by omega) trivial
 ·intro i hi _ ih
  have hi' : (i : Int) < l.length := by omega
  have hc := u8_lt l[i]
  have hog : bits .or .u32 (leV (l.take i) : Int) (IntKind.u32.wrap (IntKind.u32.wrap (l[i].toNat : Int) * 2 ^ min (8 * (i : Int)).toNat IntKind.u32.bits)) = (leV (l.take (i + 1)) : Int) := by
   have := or_pow32 (acc := leV (l.take i)) (c := l[i].toNat) (k := i) (by omega) (leV_take_lt l i) hc
   rw [leV_take_succ (List.getElem?_eq_getElem hi), ← this, wrapu32 (n := (l[i].toNat : Int)) (by omega)]
   have : min (8 * (i : Int)).toNat IntKind.u32.bits = 8 * i := by simp [IntKind.bits]; omega
   rw [this]
  have w8 : IntKind.i64.wrap (8 * (i : Int)) = 8 * i := wrap64 (by omega)
  have p8 : (0 : Int) ≤ 8 * i := by omega
  have w1 : IntKind.i64.wrap ((i : Int) + 1) = i + 1 := wrap64 (by omega)
  simp [hi, hi', w8, p8, hog]
  simpa [w1] using ih trivial
 ·simp
theorem wholeR4_lt (x : Oc) : (wholeR x 4).2 < 4294967296 := by
 have h1 := leV_lt (bytesR x 4).2
 have h2 := bytesR_len x 4
 have : 256 ^ (bytesR x 4).2.length ≤ 256 ^ 4 := Nat.pow_le_pow_right (by omega) (by simpa using h2)
 unfold wholeR
 simp only
 have : (256 : Nat) ^ 4 = 4294967296 := by decide
 omega
theorem c_crc_Sum (s : List UInt8) (hs : s.length ≤ 1099511627776) (sg) (g : Nat) (h : sg[g]? = some tabO) : LL.call n_crc_Table_Sum [.p g 0, .l .z 1 [.s (bs s)]] sg sg.length = some (.i .u32 (sumN s), sg, sg.length) := by
 refine wp_call e_crc_Table_Sum rfl ?_
 have h1 := c_crc_More s hs 0 (by omega) sg g h
 have w01 : IntKind.i64.wrap 1 = 1 := by decide
 simp at h1
 simp [F_crc_Table_Sum]
 refine wc_loop ?_
 simp [h1, w01]
 refine wc_loop ?_
 simp [sumN]
def sealB (s : List UInt8) : List UInt8 := s ++ fixB (sumN s) 4
theorem c_crc_Seal (s : List UInt8) (hs : s.length ≤ 1073741824) (sg) (g : Nat) (h : sg[g]? = some tabO) : LL.call n_crc_Table_Seal [.p g 0, .s (bs s)] sg sg.length = some (.s (bs (sealB s)), sg, sg.length) := by
 refine wp_call e_crc_Table_Seal rfl ?_
 have h1 := c_crc_Sum s (by omega) sg g h
 have h2 := c_octet_Word (.inl rfl) s (sumN s) (sumN_lt s) (by omega) sg
 simp at h2
 simp [F_crc_Table_Seal, h1, h2, sealB]
theorem c_ref02_Word (n : Nat) (hn : n < 4294967296) (sg) : LL.call n_c_ref02_Word [.i .u32 n] sg sg.length = some (.s (bs (fixB n 4)), sg, sg.length) := by
 refine wp_call e_c_ref02_Word rfl ?_
 have e1 : (n : Int).tmod 256 = ((n % 256 : Nat) : Int) := rfl
 have a1 : IntKind.u8.wrap ((n : Int) % 256) = ((UInt8.ofNat (n % 256)).toNat : Int) := by rw [wrap_u8, ofNat_toNat' (by omega)]; omega
 have a2 : IntKind.u8.wrap ((IntKind.u32.wrap ((n : Int) / 256)).tmod 256) = ((UInt8.ofNat (n / 256 % 256)).toNat : Int) := by
  rw [wrapu32 (by omega), Int.tmod_eq_emod_of_nonneg (by omega), wrap_u8, ofNat_toNat' (by omega)]; omega
 have a3 : IntKind.u8.wrap ((IntKind.u32.wrap ((n : Int) / 65536)).tmod 256) = ((UInt8.ofNat (n / 256 / 256 % 256)).toNat : Int) := by
  rw [wrapu32 (by omega), Int.tmod_eq_emod_of_nonneg (by omega), wrap_u8, ofNat_toNat' (by omega)]; omega
 have a4 : IntKind.u8.wrap (IntKind.u32.wrap ((n : Int) / 16777216)) = ((UInt8.ofNat (n / 256 / 256 / 256 % 256)).toNat : Int) := by
  rw [wrapu32 (by omega), wrap_u8, ofNat_toNat' (by omega)]; omega
 have htb : toBy [D.i .u8 (IntKind.u8.wrap ((n : Int) % 256)), D.i .u8 (IntKind.u8.wrap ((IntKind.u32.wrap ((n : Int) / 256)).tmod 256)), D.i .u8 (IntKind.u8.wrap ((IntKind.u32.wrap ((n : Int) / 65536)).tmod 256)), D.i .u8 (IntKind.u8.wrap (IntKind.u32.wrap ((n : Int) / 16777216)))] = some (fixB n 4) := by
  rw [a1, a2, a3, a4]; exact toBy_eB (fixB n 4)
 simp [F_c_ref02_Word, e1, htb]
theorem c_ref02_Seal (s : List UInt8) (hs : s.length ≤ 1073741824) (sg) : LL.call n_c_ref02_Seal [.s (bs s)] sg sg.length = some (.s (bs (sealB s)), sg, sg.length) := by
 refine wp_call e_c_ref02_Seal rfl ?_
 have h1 := c_ref02_Sum s hs sg
 have h2 := c_ref02_Word (sumN s) (sumN_lt s) sg
 simp [F_c_ref02_Seal, h1, h2, bins, sealB, fixB_len]
 omega
end Go.AM

namespace Go.AM
theorem c_ref01_Fixed4 (n : Nat) (hn : n < 18446744073709551616) (sg) : LL.call n_c_ref01_Fixed [.i .u64 n, .i .i64 4] sg sg.length = some (.s (bs (fixB n 4)), sg, sg.length) := by
 refine wp_call e_c_ref01_Fixed rfl ?_
 simp [F_c_ref01_Fixed]
 refine wc_ind (fun a : List UInt8 × Nat × Nat => ⟨[(0, .v (.i .u64 a.2.1)), (1, .v (.i .i64 4)), (5, .v (.l .o 1 (a.1.map eB))), (6, .v (.i .i64 a.2.2))], [], sg, sg.length⟩) (fun a => 4 - a.2.2)
  (fun a => a.1 ++ fixB a.2.1 (4 - a.2.2) = fixB n 4 ∧ a.2.2 ≤ 4 ∧ a.2.1 < 18446744073709551616) ?_ ([], n, 0) ⟨rfl, by simp, hn⟩
 rintro ⟨c, m, j⟩ ⟨h1, h2, h5⟩ ih
 simp only at h1 h2 h5
 have hlen : c.length ≤ 4 := by
  have h4 := congrArg List.length h1
  simp [fixB_len] at h4; omega
 by_cases hj : j = 4
 ·subst hj
  have : c = fixB n 4 := by simpa [show fixB m 0 = [] from rfl] using h1
  subst this
  simp
 ·have hj' : (j : Int) < 4 := by omega
  have hg : fixB m (4 - j) = UInt8.ofNat (m % 256) :: fixB (m / 256) (4 - (j + 1)) := by
   rw [show 4 - j = (4 - (j + 1)) + 1 by omega]; rfl
  have w1 : IntKind.i64.wrap ((j : Int) + 1) = j + 1 := wrap64 (by omega)
  have w2 : IntKind.u64.wrap ((m : Int) / 256) = (m : Int) / 256 := wrapu64 (by omega)
  have e : (m : Int).tmod 256 = ((m % 256 : Nat) : Int) := rfl
  simp [hj', e]
  refine ⟨by omega, ?_⟩
  have := ih (c ++ [UInt8.ofNat (m % 256)], m / 256, j + 1) (by simp; omega) ⟨by rw [← h1, hg]; simp, by simp; omega, by simp; omega⟩
  simpa [w1, w2, wrap_u8] using this
theorem c_ref20_word (n : Nat) (hn : n < 9223372036854775808) (sg) : LL.call n_c_ref20_word [.i .i64 n] sg sg.length = some (.s (bs (fixB n 4)), sg, sg.length) := by
 refine wp_call e_c_ref20_word rfl ?_
 have h := c_ref01_Fixed4 n (by omega) sg
 have w : IntKind.u64.wrap (n : Int) = n := wrapu64 (by omega)
 simp [F_c_ref20_word, w, h]
def entB (id at_ : Nat) (s : List UInt8) : List UInt8 := UInt8.ofNat id :: (fixB at_ 4 ++ (fixB s.length 4 ++ fixB (sumN s) 4))
theorem entB_len (id at_ s) : (entB id at_ s).length = 13 := by simp [entB, fixB_len]
theorem c_ref20_entry (id at_ : Nat) (hi : id < 256) (ha : at_ < 1073741824) (s : List UInt8) (hs : s.length ≤ 1073741824) (sg) : LL.call n_c_ref20_entry [.i .i64 id, .i .i64 at_, .s (bs s)] sg sg.length = some (.s (bs (entB id at_ s)), sg, sg.length) := by
 refine wp_call e_c_ref20_entry rfl ?_
 have h1 := c_ref20_word at_ (by omega) sg
 have h2 := c_ref20_word s.length (by omega) sg
 have hsm := sumN_lt s
 have h3 := c_ref20_word (sumN s) (by omega) sg
 have h4 := c_ref02_Sum s hs sg
 have w1 : IntKind.u8.wrap (id : Int) = ((UInt8.ofNat id).toNat : Int) := u8_wrap id
 have w2 : IntKind.i64.wrap (sumN s : Int) = sumN s := wrap64 (by omega)
 have htb : ∀ c : UInt8, toBy [D.i .u8 (c.toNat : Int)] = some [c] := fun c => toBy_eB [c]
 have he : entB id at_ s = UInt8.ofNat id :: (fixB at_ 4 ++ (fixB s.length 4 ++ fixB (sumN s) 4)) := rfl
 generalize UInt8.ofNat id = c at *
 simp [F_c_ref20_entry, w1, w2, h1, h2, h3, h4, htb, bins, fixB_len, he]
def bodyB (x : Im) : List UInt8 :=
 [67, 82, 89, 79] ++ ([4, UInt8.ofNat x.k.toNat] ++ (fixB (41 + (metaB x).length + (dataB x).length) 4 ++ ([2] ++ (entB 1 37 (metaB x) ++ (entB 2 (37 + (metaB x).length) (dataB x) ++ (metaB x ++ dataB x))))))
def encB (x : Im) : List UInt8 := sealB (bodyB x)
theorem c_ref20_Encode (x : Im) (h : x.wr) (hk : 1 ≤ x.k ∧ x.k ≤ 4) (hm : (metaB x).length ≤ 1048576) (hd : (dataB x).length ≤ 1048576) (sg) : LL.call n_c_ref20_Encode [eRm x] sg sg.length = some (.s (bs (encB x)), sg, sg.length) := by
 refine wp_call e_c_ref20_Encode rfl ?_
 have hM := c_ref19_Meta x h sg
 have hD := c_ref19_Data x h sg
 have hk8 : IntKind.u8.wrap x.k = ((UInt8.ofNat x.k.toNat).toNat : Int) := by
  have := u8_wrap x.k.toNat
  rwa [show ((x.k.toNat : Nat) : Int) = x.k by omega] at this
 have hw := c_ref20_word (41 + (metaB x).length + (dataB x).length) (by omega) sg
 have he1 := c_ref20_entry 1 37 (by omega) (by omega) (metaB x) (by omega) sg
 have he2 := c_ref20_entry 2 (37 + (metaB x).length) (by omega) (by omega) (dataB x) (by omega) sg
 have hbl : (bodyB x).length ≤ 1073741824 := by simp [bodyB, fixB_len, entB_len]; omega
 have hS := c_ref02_Sum (bodyB x) hbl sg
 have hsm := sumN_lt (bodyB x)
 have hw2 := c_ref20_word (sumN (bodyB x)) (by omega) sg
 have w2 : IntKind.i64.wrap (sumN (bodyB x) : Int) = sumN (bodyB x) := wrap64 (by omega)
 have hbd : bodyB x = [67, 82, 89, 79] ++ ([4, UInt8.ofNat x.k.toNat] ++ (fixB (41 + (metaB x).length + (dataB x).length) 4 ++ ([2] ++ (entB 1 37 (metaB x) ++ (entB 2 (37 + (metaB x).length) (dataB x) ++ (metaB x ++ dataB x)))))) := rfl
 have hen : encB x = bodyB x ++ fixB (sumN (bodyB x)) 4 := rfl
 have l1 := entB_len 1 37 (metaB x)
 have l2 := entB_len 2 (37 + (metaB x).length) (dataB x)
 rw [hen]
 generalize hB : bodyB x = B at *
 generalize entB 1 37 (metaB x) = e1 at *
 generalize entB 2 (37 + (metaB x).length) (dataB x) = e2 at *
 generalize metaB x = mt at *
 generalize dataB x = dt at *
 generalize UInt8.ofNat x.k.toNat = c at *
 have htb : toBy [D.i .u8 4, D.i .u8 (c.toNat : Int)] = some [4, c] := toBy_eB [4, c]
 have w3 : IntKind.i64.wrap (41 + (mt.length : Int)) = 41 + mt.length := wrap64 (by omega)
 have w4 : IntKind.i64.wrap (41 + (mt.length : Int) + dt.length) = 41 + mt.length + dt.length := wrap64 (by omega)
 have w5 : IntKind.i64.wrap (37 + (mt.length : Int)) = 37 + mt.length := wrap64 (by omega)
 simp [eRm] at hM hD hw he1 he2 hS hw2
 simp at hbd
 simp [F_c_ref20_Encode, eRm, hM, hD, hk8, htb, w3, w4, w5, hw, he1, he2, bins, fixB_len, l1, l2]
 rw [← hbd]
 refine ⟨by omega, by omega, by omega, ?_⟩
 simp [hS, w2, hw2, bins, fixB_len]
 omega
end Go.AM

namespace Go.AM
def openR (s : List UInt8) : List UInt8 × Int :=
 if s.length < 4 then ([], 1) else if leV (s.drop (s.length - 4)) ≠ sumN (s.take (s.length - 4)) then ([], 7) else (s.take (s.length - 4), 0)
theorem get_app_lt {α : Type} {l : List α} {g : Nat} {x : α} (h : l[g]? = some x) (r : List α) : (l ++ r)[g]? = some x := by
 rw [List.getElem?_append_left (List.getElem?_eq_some_iff.1 h).1]; exact h
theorem c_crc_Open (s : List UInt8) (hs : s.length ≤ 1073741824) (sg) (g : Nat) (h : sg[g]? = some tabO) : LL.call n_crc_Table_Open [.p g 0, .s (bs s)] sg sg.length = some (.t [.s (bs (openR s).1), .i .i64 (openR s).2], sg, sg.length) := by
 generalize hr : openR s = r
 refine wp_call e_crc_Table_Open rfl ?_
 have w0 : IntKind.i64.wrap ((s.length : Int) - 4) = (s.length : Int) - 4 := wrap64 (by omega)
 unfold openR at hr
 by_cases h4 : s.length < 4
 ·rw [if_pos h4] at hr
  subst hr
  have h4' : (s.length : Int) - 4 < 0 := by omega
  simp [F_crc_Table_Open, w0, h4, h4']
 ·rw [if_neg h4] at hr
  obtain ⟨n, hn⟩ : ∃ n, s.length = n + 4 := ⟨s.length - 4, by omega⟩
  have e1 : s.length - 4 = n := by omega
  rw [e1] at hr
  have w1 : IntKind.i64.wrap ((s.length : Int) - 4) = (n : Int) := by rw [w0]; omega
  have h4' : ¬ (n : Int) < 0 := by omega
  have hO := c_octet_Of (s.drop n) sg
  have hd4 : (s.drop n).length = 4 := by simp; omega
  have hW := c_octet_In_Word ⟨s.drop n, 0⟩ (by simp [Oc.ok]; omega) (sg ++ [eIn ⟨s.drop n, 0⟩]) sg.length (by simp)
  have hS := c_crc_Sum (s.take n) (by simp; omega) (sg ++ [eIn ⟨[], 0⟩]) g (get_app_lt h _)
  have hwv : wholeR ⟨s.drop n, 0⟩ 4 = (⟨[], 0⟩, leV (s.drop n)) := by
   have := bytesR_app (s.drop n) [] (by omega)
   rw [hd4, List.append_nil] at this
   unfold wholeR
   have e : ((4 : Nat) : Int) = 4 := rfl
   rw [e] at this
   rw [this]
  rw [hwv] at hW
  have n1 : (n : Int) ≤ s.length := by omega
  have n2 : n ≤ s.length := by omega
  have n3 : s.length - n = 4 := by omega
  have htl : s.take (s.length) = s := List.take_length
  simp at hO hW hS
  simp [F_crc_Table_Open, w1, h4', n1, n2, htl, hO, hW, hS]
  by_cases hc : leV (s.drop n) = sumN (s.take n)
  ·rw [if_neg (by simpa using hc)] at hr
   subst hr
   have hb : ((leV (s.drop n) : Int) != sumN (s.take n)) = false := by simp; omega
   simp [hb, n1, n2]
  ·rw [if_pos hc] at hr
   subst hr
   have hb : ((leV (s.drop n) : Int) != sumN (s.take n)) = true := by simp; omega
   simp [hb]
end Go.AM

namespace Go.AM
theorem c_file_Encode (x : Im) (ho : x.ok) (h : x.wr) (hc : checkI x = 0) (hk : 1 ≤ x.k ∧ x.k ≤ 4) (hm : (metaB x).length ≤ 1048576) (hd : (dataB x).length ≤ 1048576) (sg) :
    LL.call n_file_Encode [eIm x] sg sg.length = some (.t [.s (bs (encB x)), .i .i64 0], sg, sg.length) := by
 refine wp_call e_file_Encode rfl ?_
 have hC := c_image_Image_Check x ho sg
 rw [hc] at hC
 have hM := c_crc_Make sg
 have hO := c_section_Of x h (sg ++ [tabO])
 have hgt : (sg ++ [tabO])[sg.length]? = some tabO := by simp
 have hS1 := c_crc_Sum (metaB x) (by omega) (sg ++ [tabO]) sg.length hgt
 have hS2 := c_crc_Sum (dataB x) (by omega) (sg ++ [tabO]) sg.length hgt
 have hW := fun b n hb hn => c_octet_Word (.inl rfl) b n hn hb (sg ++ [tabO])
 have hbl : (bodyB x).length ≤ 1073741824 := by simp [bodyB, fixB_len, entB_len]; omega
 have hSl := c_crc_Seal (bodyB x) hbl (sg ++ [tabO]) sg.length hgt
 have hk8 : IntKind.u8.wrap x.k = ((UInt8.ofNat x.k.toNat).toNat : Int) := by
  have := u8_wrap x.k.toNat
  rwa [show ((x.k.toNat : Nat) : Int) = x.k by omega] at this
 have hbd : bodyB x = [67, 82, 89, 79] ++ ([4, UInt8.ofNat x.k.toNat] ++ (fixB (41 + (metaB x).length + (dataB x).length) 4 ++ ([2] ++ (entB 1 37 (metaB x) ++ (entB 2 (37 + (metaB x).length) (dataB x) ++ (metaB x ++ dataB x)))))) := rfl
 have hen : encB x = sealB (bodyB x) := rfl
 have he1 : entB 1 37 (metaB x) = 1 :: (fixB 37 4 ++ (fixB (metaB x).length 4 ++ fixB (sumN (metaB x)) 4)) := rfl
 have he2 : entB 2 (37 + (metaB x).length) (dataB x) = 2 :: (fixB (37 + (metaB x).length) 4 ++ (fixB (dataB x).length 4 ++ fixB (sumN (dataB x)) 4)) := rfl
 have hs1 := sumN_lt (metaB x)
 have hs2 := sumN_lt (dataB x)
 rw [hen]
 generalize sealB (bodyB x) = E at *
 generalize hB : bodyB x = B at *
 generalize sumN (metaB x) = s1 at *
 generalize sumN (dataB x) = s2 at *
 generalize metaB x = mt at *
 generalize dataB x = dt at *
 generalize UInt8.ofNat x.k.toNat = c at *
 rw [he1, he2] at hbd
 clear hB he1 he2 hen h ho
 simp [eIm, eSec] at hC hO
 simp at hS1 hS2 hSl
 simp [F_file_Encode, eIm, hC, hM, hO]
 have k1 : IntKind.u8.wrap 1 = 1 := by decide
 have k2 : IntKind.i64.wrap 26 = 26 := by decide
 have k3 : IntKind.i64.wrap 37 = 37 := by decide
 have k4 : IntKind.u32.wrap 37 = 37 := by decide
 have k5 : IntKind.u32.wrap (mt.length : Int) = mt.length := wrapu32 (by omega)
 have k6 : IntKind.i64.wrap 1 = 1 := by decide
 have k7 : IntKind.u8.wrap 2 = 2 := by decide
 have k8 : IntKind.i64.wrap (37 + (mt.length : Int)) = 37 + mt.length := wrap64 (by omega)
 have k9 : IntKind.u32.wrap (37 + (mt.length : Int)) = 37 + mt.length := wrapu32 (by omega)
 have k10 : IntKind.u32.wrap (dt.length : Int) = dt.length := wrapu32 (by omega)
 have k11 : IntKind.i64.wrap 2 = 2 := by decide
 have hW1 := hW [1] 37 (by simp) (by omega)
 have hW2 := hW ([1] ++ fixB 37 4) mt.length (by simp [fixB_len]) (by omega)
 have hW3 := hW ([1] ++ fixB 37 4 ++ fixB mt.length 4) s1 (by simp [fixB_len]) hs1
 obtain ⟨e1, he1⟩ : ∃ e1, e1 = [1] ++ fixB 37 4 ++ fixB mt.length 4 ++ fixB s1 4 := ⟨_, rfl⟩
 have l1 : e1.length = 13 := by rw [he1]; simp [fixB_len]
 have hW4 := hW (e1 ++ [2]) (37 + mt.length) (by simp; omega) (by omega)
 have hW5 := hW (e1 ++ [2] ++ fixB (37 + mt.length) 4) dt.length (by simp [fixB_len]; omega) (by omega)
 have hW6 := hW (e1 ++ [2] ++ fixB (37 + mt.length) 4 ++ fixB dt.length 4) s2 (by simp [fixB_len]; omega) hs2
 rw [← he1] at hW3
 have hbd2 : B = [67, 82, 89, 79, 4, c] ++ (fixB (41 + mt.length + dt.length) 4 ++ ([2] ++ (e1 ++ ([2] ++ (fixB (37 + mt.length) 4 ++ (fixB dt.length 4 ++ (fixB s2 4 ++ (mt ++ dt)))))))) := by
  rw [hbd, he1]; simp
 have hW7 := hW [67, 82, 89, 79, 4, c] (41 + mt.length + dt.length) (by simp) (by omega)
 simp only [List.map_append] at hW1 hW2 hW3 hW4 hW5 hW6 hW7
 simp at hW1 hW2 hW3 hW4 hW5 hW6 hW7
 refine wc_loop ?_
 simp [k1, k2, k3, k4, k5, k6, hW1, hW2, hW3, hS1]
 refine ⟨by omega, ?_⟩
 refine wc_loop ?_
 simp [k7, k8, k9, k10, k11, hW4, hW5, hW6, hS2, l1]
 refine ⟨by omega, ?_⟩
 have k12 : IntKind.i64.wrap (37 + ((mt.length : Int) + dt.length)) = 37 + ((mt.length : Int) + dt.length) := wrap64 (by omega)
 have k13 : IntKind.i64.wrap (37 + ((mt.length : Int) + dt.length) + 4) = 41 + (mt.length : Int) + dt.length := by rw [wrap64 (by omega)]; omega
 have k14 : IntKind.u32.wrap (41 + (mt.length : Int) + dt.length) = 41 + (mt.length : Int) + dt.length := wrapu32 (by omega)
 refine wc_loop ?_
 simp [k12, k13, k14, hk8, hW7, k7]
 have hmap := congrArg (List.map eB) hbd2
 simp at hmap
 rw [← hmap]
 simp only [fixB_len, l1]
 refine ⟨by omega, by omega, by omega, ?_⟩
 simp [hSl]
end Go.AM

namespace Go.AM
def u64N (v : Int) : Nat := (v % 18446744073709551616).toNat
def it1 (y : It) : List UInt8 := fixB y.p 8 ++ fixB (u64N y.v) 8
def it2 (y : It) : List UInt8 := fixB y.p 8 ++ numB (zig y.v)
def its2 (l : List It) : List UInt8 := numB l.length ++ l.flatMap it2
def oneB (x : Im) : List UInt8 := numB x.p.toNat ++ (if x.k = 1 ∨ x.k = 2 then fixB (valI x).is.length 4 ++ (valI x).is.flatMap it1 else fixB x.cs.sum.toNat 8)
def twoB (x : Im) : List UInt8 := numB x.p.toNat ++ (x.ls.flatMap its2 ++ x.cs.flatMap (fun n => numB n.toNat))
def threeB (x : Im) : List UInt8 := [2, 1] ++ (fixB (metaB x).length 4 ++ ([2] ++ (fixB (dataB x).length 4 ++ (metaB x ++ dataB x))))
def headB (x : Im) (v : Nat) : List UInt8 := [67, 82, 89, 79] ++ [UInt8.ofNat v, UInt8.ofNat x.k.toNat]
def wrtB (x : Im) (v : Int) : List UInt8 :=
 if v = 1 then headB x 1 ++ oneB x else if v = 2 then sealB (headB x 2 ++ twoB x) else if v = 3 then sealB (headB x 3 ++ threeB x) else encB x
theorem u64N_lt (v : Int) : u64N v < 18446744073709551616 := by unfold u64N; omega
theorem wrap_u64N (v : Int) : IntKind.u64.wrap v = (u64N v : Int) := by simp [IntKind.wrap, IntKind.signed, IntKind.bits, u64N]; omega
theorem it1_len (y : It) : (it1 y).length = 16 := by simp [it1, fixB_len]
theorem it2_len {y : It} (h : y.ok) : (it2 y).length ≤ 18 := by
 have := numB_len10 (zig_lt h.2)
 simp [it2, fixB_len]; omega
theorem its2_len {l : List It} (h : ∀ y ∈ l, y.ok) (hl : l.length ≤ 1099511627776) : (its2 l).length ≤ 10 + 18 * l.length := by
 have h1 := flatMap_len it2 18 l (fun y hy => it2_len (h y hy))
 have h2 := numB_len10 (n := l.length) (by omega)
 simp only [its2, List.length_append]; omega
structure Im.good (x : Im) : Prop where
 rd : x.rd
 ck : checkI x = 0
theorem good_val {x : Im} (h : x.good) : (valI x).is.length ≤ 1000 ∧ (∀ y ∈ (valI x).is, y.ok ∧ y.canon = y) ∧ 0 ≤ x.cs.sum ∧ x.cs.sum ≤ 1125899906842624 ∧ x.ls.flatten.length ≤ 1000 := by
 obtain ⟨f1, f2, f3, f4, f5, f6⟩ := check_facts h.ck
 have hfl : x.ls.flatten.length ≤ 1000 := by rw [List.length_flatten]; exact f4
 refine ⟨by rw [valI_len]; exact hfl, fun y hy => ?_, isum_nn _ (fun n hn => (f5 n hn).1), f6, hfl⟩
 refine ⟨valI_ok h.rd.ok y hy, ?_⟩
 have hf : ∀ y ∈ x.ls.flatten, y.canon = y := fun y hy => by
  obtain ⟨l, hl, hy⟩ := List.mem_flatten.1 hy
  have := ((h.rd.is l hl).1 y hy).2
  simp [It.canon, this]
 simp only [valI] at hy
 split at hy
 ·have := (sortI_perm _).mem_iff.1 hy
  obtain ⟨z, hz, rfl⟩ := List.mem_map.1 this
  rw [hf z hz]; exact hf z hz
 ·exact hf y hy
theorem oneB_len {x : Im} (h : x.good) : (oneB x).length ≤ 16100 := by
 obtain ⟨g1, g2, g3, g4, g5⟩ := good_val h
 have h1 := numB_len10 (n := x.p.toNat) (by have := h.rd.p; omega)
 have h2 := flatMap_len it1 16 (valI x).is (fun y _ => by rw [it1_len]; omega)
 unfold oneB
 split
 ·simp only [List.length_append, fixB_len]; omega
 ·simp only [List.length_append, fixB_len]; omega
theorem flat_len2 (l : List (List It)) (h : ∀ m ∈ l, (∀ y ∈ m, y.ok) ∧ m.length ≤ 1000) : (l.flatMap its2).length ≤ 10 * l.length + 18 * l.flatten.length := by
 induction l with
 | nil => simp
 | cons a l ih =>
  have h1 := its2_len (h a (by simp)).1 (by have := (h a (by simp)).2; omega)
  have h2 := ih (fun m hm => h m (by simp [hm]))
  simp only [List.flatMap_cons, List.length_append, List.flatten_cons, List.length_cons]; omega
theorem twoB_len {x : Im} (h : x.good) : (twoB x).length ≤ 24000 := by
 obtain ⟨g1, g2, g3, g4, g5⟩ := good_val h
 have h1 := numB_len10 (n := x.p.toNat) (by have := h.rd.p; omega)
 have h2 := flat_len2 x.ls (fun m hm => ⟨fun y hy => ((h.rd.is m hm).1 y hy).1, (h.rd.is m hm).2⟩)
 have h3 := flatMap_len (fun n : Int => numB n.toNat) 10 x.cs (fun n hn => numB_len10 (by have := h.rd.cs n hn; omega))
 have := h.rd.lens
 simp only [twoB, List.length_append]; omega
theorem flat_len3 (l : List (List It)) (h : ∀ m ∈ l, (∀ y ∈ m, y.ok) ∧ m.length ≤ 1000) : (l.flatMap itemsB).length ≤ 10 * l.length + 18 * l.flatten.length := by
 induction l with
 | nil => simp
 | cons a l ih =>
  have h1 := itemsB_len (h a (by simp)).1 (by have := (h a (by simp)).2; omega)
  have h2 := ih (fun m hm => h m (by simp [hm]))
  simp only [List.flatMap_cons, List.length_append, List.flatten_cons, List.length_cons]; omega
theorem good_lens {x : Im} (h : x.good) : (metaB x).length ≤ 20 ∧ (dataB x).length ≤ 24000 := by
 obtain ⟨g1, g2, g3, g4, g5⟩ := good_val h
 have h1 := numB_len10 (n := x.p.toNat) (by have := h.rd.p; omega)
 have h4 := numB_len10 (n := x.c.toNat) (by have := h.rd.c; omega)
 have h2 := flat_len3 x.ls (fun m hm => ⟨fun y hy => ((h.rd.is m hm).1 y hy).1, (h.rd.is m hm).2⟩)
 have h3 := flatMap_len (fun n : Int => numB n.toNat) 10 x.cs (fun n hn => numB_len10 (by have := h.rd.cs n hn; omega))
 have := h.rd.lens
 refine ⟨by simp only [metaB, List.length_append]; omega, ?_⟩
 simp only [dataB, List.length_append]; omega
theorem c_elder_one (x : Im) (h : x.good) (sg) : LL.call n_elder_one [eIm x] sg sg.length = some (.l .o 1 ((oneB x).map eB), sg, sg.length) := by
 refine wp_call e_elder_one rfl ?_
 obtain ⟨g1, g2, g3, g4, g5⟩ := good_val h
 have hp := h.rd.p
 have w0 : IntKind.u64.wrap x.p = x.p.toNat := by rw [wrapu64 (by omega)]; omega
 have h1 := c_octet_Num (.inl rfl) [] x.p.toNat (by omega) (by simp) sg
 have V1 := c_image_Value x h.rd.ok (by have := h.rd.lens; omega) (fun n hn => (h.rd.cs n hn).1) (by omega) (by omega) sg
 have l10 := numB_len10 (n := x.p.toNat) (by omega)
 have hol := oneB_len h
 have hvk : (valI x).k = x.k := rfl
 have hvn : (valI x).n = x.cs.sum := rfl
 simp [eIm, eVl, hvk, hvn] at h1 V1
 by_cases hk : x.k = 1 ∨ x.k = 2
 ·have hk3 : (x.k == 3) = false := by simp; omega
  have hk4 : (x.k == 4) = false := by simp; omega
  have hoB : oneB x = numB x.p.toNat ++ (fixB (valI x).is.length 4 ++ (valI x).is.flatMap it1) := by unfold oneB; rw [if_pos hk]
  generalize (valI x).is = is at *
  have wl : IntKind.u32.wrap (is.length : Int) = is.length := wrapu32 (by omega)
  have h2 := c_octet_Word (.inl rfl) (numB x.p.toNat) is.length (by omega) (by omega) sg
  simp at h2
  simp [F_elder_one, eIm, w0, h1, V1, hk3, hk4, wl, h2]
  rw [← List.map_append]
  refine wc_list is (fun i c => ⟨[(3, .v (.l .o 1 (c.map eB))), (33, .v (.l .o 2 (is.map eI))), (34, .v (.i .i64 is.length)), (35, .v (.i .i64 i))], [], sg, sg.length⟩) (fun r (c : List UInt8) => c ++ r.flatMap it1 = oneB x) ?_ ?_ (numB x.p.toNat ++ fixB is.length 4) (by rw [hoB]; simp)
  ·intro i y r c hi hlt hc ih
   have hlt' : (i : Int) < is.length := by omega
   obtain ⟨hy, hyc⟩ := g2 y (mem_of_get hi)
   have hlen := congrArg List.length hc
   have hc1 : c.length ≤ 1099511627776 := by simp at hlen; omega
   have hc2 : (c ++ fixB y.p 8).length ≤ 1099511627776 := by simp [fixB_len] at hlen ⊢; omega
   have hC := c_pile_Item_Canon y hy sg
   have h2 := c_octet_Long (.inl rfl) c y.p hy.1 hc1 sg
   have h3 := c_octet_Long (.inl rfl) (c ++ fixB y.p 8) (u64N y.v) (u64N_lt _) hc2 sg
   have wv := wrap_u64N y.v
   have w1 : IntKind.i64.wrap ((i : Int) + 1) = i + 1 := wrap64 (by omega)
   rw [hyc] at hC
   simp at h2 h3 hC
   simp [hlt', hi, hC, h2, wv, h3]
   have := ih (c ++ it1 y) (by rw [← hc]; simp)
   simpa [w1, it1] using this
  ·intro c hc
   simp at hc
   simp [hc]
 ·have hk34 : x.k = 3 ∨ x.k = 4 := by have := h.rd.k; omega
  have hoB : oneB x = numB x.p.toNat ++ fixB x.cs.sum.toNat 8 := by unfold oneB; rw [if_neg hk]
  have ws : IntKind.u64.wrap x.cs.sum = x.cs.sum.toNat := by rw [wrapu64 (by omega)]; omega
  have h2 := c_octet_Long (.inl rfl) (numB x.p.toNat) x.cs.sum.toNat (by omega) (by omega) sg
  simp at h2
  rcases hk34 with hk3 | hk4
  ·rw [hk3] at V1
   simp [F_elder_one, eIm, w0, h1, V1, hk3, ws, h2, hoB]
  ·rw [hk4] at V1
   simp [F_elder_one, eIm, w0, h1, V1, hk4, ws, h2, hoB]
theorem c_elder_two (x : Im) (h : x.good) (sg) : LL.call n_elder_two [eIm x] sg sg.length = some (.l .o 1 ((twoB x).map eB), sg, sg.length) := by
 refine wp_call e_elder_two rfl ?_
 have hp := h.rd.p
 have w0 : IntKind.u64.wrap x.p = x.p.toNat := by rw [wrapu64 (by omega)]; omega
 have h1 := c_octet_Num (.inl rfl) [] x.p.toNat (by omega) (by simp) sg
 have l10 := numB_len10 (n := x.p.toNat) (by omega)
 have htl := twoB_len h
 have hL := h.rd.lens
 simp at h1
 simp [F_elder_two, eIm, w0, h1]
 refine wc_list x.ls (fun i c => ⟨[(1, .q (.ptr 1 0)), (3, .v (.l .o 1 (c.map eB))), (15, .v (.l .z 1 (x.ls.map (eL 2 eI)))), (16, .v (.i .i64 x.ls.length)), (17, .v (.i .i64 i))], [(1, [.i .i64 x.k, .i .i64 x.p, .i .u64 x.c, .l .z 1 (x.ls.map (eL 2 eI)), .l .z 1 (x.cs.map (.i .i64))])], sg, sg.length⟩)
  (fun r (c : List UInt8) => c ++ (r.flatMap its2 ++ x.cs.flatMap (fun n => numB n.toNat)) = twoB x) ?_ ?_ (numB x.p.toNat) rfl
 ·intro i l r c hi hlt hc ih
  have hlt' : (i : Int) < x.ls.length := by omega
  have hl := h.rd.is l (mem_of_get hi)
  have hlen := congrArg List.length hc
  have hc1 : c.length ≤ 1099511627776 := by simp at hlen; omega
  have h2 := c_octet_Num (.inl rfl) c l.length (by omega) hc1 sg
  have w1 : IntKind.i64.wrap ((i : Int) + 1) = i + 1 := wrap64 (by omega)
  have wl : IntKind.u64.wrap (l.length : Int) = l.length := wrapu64 (by omega)
  simp at h2
  simp [hlt', hi, eL, wl, h2]
  rw [← List.map_append]
  refine wc_list l (fun j c => ⟨[(1, .q (.ptr 1 0)), (3, .v (.l .o 1 (c.map eB))), (15, .v (.l .z 1 (x.ls.map (eL 2 eI)))), (16, .v (.i .i64 x.ls.length)), (17, .v (.i .i64 i)), (26, .v (.l .z 2 (l.map eI))), (27, .v (.i .i64 l.length)), (28, .v (.i .i64 j))], [(1, [.i .i64 x.k, .i .i64 x.p, .i .u64 x.c, .l .z 1 (x.ls.map (eL 2 eI)), .l .z 1 (x.cs.map (.i .i64))])], sg, sg.length⟩)
   (fun q (c : List UInt8) => c ++ (q.flatMap it2 ++ (r.flatMap its2 ++ x.cs.flatMap (fun n => numB n.toNat))) = twoB x) ?_ ?_ (c ++ numB l.length) (by rw [← hc]; simp [its2])
  ·intro j y q c hj hjl hc ih2
   have hjl' : (j : Int) < l.length := by omega
   obtain ⟨hy, hyc⟩ := hl.1 y (mem_of_get hj)
   have hyc : y.canon = y := by simp [It.canon, hyc]
   have hlen := congrArg List.length hc
   have hc1 : c.length ≤ 1099511627776 := by simp at hlen; omega
   have hc2 : (c ++ fixB y.p 8).length ≤ 1099511627776 := by simp [fixB_len] at hlen ⊢; omega
   have hC := c_pile_Item_Canon y hy sg
   have h2 := c_octet_Long (.inl rfl) c y.p hy.1 hc1 sg
   have h3 := c_octet_Int (.inl rfl) (c ++ fixB y.p 8) y.v hy.2 hc2 sg
   have w1 : IntKind.i64.wrap ((j : Int) + 1) = j + 1 := wrap64 (by omega)
   rw [hyc] at hC
   simp at h2 h3 hC
   simp [hjl', hj, hC, h2, h3]
   have := ih2 (c ++ it2 y) (by rw [← hc]; simp)
   simpa [w1, it2] using this
  ·intro c hc
   simp only [List.flatMap_nil, List.nil_append] at hc
   simp [w1]
   exact ih c hc
 ·intro c hc
  simp only [List.flatMap_nil, List.nil_append] at hc
  simp
  refine wc_list x.cs (fun i c => ⟨[(3, .v (.l .o 1 (c.map eB))), (44, .v (.l .z 1 (x.cs.map (.i .i64)))), (45, .v (.i .i64 x.cs.length)), (46, .v (.i .i64 i))], [], sg, sg.length⟩)
   (fun r (c : List UInt8) => c ++ r.flatMap (fun n => numB n.toNat) = twoB x) ?_ ?_ c hc
  ·intro i n r c hi hlt hc ih
   have hlt' : (i : Int) < x.cs.length := by omega
   have hn := h.rd.cs n (mem_of_get hi)
   have hlen := congrArg List.length hc
   have h1 := c_octet_Num (.inl rfl) c n.toNat (by omega) (by simp at hlen; omega) sg
   have w0 : IntKind.u64.wrap n = n.toNat := by rw [wrapu64 (by omega)]; omega
   have w1 : IntKind.i64.wrap ((i : Int) + 1) = i + 1 := wrap64 (by omega)
   simp at h1
   simp [hlt', hi, w0, h1]
   have := ih (c ++ numB n.toNat) (by rw [← hc]; simp)
   simpa [w1] using this
  ·intro c hc
   simp at hc
   simp [hc]
theorem c_elder_three (x : Im) (h : x.good) (sg) : LL.call n_elder_three [eIm x] sg sg.length = some (.l .o 1 ((threeB x).map eB), sg, sg.length) := by
 refine wp_call e_elder_three rfl ?_
 obtain ⟨m1, m2⟩ := good_lens h
 have S1 := c_section_Of x h.rd.wr' sg
 have hth : threeB x = [2, 1] ++ (fixB (metaB x).length 4 ++ ([2] ++ (fixB (dataB x).length 4 ++ (metaB x ++ dataB x)))) := rfl
 generalize threeB x = T at *
 generalize metaB x = mt at *
 generalize dataB x = dt at *
 have wa : IntKind.u32.wrap (mt.length : Int) = mt.length := wrapu32 (by omega)
 have wb : IntKind.u32.wrap (dt.length : Int) = dt.length := wrapu32 (by omega)
 have W1 := c_octet_Word (.inl rfl) [2, 1] mt.length (by omega) (by simp) sg
 have W2 := c_octet_Word (.inl rfl) ([2, 1] ++ (fixB mt.length 4 ++ [2])) dt.length (by omega) (by simp [fixB_len]) sg
 have c0 : IntKind.i64.wrap 1 = 1 := by decide
 have c1 : IntKind.i64.wrap 2 = 2 := by decide
 have c2 : IntKind.u8.wrap 2 = 2 := by decide
 have c3 : IntKind.u8.wrap 1 = 1 := by decide
 simp [eIm, eSec] at S1 W1 W2
 simp [F_elder_three, eIm, S1, c2]
 refine wc_loop ?_
 simp [c3, wa, W1, c0]
 refine wc_loop ?_
 simp [c2, wb, W2, c1, fixB_len]
 refine wc_loop ?_
 simp
 refine wc_loop ?_
 simp [c0, fixB_len]
 refine ⟨by omega, ?_⟩
 refine wc_loop ?_
 simp [c1, fixB_len]
 refine ⟨by omega, ?_⟩
 refine wc_loop ?_
 simp [hth]
theorem c_elder_Write (x : Im) (h : x.good) (v : Int) (sg) : LL.call n_elder_Write [eIm x, .i .i64 v] sg sg.length =
    some (.t [.s (bs (if 1 ≤ v ∧ v ≤ 4 then wrtB x v else [])), .i .i64 (if 1 ≤ v ∧ v ≤ 4 then 0 else 8)], sg, sg.length) := by
 refine wp_call e_elder_Write rfl ?_
 have hC := c_image_Image_Check x h.rd.ok sg
 rw [h.ck] at hC
 have hk := h.rd.k
 have hk8 : IntKind.u8.wrap x.k = ((UInt8.ofNat x.k.toNat).toNat : Int) := by
  have := u8_wrap x.k.toNat
  rwa [show ((x.k.toNat : Nat) : Int) = x.k by omega] at this
 obtain ⟨m1, m2⟩ := good_lens h
 have l1 := oneB_len h
 have l2 := twoB_len h
 have h1 := c_elder_one x h sg
 have h2 := fun sg => c_elder_two x h sg
 have h3 := fun sg => c_elder_three x h sg
 have h4 := c_file_Encode x h.rd.ok h.rd.wr' h.ck hk (by omega) (by omega) sg
 have M1 := c_crc_Make sg
 have hg : (sg ++ [tabO])[sg.length]? = some tabO := by simp
 have l3 : (threeB x).length ≤ 25000 := by simp [threeB, fixB_len]; omega
 have S2 := c_crc_Seal (headB x 2 ++ twoB x) (by simp [headB]; omega) (sg ++ [tabO]) sg.length hg
 have S3 := c_crc_Seal (headB x 3 ++ threeB x) (by simp [headB]; omega) (sg ++ [tabO]) sg.length hg
 have h2 := h2 (sg ++ [tabO])
 have h3 := h3 (sg ++ [tabO])
 simp only [wrtB]
 have e1 : headB x 1 = [67, 82, 89, 79, 1, UInt8.ofNat x.k.toNat] := rfl
 have e2 : headB x 2 = [67, 82, 89, 79, 2, UInt8.ofNat x.k.toNat] := rfl
 have e3 : headB x 3 = [67, 82, 89, 79, 3, UInt8.ofNat x.k.toNat] := rfl
 rw [e2] at S2
 rw [e3] at S3
 rw [e1, e2, e3]
 generalize UInt8.ofNat x.k.toNat = c at *
 generalize oneB x = b1 at *
 generalize twoB x = b2 at *
 generalize threeB x = b3 at *
 generalize encB x = b4 at *
 have t1 : toBy [D.i .u8 1, D.i .u8 (c.toNat : Int)] = some [1, c] := toBy_eB [1, c]
 have t2 : toBy [D.i .u8 2, D.i .u8 (c.toNat : Int)] = some [2, c] := toBy_eB [2, c]
 have t3 : toBy [D.i .u8 3, D.i .u8 (c.toNat : Int)] = some [3, c] := toBy_eB [3, c]
 have t4 : toBy [D.i .u8 4, D.i .u8 (c.toNat : Int)] = some [4, c] := toBy_eB [4, c]
 have tv : toBy [D.i .u8 (IntKind.u8.wrap v), D.i .u8 (c.toNat : Int)] = some [UInt8.ofNat (IntKind.u8.wrap v).toNat, c] := by
  have : 0 ≤ IntKind.u8.wrap v ∧ IntKind.u8.wrap v < 256 := by simp [IntKind.wrap, IntKind.bits, IntKind.signed]; omega
  have e := toBy_eB [UInt8.ofNat (IntKind.u8.wrap v).toNat, c]
  simp only [List.map, eB] at e
  rw [ofNat_toNat' (by omega)] at e
  rwa [show (((IntKind.u8.wrap v).toNat : Nat) : Int) = IntKind.u8.wrap v by omega] at e
 have c1 : IntKind.u8.wrap 1 = 1 := by decide
 have c2 : IntKind.u8.wrap 2 = 2 := by decide
 have c3 : IntKind.u8.wrap 3 = 3 := by decide
 have c4 : IntKind.u8.wrap 4 = 4 := by decide
 simp [eIm] at hC h1 h2 h3 h4 M1 S2 S3
 by_cases v1 : v = 1
 ·subst v1
  simp [F_elder_Write, eIm, hC, c1, hk8, t1, bins, h1]
  omega
 by_cases v2 : v = 2
 ·subst v2
  simp [F_elder_Write, eIm, hC, c2, hk8, t2, bins, M1, h2, S2]
  omega
 by_cases v3 : v = 3
 ·subst v3
  simp [F_elder_Write, eIm, hC, c3, hk8, t3, bins, M1, h3, S3]
  omega
 by_cases v4 : v = 4
 ·subst v4
  simp [F_elder_Write, eIm, hC, c4, hk8, t4, bins, h4]
 have b1 : (v == 1) = false := by simp [v1]
 have b2 : (v == 2) = false := by simp [v2]
 have b3 : (v == 3) = false := by simp [v3]
 have b4 : (v == 4) = false := by simp [v4]
 have hv : ¬ (1 ≤ v ∧ v ≤ 4) := by omega
 simp [F_elder_Write, eIm, hC, hk8, tv, bins, b1, b2, b3, b4, hv]
end Go.AM

namespace Go.AM
theorem c_slite_HasPrefix (s p : List UInt8) (hs : s.length ≤ 9223372036854775807) (hp : p.length ≤ 9223372036854775807) (sg) : LL.call n_internal_stringslite_HasPrefix [.s (bs s), .s (bs p)] sg sg.length = some (.b (s.take p.length == p), sg, sg.length) := by
 refine wp_call e_internal_stringslite_HasPrefix rfl ?_
 by_cases h : p.length ≤ s.length
 ·have h' : (p.length : Int) ≤ s.length := by omega
  simp [F_internal_stringslite_HasPrefix, h, h', bins]
 ·have h' : ¬ (p.length : Int) ≤ s.length := by omega
  have : (s.take p.length == p) = false := by
   rw [beq_eq_false_iff_ne]; intro e
   have := congrArg List.length e
   simp at this; omega
  simp [F_internal_stringslite_HasPrefix, h, h']
  simpa using this
theorem c_HasPrefix (s p : List UInt8) (hs : s.length ≤ 9223372036854775807) (hp : p.length ≤ 9223372036854775807) (sg) : LL.call n_strings_HasPrefix [.s (bs s), .s (bs p)] sg sg.length = some (.b (s.take p.length == p), sg, sg.length) := by
 refine wp_call e_strings_HasPrefix rfl ?_
 have h1 := c_slite_HasPrefix s p hs hp sg
 simp [F_strings_HasPrefix, h1]
def magic : List UInt8 := [67, 82, 89, 79]
def verI (s : List UInt8) : Int × Int :=
 if s.take 4 ≠ magic then (0, 10) else if 65536 < s.length then (0, 3) else match s[4]? with
 | none => (0, 1)
 | some v => if v.toNat < 1 ∨ 4 < v.toNat then (0, 8) else (v.toNat, 0)
theorem magic_len {s : List UInt8} (h : s.take 4 = magic) : 4 ≤ s.length := by
 have := congrArg List.length h
 simp [magic] at this; omega
theorem c_elder_Version (s : List UInt8) (hs : s.length ≤ 9223372036854775807) (sg) : LL.call n_elder_Version [.s (bs s)] sg sg.length = some (.t [.i .i64 (verI s).1, .i .i64 (verI s).2], sg, sg.length) := by
 generalize hr : verI s = r
 refine wp_call e_elder_Version rfl ?_
 have hP := c_HasPrefix s magic hs (by simp [magic]) sg
 unfold verI at hr
 have e4 : magic.length = 4 := rfl
 rw [e4] at hP
 by_cases h1 : s.take 4 = magic
 ·rw [if_neg (by simpa using h1)] at hr
  have h4 := magic_len h1
  simp only [h1, beq_self_eq_true, magic] at hP
  by_cases h2 : 65536 < s.length
  ·have h2' : (65536 : Int) < s.length := by omega
   rw [if_pos h2] at hr
   subst hr
   simp [F_elder_Version, hP, h2, h2']
  ·have h2' : ¬ (65536 : Int) < s.length := by omega
   rw [if_neg h2] at hr
   by_cases h5 : s.length = 4
   ·have h5' : ((s.length : Int) == 4) = true := by rw [h5]; rfl
    rw [List.getElem?_eq_none (by omega)] at hr
    subst hr
    simp [F_elder_Version, hP, h2, h2', h5']
   ·have h5' : ((s.length : Int) == 4) = false := by simp; omega
    have h6 : 4 < s.length := by omega
    have h6' : (4 : Int) < s.length := by omega
    have hv := u8_lt s[4]
    rw [List.getElem?_eq_getElem h6] at hr
    simp only at hr
    have w : IntKind.i64.wrap (s[4].toNat : Int) = s[4].toNat := wrap64 (by omega)
    by_cases h7 : s[4].toNat < 1 ∨ 4 < s[4].toNat
    ·rw [if_pos h7] at hr
     subst hr
     have hq : ((s[4].toNat : Int) < 1 ∧ True) ∨ ¬ (s[4].toNat : Int) < 1 ∧ (4 : Int) < s[4].toNat := by
      rcases Classical.em ((s[4].toNat : Int) < 1) with q | q
      ·exact .inl ⟨q, trivial⟩
      ·exact .inr ⟨q, by omega⟩
     rcases hq with ⟨q1, q2⟩ | ⟨q1, q2⟩ <;> simp [F_elder_Version, hP, h2, h2', h5', h6, h6', w, q1, q2]
    ·rw [if_neg h7] at hr
     subst hr
     have h8 : ¬ (s[4].toNat : Int) < 1 := by omega
     have h9 : ¬ (4 : Int) < s[4].toNat := by omega
     simp [F_elder_Version, hP, h2, h2', h5', h6, h6', w, h8, h9]
 ·rw [if_pos h1] at hr
  subst hr
  have hb : (s.take 4 == magic) = false := by simpa using h1
  rw [hb] at hP
  simp only [magic] at hP
  simp [F_elder_Version, hP]
theorem c_ref21_Version (s : List UInt8) (hs : s.length ≤ 9223372036854775807) (sg) : LL.call n_c_ref21_Version [.s (bs s)] sg sg.length = some (.t [.i .i64 (verI s).1, .i .i64 (verI s).2], sg, sg.length) := by
 generalize hr : verI s = r
 refine wp_call e_c_ref21_Version rfl ?_
 unfold verI at hr
 by_cases h1 : s.take 4 = magic
 ·rw [if_neg (by simpa using h1)] at hr
  have h4 := magic_len h1
  have h4' : ¬ (s.length : Int) < 4 := by omega
  have h4'' : (4 : Int) ≤ s.length := by omega
  have h4n : ¬ s.length < 4 := by omega
  have hb : (s.take 4 != [67, 82, 89, 79]) = false := by rw [h1]; rfl
  have hb2 : (s.take 4 == [67, 82, 89, 79]) = true := by rw [h1]; rfl
  by_cases h2 : 65536 < s.length
  ·have h2' : (65536 : Int) < s.length := by omega
   rw [if_pos h2] at hr
   subst hr
   simp [F_c_ref21_Version, h4, h4', h4'', h4n, hb, hb2, h2, h2', bins]
  ·have h2' : ¬ (65536 : Int) < s.length := by omega
   rw [if_neg h2] at hr
   by_cases h5 : s.length = 4
   ·have h5' : (s.length : Int) < 5 := by omega
    have h5n : s.length < 5 := by omega
    rw [List.getElem?_eq_none (by omega)] at hr
    subst hr
    simp [F_c_ref21_Version, h4, h4', h4'', h4n, hb, hb2, h2, h2', h5', h5n, bins]
   ·have h5' : ¬ (s.length : Int) < 5 := by omega
    have h5n : ¬ s.length < 5 := by omega
    have h6 : 4 < s.length := by omega
    have h6' : (4 : Int) < s.length := by omega
    have hv := u8_lt s[4]
    rw [List.getElem?_eq_getElem h6] at hr
    simp only at hr
    have w : IntKind.i64.wrap (s[4].toNat : Int) = s[4].toNat := wrap64 (by omega)
    by_cases h7 : s[4].toNat < 1 ∨ 4 < s[4].toNat
    ·rw [if_pos h7] at hr
     subst hr
     have hq : ((s[4].toNat : Int) < 1 ∧ True) ∨ ¬ (s[4].toNat : Int) < 1 ∧ (4 : Int) < s[4].toNat := by
      rcases Classical.em ((s[4].toNat : Int) < 1) with q | q
      ·exact .inl ⟨q, trivial⟩
      ·exact .inr ⟨q, by omega⟩
     rcases hq with ⟨q1, q2⟩ | ⟨q1, q2⟩ <;> simp [F_c_ref21_Version, h4, h4', h4'', h4n, hb, hb2, h2, h2', h5', h5n, h6, h6', w, q1, q2, bins]
    ·rw [if_neg h7] at hr
     subst hr
     have h8 : ¬ (s[4].toNat : Int) < 1 := by omega
     have h9 : ¬ (4 : Int) < s[4].toNat := by omega
     simp [F_c_ref21_Version, h4, h4', h4'', h4n, hb, hb2, h2, h2', h5', h5n, h6, h6', w, h8, h9, bins]
 ·rw [if_pos h1] at hr
  subst hr
  have hb : (s.take 4 == [67, 82, 89, 79]) = false := by simpa [magic] using h1
  by_cases h4 : s.length < 4
  ·have h4' : (s.length : Int) < 4 := by omega
   simp [F_c_ref21_Version, h4, h4']
  ·have h4' : ¬ (s.length : Int) < 4 := by omega
   have h4'' : (4 : Int) ≤ s.length := by omega
   have h4n : 4 ≤ s.length := by omega
   simp [F_c_ref21_Version, h4, h4', h4'', h4n, hb, bins]
end Go.AM

namespace Go.AM
def hd0 (s : List UInt8) : Int :=
 if s.take 4 ≠ magic then 10 else if 65536 < s.length then 3 else match s.drop 4 with
 | [] => 1
 | v :: r => if v.toNat ≠ 4 then 8 else match r with
  | [] => 1
  | k :: r => if r.length < 4 then 1 else if s.length < leV (r.take 4) then 1 else if leV (r.take 4) < s.length then 2 else 0
theorem wholeR4_short {r : List UInt8} (h : r.length < 4) : wholeR ⟨r, 0⟩ 4 = (failR 1, 0) := by
 unfold wholeR bytesR
 rw [if_neg (by simp), if_pos (by simp; omega)]; rfl
theorem wholeR4_long {r : List UInt8} (h : ¬ r.length < 4) : wholeR ⟨r, 0⟩ 4 = (⟨r.drop 4, 0⟩, leV (r.take 4)) := by
 unfold wholeR bytesR
 rw [if_neg (by simp), if_neg (by simp; omega)]; rfl
theorem wholeR_err {x : Oc} (h : x.e ≠ 0) (n : Int) : wholeR x n = (x, 0) := by
 unfold wholeR bytesR
 rw [if_pos (.inl h)]; rfl
theorem bytesR4 {s : List UInt8} (h : 4 ≤ s.length) : bytesR ⟨s, 0⟩ 4 = (⟨s.drop 4, 0⟩, s.take 4) := by
 unfold bytesR
 rw [if_neg (by simp), if_neg (by simp; omega)]; rfl
theorem byteR_fail {e : Int} (h : e ≠ 0) : byteR (failR e) = (failR e, 0) := byteR_err h
theorem wholeR_fail {e : Int} (h : e ≠ 0) (n : Int) : wholeR (failR e) n = (failR e, 0) := wholeR_err h n
theorem hd0_eq {s : List UInt8} (h1 : s.take 4 = magic) (h2 : ¬ 65536 < s.length) : hd0 s =
    (if 4 < s.length ∧ (byteR ⟨s.drop 4, 0⟩).2.toNat ≠ 4 then 8 else
     if (wholeR (byteR (byteR ⟨s.drop 4, 0⟩).1).1 4).1.e ≠ 0 then (wholeR (byteR (byteR ⟨s.drop 4, 0⟩).1).1 4).1.e else
     if s.length < (wholeR (byteR (byteR ⟨s.drop 4, 0⟩).1).1 4).2 then 1 else if (wholeR (byteR (byteR ⟨s.drop 4, 0⟩).1).1 4).2 < s.length then 2 else 0) := by
 have h4 := magic_len h1
 have hl : (s.drop 4).length = s.length - 4 := by simp
 unfold hd0
 rw [if_neg (by simpa using h1), if_neg h2]
 generalize s.drop 4 = r at *
 cases r with
 | nil =>
  simp at hl
  rw [byteR_nil, byteR_fail (by decide), wholeR_fail (by decide), if_neg (by omega)]; rfl
 | cons v r =>
  simp at hl
  rw [byteR_cons]
  simp only
  by_cases hv : v.toNat = 4
  ·rw [if_neg (by simpa using hv), if_neg (by simp [hv])]
   cases r with
   | nil => rw [byteR_nil, wholeR_fail (by decide)]; rfl
   | cons k r =>
    rw [byteR_cons]
    simp only
    by_cases hr : r.length < 4
    ·rw [if_pos hr, wholeR4_short hr]; rfl
    ·rw [if_neg hr, wholeR4_long hr]; simp
  ·rw [if_pos hv, if_pos ⟨by omega, hv⟩]
theorem hd0_kind {s : List UInt8} (h : hd0 s = 0) : (byteR (byteR ⟨s.drop 4, 0⟩).1).2 = (s[5]?).getD 0 ∧ 10 ≤ s.length := by
 unfold hd0 at h
 split at h
 ·simp at h
 split at h
 ·simp at h
 have e5 : s[5]? = (s.drop 4)[1]? := by rw [List.getElem?_drop]
 have hl : (s.drop 4).length = s.length - 4 := by simp
 rw [e5]
 generalize s.drop 4 = r at *
 cases r with
 | nil => simp at h
 | cons v r =>
  simp only at h
  split at h
  ·simp at h
  cases r with
  | nil => simp at h
  | cons k r =>
   simp only at h
   split at h
   ·simp at h
   rename_i hr
   rw [byteR_cons]; simp only; rw [byteR_cons]
   simp at hl ⊢; omega
theorem c_file_begin (s : List UInt8) (hs : s.length ≤ 1073741824) (sg) (g t : Nat) (h : sg[g]? = some [.p t 0, .s (bs []), .l .o 2 []]) (ht : sg[t]? = some tabO) (hgt : g ≠ t) :
    (hd0 s ≠ 0 → LL.call n_file_reader_begin [.p g 0, .s (bs s)] sg sg.length = some (.t [.nilp, .i .i64 0, .i .i64 (hd0 s)], sg, sg.length)) ∧
    (hd0 s = 0 → ∃ x1 : Oc, LL.call n_file_reader_begin [.p g 0, .s (bs s)] sg sg.length = some (.t [.p (sg.length + 1) 0, .i .i64 ((s[5]?).getD 0).toNat, .i .i64 (openR s).2],
     sg.set g [.p t 0, .s (bs (openR s).1), .l .o 2 []] ++ [eIn x1, eIn (bytesR ⟨(openR s).1, 0⟩ 10).1], sg.length)) := by
 have hP := c_HasPrefix s magic (by omega) (by simp [magic]) sg
 have e4 : magic.length = 4 := rfl
 rw [e4] at hP
 by_cases h1 : s.take 4 = magic
 case neg =>
  have hz : hd0 s = 10 := by unfold hd0; rw [if_pos h1]
  refine ⟨fun _ => ?_, fun h => by rw [hz] at h; simp at h⟩
  refine wp_call e_file_reader_begin rfl ?_
  have hb : (s.take 4 == magic) = false := by simpa using h1
  rw [hb] at hP
  simp only [magic] at hP
  simp [F_file_reader_begin, hP]
  simp [hz]
 have h4 := magic_len h1
 simp only [h1, beq_self_eq_true, magic] at hP
 by_cases h2 : 65536 < s.length
 case pos =>
  have h2' : (65536 : Int) < s.length := by omega
  have hz : hd0 s = 3 := by unfold hd0; rw [if_neg (by simpa using h1), if_pos h2]
  refine ⟨fun _ => ?_, fun h => by rw [hz] at h; simp at h⟩
  refine wp_call e_file_reader_begin rfl ?_
  simp [F_file_reader_begin, hP, h2, h2']
  simp [hz]
 have h2' : ¬ (65536 : Int) < s.length := by omega
 have hO := c_octet_Of s sg
 have hso : (⟨s, 0⟩ : Oc).ok := by show s.length ≤ _; omega
 have hB := c_octet_In_Bytes ⟨s, 0⟩ hso 4 (sg ++ [eIn ⟨s, 0⟩]) sg.length (by simp)
 rw [bytesR4 h4] at hB
 simp only [h1] at hB
 have hro : (⟨s.drop 4, 0⟩ : Oc).ok := by show (s.drop 4).length ≤ _; simp; omega
 have hY1 := c_octet_In_Byte ⟨s.drop 4, 0⟩ hro (sg ++ [eIn ⟨s.drop 4, 0⟩]) sg.length (by simp)
 have ho1 : (byteR ⟨s.drop 4, 0⟩).1.ok := bytesR_ok hro 1
 have hY2 := c_octet_In_Byte (byteR ⟨s.drop 4, 0⟩).1 ho1 (sg ++ [eIn (byteR ⟨s.drop 4, 0⟩).1]) sg.length (by simp)
 have ho2 : (byteR (byteR ⟨s.drop 4, 0⟩).1).1.ok := bytesR_ok ho1 1
 have hW := c_octet_In_Word (byteR (byteR ⟨s.drop 4, 0⟩).1).1 ho2 (sg ++ [eIn (byteR (byteR ⟨s.drop 4, 0⟩).1).1]) sg.length (by simp)
 have hsz := wholeR4_lt (byteR (byteR ⟨s.drop 4, 0⟩).1).1
 have hE := c_octet_In_Err (wholeR (byteR (byteR ⟨s.drop 4, 0⟩).1).1 4).1 (sg ++ [eIn (wholeR (byteR (byteR ⟨s.drop 4, 0⟩).1).1 4).1]) sg.length (by simp)
 have hd := hd0_eq h1 h2
 have hk5 := hd0_kind (s := s)
 generalize (wholeR (byteR (byteR ⟨s.drop 4, 0⟩).1).1 4).1 = w at *
 generalize (wholeR (byteR (byteR ⟨s.drop 4, 0⟩).1).1 4).2 = sz at *
 generalize (byteR (byteR ⟨s.drop 4, 0⟩).1).1 = y2 at *
 generalize (byteR (byteR ⟨s.drop 4, 0⟩).1).2 = k at *
 generalize (byteR ⟨s.drop 4, 0⟩).1 = y1 at *
 generalize (byteR ⟨s.drop 4, 0⟩).2 = v at *
 have hv := u8_lt v
 have hk := u8_lt k
 have w1 : IntKind.i64.wrap (k.toNat : Int) = k.toNat := wrap64 (by omega)
 have w2 : IntKind.i64.wrap (sz : Int) = sz := wrap64 (by omega)
 simp at hO hB hY1 hY2 hW hE
 have hA : (hd0 s = 8 ∧ 4 < s.length ∧ v.toNat ≠ 4) ∨ ((¬ 4 < s.length ∨ v.toNat = 4) ∧ hd0 s = (if w.e ≠ 0 then w.e else if s.length < sz then 1 else if sz < s.length then 2 else 0)) := by
  by_cases hq : 4 < s.length ∧ v.toNat ≠ 4
  ·rw [if_pos hq] at hd; exact .inl ⟨hd, hq.1, hq.2⟩
  ·rw [if_neg hq] at hd
   refine .inr ⟨?_, hd⟩
   by_cases h : 4 < s.length
   ·right
    by_cases h' : v.toNat = 4
    ·exact h'
    ·exact absurd ⟨h, h'⟩ hq
   ·exact .inl h
 rcases hA with ⟨hz, hl, hv4⟩ | ⟨hv4, hz⟩
 ·have hl' : (4 : Int) < s.length := by omega
  have hb : ((v.toNat : Int) != 4) = true := by simp; omega
  refine ⟨fun _ => ?_, fun h => by rw [hz] at h; simp at h⟩
  refine wp_call e_file_reader_begin rfl ?_
  simp [F_file_reader_begin, hP, h2, h2', hO, hB, hY1, hY2, hW, hl, hl', hb, w1, w2]
  simp [hz]
 have hb4 : ∀ A B : Prop, True := fun _ _ => trivial
 have hq : ((4 < s.length ∧ (4 : Int) < s.length) ∧ ((v.toNat : Int) != 4) = false) ∨ ¬ 4 < s.length ∧ ¬ (4 : Int) < s.length := by
  by_cases h : 4 < s.length
  ·refine .inl ⟨⟨h, by omega⟩, ?_⟩
   rcases hv4 with h' | h'
   ·exact absurd h h'
   ·simp; omega
  ·exact .inr ⟨h, by omega⟩
 by_cases he : w.e = 0
 case neg =>
  rw [if_pos he] at hz
  have hb : (w.e != 0) = true := by simpa using he
  refine ⟨fun _ => ?_, fun h => by rw [hz] at h; exact absurd h he⟩
  refine wp_call e_file_reader_begin rfl ?_
  rcases hq with ⟨⟨q1, q2⟩, q3⟩ | ⟨q1, q2⟩
  ·simp [F_file_reader_begin, hP, h2, h2', hO, hB, hY1, hY2, hW, hE, q1, q2, q3, w1, w2, hb]
   simp [hz]
  ·simp [F_file_reader_begin, hP, h2, h2', hO, hB, hY1, hY2, hW, hE, q1, q2, w1, w2, hb]
   simp [hz]
 rw [if_neg (by simpa using he)] at hz
 have hb : (w.e != 0) = false := by simpa using he
 by_cases s1 : s.length < sz
 case pos =>
  have s1' : (s.length : Int) < sz := by omega
  rw [if_pos s1] at hz
  refine ⟨fun _ => ?_, fun h => by rw [hz] at h; simp at h⟩
  refine wp_call e_file_reader_begin rfl ?_
  rcases hq with ⟨⟨q1, q2⟩, q3⟩ | ⟨q1, q2⟩
  ·simp [F_file_reader_begin, hP, h2, h2', hO, hB, hY1, hY2, hW, hE, q1, q2, q3, w1, w2, hb, s1, s1']
   simp [hz]
  ·simp [F_file_reader_begin, hP, h2, h2', hO, hB, hY1, hY2, hW, hE, q1, q2, w1, w2, hb, s1, s1']
   simp [hz]
 have s1' : ¬ (s.length : Int) < sz := by omega
 rw [if_neg s1] at hz
 by_cases s2 : sz < s.length
 case pos =>
  have s2' : (sz : Int) < s.length := by omega
  rw [if_pos s2] at hz
  refine ⟨fun _ => ?_, fun h => by rw [hz] at h; simp at h⟩
  refine wp_call e_file_reader_begin rfl ?_
  rcases hq with ⟨⟨q1, q2⟩, q3⟩ | ⟨q1, q2⟩
  ·simp [F_file_reader_begin, hP, h2, h2', hO, hB, hY1, hY2, hW, hE, q1, q2, q3, w1, w2, hb, s1, s1', s2, s2']
   simp [hz]
  ·simp [F_file_reader_begin, hP, h2, h2', hO, hB, hY1, hY2, hW, hE, q1, q2, w1, w2, hb, s1, s1', s2, s2']
   simp [hz]
 have s2' : ¬ (sz : Int) < s.length := by omega
 rw [if_neg s2] at hz
 refine ⟨fun h => absurd hz h, fun _ => ?_⟩
 obtain ⟨hk5, hl10⟩ := hk5 hz
 have hOp := c_crc_Open s hs (sg ++ [eIn w]) t (get_app_lt ht _)
 have hg1 : g < sg.length := (List.getElem?_eq_some_iff.1 h).1
 have hgg : (sg ++ [eIn w])[g]? = some [.p t 0, .s (bs []), .l .o 2 []] := get_app_lt h _
 have hset : ∀ y, (sg ++ [eIn w]).set g y = sg.set g y ++ [eIn w] := fun y => List.set_append_left _ _ hg1
 have hsl : ∀ y, (sg.set g y).length = sg.length := fun y => by simp
 have hOf := c_octet_Of (openR s).1 (sg.set g [.p t 0, .s (bs (openR s).1), .l .o 2 []] ++ [eIn w])
 have hol : (openR s).1.length ≤ 1073741824 := by
  unfold openR
  split
  ·simp
  split
  ·simp
  ·simp; omega
 have hB2 := c_octet_In_Bytes ⟨(openR s).1, 0⟩ (by show (openR s).1.length ≤ _; omega) 10 (sg.set g [.p t 0, .s (bs (openR s).1), .l .o 2 []] ++ [eIn w, eIn ⟨(openR s).1, 0⟩]) (sg.length + 1) (by rw [List.getElem?_append_right (by simp)]; simp)
 generalize (openR s).1 = al at *
 generalize (openR s).2 = oe at *
 generalize (bytesR ⟨al, 0⟩ 10).1 = x2 at *
 generalize (bytesR ⟨al, 0⟩ 10).2 = junk at *
 have hset2 : ∀ y, (sg.set g [.p t 0, .s (bs al), .l .o 2 []] ++ [eIn w, eIn ⟨al, 0⟩]).set (sg.length + 1) y = sg.set g [.p t 0, .s (bs al), .l .o 2 []] ++ [eIn w, y] := by
  intro y
  rw [List.set_append_right _ _ (by simp)]; simp
 rw [hset2] at hB2
 have hgs : ∀ y, (sg.set g y ++ [eIn w])[g]? = some y := fun y => get_app_lt (set_get h y) _
 rw [← hk5]
 refine ⟨w, wp_call e_file_reader_begin rfl ?_⟩
 have l4 : 4 < s.length := by omega
 have l4' : (4 : Int) < s.length := by omega
 have q3 : ((v.toNat : Int) != 4) = false := by
  rcases hv4 with h' | h'
  ·omega
  ·simp; omega
 simp at hOp hgg hset hOf hB2 hgs
 simp [F_file_reader_begin, hP, h2, h2', hO, hB, hY1, hY2, hW, hE, l4, l4', q3, w1, w2, hb, s1, s1', s2, s2', hOp, hgg, hset, hOf, hB2, hgs]
 skip
end Go.AM

namespace Go.AM
theorem wp_call_ex {f : FuncId} {F : F} {ds : List D} {sg : List (List D)} {Q : D × List (List D) × Nat → Prop} (hF : EE.fn f = some F) (hn : ds.length = F.np)
    (h : @WC F.body ⟨ini 0 ds, [], sg, sg.length⟩ ⟨fun r => ∃ x, FnQ F.res sg.length x r ∧ Q x⟩ trivial) (hq : decide (f < Q0) = true := by exact rfl) : ∃ x, LL.call f ds sg sg.length = some x ∧ Q x := by
 obtain ⟨r, h1, x, h2, h3⟩ := h
 exact ⟨x, wp_call hF hn ⟨r, h1, h2⟩ hq, h3⟩
structure Rw where
 x : Oc
 id : UInt8
 at_ : Nat
 sz : Nat
 sm : Nat
def rowR (x : Oc) : Rw :=
 ⟨(wholeR (wholeR (wholeR (byteR x).1 4).1 4).1 4).1, (byteR x).2, (wholeR (byteR x).1 4).2, (wholeR (wholeR (byteR x).1 4).1 4).2, (wholeR (wholeR (wholeR (byteR x).1 4).1 4).1 4).2⟩
def partR (al : List UInt8) (at_ sz : Nat) : List UInt8 := (al.take (at_ + sz)).drop at_
def rowE (al : List UInt8) (r : Rw) (k next : Nat) : Int :=
 if r.x.e ≠ 0 then r.x.e else if r.id.toNat ≠ k + 1 ∨ r.at_ ≠ next then 2 else if al.length < r.at_ + r.sz then 1 else
 if sumN (partR al r.at_ r.sz) ≠ r.sm then 7 else 0
def rowsR (al : List UInt8) : Nat → Nat → Oc → Nat → List (Int × List UInt8) → Int × List (Int × List UInt8)
 | 0, k, x, next, l => (if next ≠ al.length then 2 else 0, l)
 | n + 1, k, x, next, l =>
  if rowE al (rowR x) k next ≠ 0 then (rowE al (rowR x) k next, l) else
  rowsR al n (k + 1) (rowR x).x (next + (rowR x).sz) (l ++ [(((rowR x).id.toNat : Int), partR al next (rowR x).sz)])
theorem rowsR_succ (al n k x next l) : rowsR al (n + 1) k x next l = if rowE al (rowR x) k next ≠ 0 then (rowE al (rowR x) k next, l) else
    rowsR al n (k + 1) (rowR x).x (next + (rowR x).sz) (l ++ [(((rowR x).id.toNat : Int), partR al next (rowR x).sz)]) := rfl
def sctR (al : List UInt8) (x : Oc) : Int × List (Int × List UInt8) :=
 if (byteR x).1.e ≠ 0 then ((byteR x).1.e, []) else if (byteR x).2.toNat ≠ 2 then (2, []) else rowsR al 2 0 (byteR x).1 37 []
theorem byteR_ok {x : Oc} (h : x.ok) : (byteR x).1.ok := bytesR_ok h 1
theorem rowR_ok {x : Oc} (h : x.ok) : (rowR x).x.ok := bytesR_ok (bytesR_ok (bytesR_ok (byteR_ok h) 4) 4) 4
theorem c_file_sections (al : List UInt8) (ha : al.length ≤ 1073741824) (x : Oc) (hx : x.ok) (sg) (g t gi : Nat) (h : sg[g]? = some [.p t 0, .s (bs al), .l .o 2 []]) (ht : sg[t]? = some tabO) (hi : sg[gi]? = some (eIn x)) (hgt : g ≠ t) (hgi : g ≠ gi) (hti : t ≠ gi) :
    ∃ y, LL.call n_file_reader_sections [.p g 0, .p gi 0] sg sg.length = some y ∧ ∃ c1 c2, y = (.i .i64 (sctR al x).1, (sg.set g c1).set gi c2, sg.length) ∧ ((sctR al x).1 = 0 → c1 = [.p t 0, .s (bs al), .l .o 2 ((sctR al x).2.map eSec)]) := by
 refine wp_call_ex e_file_reader_sections rfl ?_
 have hg1 : g < sg.length := (List.getElem?_eq_some_iff.1 h).1
 have hi1 : gi < sg.length := (List.getElem?_eq_some_iff.1 hi).1
 have hY := c_octet_In_Byte x hx sg gi hi
 have ho := byteR_ok hx
 have hEr := c_octet_In_Err (byteR x).1 (sg.set gi (eIn (byteR x).1)) gi (set_get hi _)
 have hn := u8_lt (byteR x).2
 have w1 : IntKind.i64.wrap ((byteR x).2.toNat : Int) = (byteR x).2.toNat := wrap64 (by omega)
 obtain ⟨r, hr⟩ : ∃ r, r = sctR al x := ⟨_, rfl⟩
 rw [← hr]
 unfold sctR at hr
 have hsame : ∀ (c : List D), sg.set gi c = (sg.set g [.p t 0, .s (bs al), .l .o 2 []]).set gi c := by
  intro c
  rw [sg_same h]
 generalize (byteR x).1 = x1 at *
 generalize (byteR x).2 = n at *
 simp at hY hEr
 simp [F_file_reader_sections, hY, w1, hEr]
 by_cases he : x1.e = 0
 case neg =>
  have hb : (x1.e != 0) = true := by simpa using he
  rw [if_pos he] at hr
  subst hr
  simp [hb, hEr]
  exact ⟨_, ⟨_, hsame _⟩, fun _ => rfl⟩
 have hb : (x1.e != 0) = false := by simpa using he
 rw [if_neg (by simpa using he)] at hr
 by_cases hn2 : n.toNat = 2
 case neg =>
  have hb2 : ((n.toNat : Int) != 2) = true := by simp; omega
  rw [if_pos hn2] at hr
  subst hr
  simp [hb, hb2]
  exact ⟨_, _, hsame _⟩
 have hb2 : ((n.toNat : Int) != 2) = false := by simp; omega
 rw [if_neg (by simpa using hn2)] at hr
 have w37 : IntKind.i64.wrap 26 = 26 := by decide
 have w38 : IntKind.i64.wrap 37 = 37 := by decide
 simp [hb, hb2, hn2, w37, w38]
 let G : List (Int × List UInt8) → List D := fun l => [.p t 0, .s (bs al), .l .o 2 (l.map eSec)]
 have hG : ∀ l, G l = [.p t 0, .s (bs al), .l .o 2 (l.map eSec)] := fun _ => rfl
 refine wc_ind (fun a : Nat × Oc × Nat × List (Int × List UInt8) × List (List D) => ⟨[(0, .v (.p g 0)), (1, .v (.p gi 0)), (6, .v (.i .i64 a.2.2.1)), (28, .v (.i .i64 2)), (29, .v (.i .i64 a.1))], [], a.2.2.2.2, sg.length⟩) (fun a => 2 - a.1)
  (fun a => a.1 ≤ 2 ∧ a.2.1.ok ∧ a.2.1.e = 0 ∧ a.2.2.1 ≤ 2147483648 ∧ r = rowsR al (2 - a.1) a.1 a.2.1 a.2.2.1 a.2.2.2.1 ∧ a.2.2.2.2 = (sg.set g (G a.2.2.2.1)).set gi (eIn a.2.1) ∧ a.2.2.2.1.length ≤ a.1) ?_ (0, x1, 37, [], sg.set gi [.s (bs x1.s), .i .i64 x1.e]) ⟨by simp, ho, he, by simp, hr, hsame _, by simp⟩
 clear hr hb hb2 hn2 hY hEr he w1 hn ho hi hx
 rintro ⟨k, x, next, l, sg'⟩ ⟨h1, h2, h3, h4, h5, h6, h7⟩ ih
 simp only at h1 h2 h3 h4 h5 h6 h7
 have hgI : ∀ c, ((sg.set g c).set gi (eIn x))[gi]? = some (eIn x) := fun c => by rw [List.getElem?_set_self]; simpa using hi1
 have hgG : ∀ c c', ((sg.set g c).set gi c')[g]? = some c := fun c c' => by
  rw [List.getElem?_set_ne (Ne.symm hgi), List.getElem?_set_self]; exact hg1
 have hgT : ∀ c c', ((sg.set g c).set gi c')[t]? = some tabO := fun c c' => by
  rw [List.getElem?_set_ne (Ne.symm hti), List.getElem?_set_ne hgt]; exact ht
 have hss : ∀ c c' c'', ((sg.set g c).set gi c').set gi c'' = (sg.set g c).set gi c'' := fun c c' c'' => List.set_set ..
 have hsl : ∀ c c', ((sg.set g c).set gi c').length = sg.length := fun c c' => by simp
 have htk : ∀ c c', List.take sg.length ((sg.set g c).set gi c') = (sg.set g c).set gi c' := fun c c' => List.take_of_length_le (by simp)
 by_cases hk : k < 2
 case neg =>
  have hk' : ¬ (k : Int) < 2 := by omega
  have k2 : 2 - k = 0 := by omega
  rw [k2] at h5
  unfold rowsR at h5
  by_cases hnl : next = al.length
  ·rw [if_neg (by simpa using hnl)] at h5
   have hb : ((next : Int) != al.length) = false := by simp; omega
   subst h5 h6
   simp [hk, hk', hgG, hG, hb, htk]
   exact ⟨_, rfl⟩
  ·rw [if_pos hnl] at h5
   have hb : ((next : Int) != al.length) = true := by simp; omega
   subst h5 h6
   simp [hk, hk', hgG, hG, hb, htk]
   exact ⟨_, _, rfl⟩
 have hk' : (k : Int) < 2 := by omega
 obtain ⟨m, hm⟩ : ∃ m, 2 - k = m + 1 := ⟨1 - k, by omega⟩
 have hm2 : 2 - (k + 1) = m := by omega
 rw [hm, rowsR_succ] at h5
 subst h6
 have hb1 := c_octet_In_Byte x h2 _ gi (hgI (G l))
 have o1 := byteR_ok h2
 have hb2 := c_octet_In_Word (byteR x).1 o1 ((sg.set g (G l)).set gi (eIn (byteR x).1)) gi (by rw [List.getElem?_set_self]; simpa using hi1)
 have o2 : (wholeR (byteR x).1 4).1.ok := bytesR_ok o1 4
 have hb3 := c_octet_In_Word (wholeR (byteR x).1 4).1 o2 ((sg.set g (G l)).set gi (eIn (wholeR (byteR x).1 4).1)) gi (by rw [List.getElem?_set_self]; simpa using hi1)
 have o3 : (wholeR (wholeR (byteR x).1 4).1 4).1.ok := bytesR_ok o2 4
 have hb4 := c_octet_In_Word (wholeR (wholeR (byteR x).1 4).1 4).1 o3 ((sg.set g (G l)).set gi (eIn (wholeR (wholeR (byteR x).1 4).1 4).1)) gi (by rw [List.getElem?_set_self]; simpa using hi1)
 have o4 : (rowR x).x.ok := rowR_ok h2
 have hEr := c_octet_In_Err (rowR x).x ((sg.set g (G l)).set gi (eIn (rowR x).x)) gi (by rw [List.getElem?_set_self]; simpa using hi1)
 have hid := u8_lt (byteR x).2
 have ha4 := wholeR4_lt (byteR x).1
 have hs4 := wholeR4_lt (wholeR (byteR x).1 4).1
 have hm4 := wholeR4_lt (wholeR (wholeR (byteR x).1 4).1 4).1
 have eR : rowR x = ⟨(wholeR (wholeR (wholeR (byteR x).1 4).1 4).1 4).1, (byteR x).2, (wholeR (byteR x).1 4).2, (wholeR (wholeR (byteR x).1 4).1 4).2, (wholeR (wholeR (wholeR (byteR x).1 4).1 4).1 4).2⟩ := rfl
 have eX : (rowR x).x = (wholeR (wholeR (wholeR (byteR x).1 4).1 4).1 4).1 := rfl
 rw [eX] at hEr o4
 rw [eR] at h5
 simp only [hss] at hb1 hb2 hb3 hb4
 generalize (wholeR (wholeR (wholeR (byteR x).1 4).1 4).1 4).1 = w at *
 generalize (wholeR (wholeR (wholeR (byteR x).1 4).1 4).1 4).2 = sm at *
 generalize (wholeR (wholeR (byteR x).1 4).1 4).1 = z3 at *
 generalize (wholeR (wholeR (byteR x).1 4).1 4).2 = sz at *
 generalize (wholeR (byteR x).1 4).1 = z2 at *
 generalize (wholeR (byteR x).1 4).2 = at_ at *
 generalize (byteR x).1 = z1 at *
 generalize (byteR x).2 = id_ at *
 have w1 : IntKind.i64.wrap (id_.toNat : Int) = id_.toNat := wrap64 (by omega)
 have w2 : IntKind.i64.wrap (at_ : Int) = at_ := wrap64 (by omega)
 have w3 : IntKind.i64.wrap (sz : Int) = sz := wrap64 (by omega)
 have w4 : IntKind.i64.wrap ((k : Int) + 1) = k + 1 := wrap64 (by omega)
 simp only [hG] at hb1 hb2 hb3 hb4 hEr
 simp at hb1 hb2 hb3 hb4 hEr
 unfold rowE at h5
 simp only at h5
 by_cases he : w.e = 0
 case neg =>
  have hb : (w.e != 0) = true := by simpa using he
  simp only [he, ne_eq, not_false_eq_true, if_true] at h5
  subst h5
  simp [hk, hk', hG, hb1, hb2, hb3, hb4, hEr, w1, w2, w3, hb, htk]
  exact ⟨_, ⟨_, rfl⟩, fun h => absurd h he⟩
 have hb : (w.e != 0) = false := by simpa using he
 simp only [he, ne_eq, not_true_eq_false, if_false] at h5
 by_cases hA : ¬ id_.toNat = k + 1 ∨ ¬ at_ = next
 case pos =>
  rw [if_pos hA, if_pos (by decide)] at h5
  subst h5
  have hq : ((((id_.toNat : Int)) != (k : Int) + 1) = true ∧ True) ∨ (((id_.toNat : Int)) != (k : Int) + 1) = false ∧ ((at_ : Int) != next) = true := by
   by_cases h : id_.toNat = k + 1
   ·refine .inr ⟨by simp; omega, ?_⟩
    rcases hA with h' | h'
    ·exact absurd h h'
    ·simp; omega
   ·exact .inl ⟨by simp; omega, trivial⟩
  rcases hq with ⟨q1, q2⟩ | ⟨q1, q2⟩
  ·simp [hk, hk', hG, hb1, hb2, hb3, hb4, hEr, w1, w2, w3, w4, hb, htk, q1]
   exact ⟨_, _, rfl⟩
  ·simp [hk, hk', hG, hb1, hb2, hb3, hb4, hEr, w1, w2, w3, w4, hb, htk, q1, q2]
   exact ⟨_, _, rfl⟩
 rw [if_neg hA] at h5
 simp only [not_or, Decidable.not_not] at hA
 obtain ⟨hA1, hA2⟩ := hA
 subst hA2
 have q1 : ((id_.toNat : Int) != (k : Int) + 1) = false := by simp; omega
 have w5 : IntKind.i64.wrap ((al.length : Int) - at_) = (al.length : Int) - at_ := wrap64 (by omega)
 by_cases hB : al.length < at_ + sz
 case pos =>
  rw [if_pos hB, if_pos (by decide)] at h5
  subst h5
  have q2 : (al.length : Int) - at_ < sz := by omega
  simp [hk, hk', hG, hb1, hb2, hb3, hb4, hEr, w1, w2, w3, w4, hb, htk, q1, hgG, w5, q2]
  exact ⟨_, _, rfl⟩
 rw [if_neg hB] at h5
 have q2 : ¬ (al.length : Int) - at_ < sz := by omega
 obtain ⟨nx, hnx⟩ : ∃ nx, nx = at_ + sz := ⟨_, rfl⟩
 have w6 : IntKind.i64.wrap ((at_ : Int) + sz) = (nx : Int) := by rw [wrap64 (by omega)]; omega
 have q3 : at_ ≤ nx := by omega
 have q4 : (at_ : Int) ≤ nx := by omega
 have q5 : nx ≤ al.length := by omega
 have q6 : (nx : Int) ≤ al.length := by omega
 have hpl : (partR al at_ sz).length ≤ al.length := by simp [partR]; omega
 have hSum := c_crc_Sum (partR al at_ sz) (by omega) ((sg.set g (G l)).set gi (eIn w)) t (hgT _ _)
 have hpd : (al.take nx).drop at_ = partR al at_ sz := by rw [hnx]; rfl
 rw [← hnx] at h5
 generalize partR al at_ sz = part at *
 simp only [hG] at hSum
 simp at hSum
 simp [hk, hk', hG, hb1, hb2, hb3, hb4, hEr, w1, w2, w3, w4, hb, htk, q1, hgG, w5, q2, w6, q3, q4, q5, q6, hpd, hSum]
 by_cases hS : sumN part = sm
 case neg =>
  rw [if_pos hS, if_pos (by decide)] at h5
  subst h5
  have q7 : ((sumN part : Int) != sm) = true := by simp; omega
  simp [q7, htk]
  exact ⟨_, _, rfl⟩
 rw [if_neg (by simpa using hS)] at h5
 have q7 : ((sumN part : Int) != sm) = false := by simp; omega
 have hgS : ∀ c c' c'', ((sg.set g c).set gi c').set g c'' = (sg.set g c'').set gi c' := by
  intro c c' c''
  rw [List.set_comm _ _ hgi.symm, List.set_set]
 simp [q7, hgG, hgS]
 refine ⟨by omega, ?_⟩
 have := ih (k + 1, w, nx, l ++ [((id_.toNat : Int), part)], (sg.set g (G (l ++ [((id_.toNat : Int), part)]))).set gi (eIn w)) (by simp; omega) ⟨hk, o4, he, by simp; omega, by rw [h5, hm2], rfl, by simp; omega⟩
 simpa [w4, hG, eSec] using this
end Go.AM

namespace Go.AM
def ImD (d : D) (i : Im) : Prop := ∃ K1 K3, (K1 = .z ∨ K1 = .o) ∧ (K3 = .z ∨ K3 = .o) ∧ d = eImK K1 .z K3 i
theorem ImD.cp {d : D} {i : Im} (h : ImD d i) : d.cp = some (eIm i) := by
 obtain ⟨K1, K3, h1, h3, rfl⟩ := h
 rcases h1 with rfl | rfl <;> rcases h3 with rfl | rfl <;> simp [eImK, eIm] <;> rfl
theorem imD (i : Im) : ImD (eIm i) i := ⟨.z, .z, .inl rfl, .inl rfl, rfl⟩
theorem imD_oz (i : Im) : ImD (eImK .o .z .z i) i := ⟨.o, .z, .inr rfl, .inl rfl, rfl⟩
theorem imD_zo (i : Im) : ImD (eImK .z .z .o i) i := ⟨.z, .o, .inl rfl, .inr rfl, rfl⟩
theorem imD_oo (i : Im) : ImD (eImK .o .z .o i) i := ⟨.o, .o, .inr rfl, .inr rfl, rfl⟩
def s64 (n : Nat) : Int := if n < 9223372036854775808 then n else (n : Int) - 18446744073709551616
def itE (b : Nat) (v : Int) : It := ⟨canon b, v⟩
theorem s64_rng {n : Nat} (h : n < 18446744073709551616) : -9223372036854775808 ≤ s64 n ∧ s64 n ≤ 9223372036854775807 := by unfold s64; split <;> omega
theorem wrap_s64 {n : Nat} (h : n < 18446744073709551616) : IntKind.i64.wrap (n : Int) = s64 n := by
 simp [IntKind.wrap, IntKind.signed, IntKind.bits, s64]
 split <;> split <;> omega
theorem c_elder_item (b : Nat) (v : Int) (hb : b < 18446744073709551616) (hv : -9223372036854775808 ≤ v ∧ v ≤ 9223372036854775807) (sg) : LL.call n_elder_item [.i .u64 b, .i .i64 v] sg sg.length = some (eI (itE b v), sg, sg.length) := by
 refine wp_call e_elder_item rfl ?_
 have C := c_pile_Item_Canon ⟨b, v⟩ ⟨hb, hv⟩ sg
 simp [It.canon] at C
 simp [F_elder_item, C, itE]
def flatG : Nat → Oc → List It → Oc × List It
 | 0, x, acc => (x, acc)
 | n + 1, x, acc => if (wholeR (wholeR x 8).1 8).1.e ≠ 0 then ((wholeR (wholeR x 8).1 8).1, acc) else flatG n (wholeR (wholeR x 8).1 8).1 (acc ++ [itE (wholeR x 8).2 (s64 (wholeR (wholeR x 8).1 8).2)])
def flatR (x : Oc) : Int × List It :=
 if (wholeR x 4).1.e = 0 ∧ 1000 < (wholeR x 4).2 then (3, [])
 else if (flatG (wholeR x 4).2 (wholeR x 4).1 []).1.e ≠ 0 then ((flatG (wholeR x 4).2 (wholeR x 4).1 []).1.e, [])
 else ((endR (flatG (wholeR x 4).2 (wholeR x 4).1 []).1).e, (flatG (wholeR x 4).2 (wholeR x 4).1 []).2)
theorem flatG_succ (n x acc) : flatG (n + 1) x acc = if (wholeR (wholeR x 8).1 8).1.e ≠ 0 then ((wholeR (wholeR x 8).1 8).1, acc) else flatG n (wholeR (wholeR x 8).1 8).1 (acc ++ [itE (wholeR x 8).2 (s64 (wholeR (wholeR x 8).1 8).2)]) := rfl
theorem endR_e {x : Oc} (h : x.e ≠ 0) : (endR x).e = x.e := by rw [endR_stay h]
theorem c_elder_flat (x : Oc) (hx : x.ok) (sg) (g : Nat) (h : sg[g]? = some (eIn x)) :
    ∃ r, LL.call n_elder_flat [.p g 0] sg sg.length = some r ∧ ∃ y, r = (.t [.l .o 2 ((flatR x).2.map eI), .i .i64 (flatR x).1], sg.set g (eIn y), sg.length) := by
 refine wp_call_ex e_elder_flat rfl ?_
 have hW := c_octet_In_Word x hx sg g h
 have hs := fun y => set_get h y
 have h0 := sg_same h
 have ho := wholeR_ok hx 4
 have hE := c_octet_In_Err (wholeR x 4).1 (sg.set g (eIn (wholeR x 4).1)) g (hs _)
 have hn := wholeR4_lt x
 rw [flatR]
 generalize (wholeR x 4).1 = y at *
 generalize (wholeR x 4).2 = n at *
 simp at h hW hE
 have hend : ∀ z : Oc, z.ok → LL.call n_octet_In_End [.p g 0] (sg.set g (eIn z)) (sg.set g (eIn z)).length = some (.i .i64 (endR z).e, (sg.set g (eIn z)).set g (eIn (endR z)), (sg.set g (eIn z)).length) := fun z hz => c_octet_In_End z hz _ g (hs _)
 have herr : ∀ z : Oc, LL.call n_octet_In_Err [.p g 0] (sg.set g (eIn z)) (sg.set g (eIn z)).length = some (.i .i64 z.e, sg.set g (eIn z), (sg.set g (eIn z)).length) := fun z => c_octet_In_Err z _ g (hs _)
 have hlong : ∀ z : Oc, z.ok → LL.call n_octet_In_Long [.p g 0] (sg.set g (eIn z)) (sg.set g (eIn z)).length = some (.i .u64 (wholeR z 8).2, (sg.set g (eIn z)).set g (eIn (wholeR z 8).1), (sg.set g (eIn z)).length) := fun z hz => c_octet_In_Long z hz _ g (hs _)
 simp only [List.length_set, List.set_set] at hend herr hlong
 simp at hend herr hlong
 by_cases hbig : y.e = 0 ∧ 1000 < n
 ·rw [if_pos hbig]
  have hb2 : (1000 : Int) < n := by omega
  have h1b : (y.e == 0) = true := by simp [hbig.1]
  simp [F_elder_flat, hW, herr, h1b, hb2]
  exact ⟨_, rfl⟩
 ·rw [if_neg hbig]
  have hb2 : y.e = 0 → ¬ (1000 : Int) < n := fun h => by omega
  have h1b : (y.e == 0) = decide (y.e = 0) := by by_cases h : y.e = 0 <;> simp [h]
  generalize hR : (if (flatG n y []).1.e ≠ 0 then ((flatG n y []).1.e, ([] : List It)) else ((endR (flatG n y []).1).e, (flatG n y []).2)) = rr
  by_cases h1 : y.e = 0
  case' pos => have h1c : (y.e == 0) = true := by simp [h1]
               simp [F_elder_flat, hW, herr, h1c, hb2 h1]
  case' neg => have h1c : (y.e == 0) = false := by simp [h1]
               simp [F_elder_flat, hW, herr, h1c]
  all_goals
   refine wc_ind (fun t : Nat × Oc × List It => ⟨[(0, R.v (D.p g 0)), (5, R.v (D.l K.o 2 (t.2.2.map eI))), (16, R.v (D.i IntKind.u32 n)), (17, R.v (D.i IntKind.u32 t.1))], [], sg.set g (eIn t.2.1), sg.length⟩) (fun t => n - t.1)
    (fun t => t.1 ≤ n ∧ flatG n y [] = flatG (n - t.1) t.2.1 t.2.2 ∧ t.2.1.ok ∧ t.2.2.length ≤ t.1 ∧ (t.1 ≠ 0 → t.2.1.e = 0)) ?_ (0, y, []) ⟨by simp, rfl, ho, by simp, by simp⟩
   rintro ⟨i, z, acc⟩ ⟨g1, g2, g3, g4, g5⟩ ih
   simp only at g1 g2 g3 g4 g5
   have hl1 := hlong z g3
   have hl2 := hlong _ (wholeR_ok g3 8)
   have hlt1 := wholeR_lt z
   have hlt2 := wholeR_lt (wholeR z 8).1
   have hw := wrap_s64 hlt2
   have hit := c_elder_item (wholeR z 8).2 (s64 (wholeR (wholeR z 8).1 8).2) hlt1 (s64_rng hlt2) (sg.set g (eIn (wholeR (wholeR z 8).1 8).1))
   by_cases hi : i < n
   ·have hi' : (i : Int) < n := by omega
    obtain ⟨m, hm⟩ : ∃ m, n - i = m + 1 := ⟨n - i - 1, by omega⟩
    have hm2 : n - (i + 1) = m := by omega
    rw [hm, flatG_succ] at g2
    have w1 : IntKind.u32.wrap ((i : Int) + 1) = i + 1 := by simp [IntKind.wrap, IntKind.bits, IntKind.signed]; omega
    simp at hl1 hl2 hit
    have hacc : (acc.length + 1) * 16 ≤ 140737488355328 := by omega
    by_cases h2 : (wholeR (wholeR z 8).1 8).1.e = 0
    ·rw [if_neg (by simpa using h2)] at g2
     have h2b : ((wholeR (wholeR z 8).1 8).1.e != 0) = false := by simp [h2]
     have ih := ih (i + 1, (wholeR (wholeR z 8).1 8).1, acc ++ [itE (wholeR z 8).2 (s64 (wholeR (wholeR z 8).1 8).2)]) (by simp; omega) ⟨hi, by rw [g2, hm2], wholeR_ok (wholeR_ok g3 _) _, by simp; omega, fun _ => h2⟩
     simp at ih
     simp [hi, hi', hl1, hl2, hw, hit, herr, h2b, w1, hacc]
     exact ih
    ·rw [if_pos h2] at g2
     have h2b : ((wholeR (wholeR z 8).1 8).1.e != 0) = true := by simp [h2]
     rw [g2, if_pos h2] at hR
     simp [hi, hi', hl1, hl2, hw, hit, herr, h2b, w1, hacc]
     subst hR
     exact ⟨⟨rfl, rfl⟩, (wholeR (wholeR z 8).1 8).1, rfl⟩
   ·have hi' : ¬ (i : Int) < n := by omega
    rw [show n - i = 0 by omega] at g2
    have g2' : flatG n y [] = (z, acc) := g2
    have he := hend z g3
    rw [g2'] at hR
    simp [hi, hi', he]
    by_cases h2 : z.e = 0
    ·rw [if_neg (by simpa using h2)] at hR
     subst hR
     exact ⟨⟨rfl, rfl⟩, endR z, rfl⟩
    ·rw [if_pos h2] at hR
     have : i = 0 := Classical.byContradiction fun h => h2 (g5 h)
     have hnl : acc = [] := List.length_eq_zero_iff.1 (by omega)
     subst hR
     rw [endR_stay h2, hnl]
     exact ⟨⟨rfl, rfl⟩, z, rfl⟩
end Go.AM

namespace Go.AM
def totalR (x : Oc) : Int × Nat := if (wholeR x 8).1.e = 0 ∧ 1125899906842624 < (wholeR x 8).2 then (4, 0) else ((endR (wholeR x 8).1).e, (wholeR x 8).2)
theorem wholeR_e0 {x : Oc} {n : Int} (h : (wholeR x n).1.e ≠ 0) : (wholeR x n).2 = 0 := by
 simp only [wholeR] at h ⊢
 unfold bytesR at h ⊢
 split
 ·rfl
 ·rename_i h1
  rw [if_neg h1] at h
  split
  ·rfl
  ·rename_i h2; rw [if_neg h2] at h; simp at h
theorem totalR_le {x : Oc} : (totalR x).2 ≤ 1125899906842624 := by
 unfold totalR
 split
 ·simp
 ·rename_i h
  by_cases h1 : (wholeR x 8).1.e = 0
  ·simp only; omega
  ·simp [wholeR_e0 h1]
theorem c_elder_total (x : Oc) (hx : x.ok) (sg) (g : Nat) (h : sg[g]? = some (eIn x)) :
    ∃ r, LL.call n_elder_total [.p g 0] sg sg.length = some r ∧ ∃ y, r = (.t [.i .i64 (totalR x).2, .i .i64 (totalR x).1], sg.set g (eIn y), sg.length) := by
 refine wp_call_ex e_elder_total rfl ?_
 have hW := c_octet_In_Long x hx sg g h
 have hs := fun y => set_get h y
 have ho := wholeR_ok hx 8
 have hE := c_octet_In_Err (wholeR x 8).1 (sg.set g (eIn (wholeR x 8).1)) g (hs _)
 have hend := c_octet_In_End (wholeR x 8).1 ho (sg.set g (eIn (wholeR x 8).1)) g (hs _)
 have hle := totalR_le (x := x)
 have h0 := wholeR_e0 (x := x) (n := 8)
 unfold totalR at hle ⊢
 generalize (wholeR x 8).1 = y at *
 generalize (wholeR x 8).2 = n at *
 simp at h hW hE hend
 by_cases hbig : y.e = 0 ∧ 1125899906842624 < n
 ·rw [if_pos hbig]
  have hb2 : (1125899906842624 : Int) < n := by omega
  have h1b : (y.e == 0) = true := by simp [hbig.1]
  simp [F_elder_total, hW, hE, h1b, hb2]
  exact ⟨y, rfl⟩
 ·rw [if_neg hbig] at hle ⊢
  simp only at hle
  have hw : IntKind.i64.wrap (n : Int) = n := wrap64 (by omega)
  by_cases h1 : y.e = 0
  ·have h1b : (y.e == 0) = true := by simp [h1]
   have hb2 : ¬ (1125899906842624 : Int) < n := by omega
   simp [F_elder_total, hW, hE, h1b, hb2, hend, hw]
   exact ⟨endR y, rfl⟩
  ·have h1b : (y.e == 0) = false := by simp [h1]
   simp [F_elder_total, hW, hE, h1b, hend, hw]
   exact ⟨endR y, rfl⟩
def firstR (k p : Int) (x : Oc) : Int × List (List It) × List Int :=
 if k = 1 ∨ k = 2 then
  if (flatR x).1 ≠ 0 then ((flatR x).1, [], []) else if k = 2 then (0, [(flatR x).2], []) else if p * 62 < (flatR x).2.length then (3, [], []) else (0, dealD (sortI ((flatR x).2.map It.canon)) p, [])
 else ((totalR x).1, [], if k = 3 then evenD (totalR x).2 p.toNat else [((totalR x).2 : Int)])
theorem flatG_items : ∀ (n : Nat) (x : Oc) (acc : List It), (∀ y ∈ acc, y.ok ∧ y.canon = y) → (flatG n x acc).2.length ≤ acc.length + n ∧ ∀ y ∈ (flatG n x acc).2, y.ok ∧ y.canon = y
 | 0, x, acc, h => ⟨by simp [flatG], h⟩
 | n + 1, x, acc, h => by
  rw [flatG_succ]
  split
  ·exact ⟨by simp only; omega, h⟩
  ·have := flatG_items n (wholeR (wholeR x 8).1 8).1 (acc ++ [itE (wholeR x 8).2 (s64 (wholeR (wholeR x 8).1 8).2)]) (fun y hy => by
    rcases List.mem_append.1 hy with hy | hy
    ·exact h y hy
    ·simp at hy; subst hy
     exact ⟨⟨canon_lt (wholeR_lt x), s64_rng (wholeR_lt _)⟩, by simp [It.canon, itE, canon_canon]⟩)
   simp at this
   exact ⟨by omega, this.2⟩
theorem flatR_items (x : Oc) : (flatR x).2.length ≤ 1000 ∧ ∀ y ∈ (flatR x).2, y.ok ∧ y.canon = y := by
 unfold flatR
 split
 ·simp
 ·rename_i h1
  split
  ·simp
  ·have := flatG_items (wholeR x 4).2 (wholeR x 4).1 [] (by simp)
   by_cases h2 : (wholeR x 4).1.e = 0
   ·exact ⟨by simp only; simp at this; omega, this.2⟩
   ·have h3 := wholeR_e0 h2
    rw [h3] at this ⊢
    exact ⟨by simp [flatG], this.2⟩
theorem c_elder_first (k p : Int) (hk : 1 ≤ k ∧ k ≤ 4) (hp : 1 ≤ p ∧ p ≤ 16) (x : Oc) (hx : x.ok) (sg) (g : Nat) (h : sg[g]? = some (eIn x)) :
    ∃ r, LL.call n_elder_first [eImK .z .z .z ⟨k, p, 0, [], []⟩, .p g 0] sg sg.length = some r ∧ ∃ y im, r = (.t [im, .i .i64 (firstR k p x).1], sg.set g (eIn y), sg.length) ∧
     ∃ i, ImD im i ∧ ((firstR k p x).1 = 0 → i = ⟨k, p, 0, (firstR k p x).2.1, (firstR k p x).2.2⟩) := by
 refine wp_call_ex e_elder_first rfl ?_
 obtain ⟨fr, hf1, yf, rfl⟩ := c_elder_flat x hx sg g h
 obtain ⟨tr, ht1, yt, rfl⟩ := c_elder_total x hx sg g h
 obtain ⟨i1, i2⟩ := flatR_items x
 have htl := totalR_le (x := x)
 have S1 := c_pile_Sorted (flatR x).2 (by omega) (fun y hy => (i2 y hy).1) (sg.set g (eIn yf))
 rw [allH_sort _ (fun y hy => (i2 y hy).1)] at S1
 have D1 := c_spread_Deal (sortI ((flatR x).2.map It.canon)) p (by rw [sortI_len, List.length_map]; omega) (by omega) (by omega) (sg.set g (eIn yf))
 have E1 := c_wire_Even (totalR x).2 p.toNat (by omega) (by omega) (sg.set g (eIn yt))
 have hpp : ((p.toNat : Nat) : Int) = p := by omega
 rw [hpp] at E1
 unfold firstR
 generalize flatR x = f at *
 generalize totalR x = t at *
 obtain ⟨fe, fl⟩ := f
 obtain ⟨te, tn⟩ := t
 simp at hf1 ht1 S1 D1 E1
 have w62 : IntKind.i64.wrap (p * 62) = p * 62 := wrap64 (by omega)
 have hk4 : k = 1 ∨ k = 2 ∨ k = 3 ∨ k = 4 := by omega
 rcases hk4 with rfl | rfl | rfl | rfl
 ·by_cases he : fe = 0
  ·by_cases hl : p * 62 < fl.length
   ·simp [F_elder_first, eImK, hf1, he, hl, w62]
    exact ⟨yf, _, ⟨rfl, rfl⟩, _, imD ⟨1, p, 0, [], []⟩⟩
   ·simp [F_elder_first, eImK, hf1, he, hl, w62, S1, D1]
    exact ⟨yf, _, ⟨rfl, rfl⟩, imD_oz ⟨1, p, 0, dealD (sortI (fl.map It.canon)) p, []⟩⟩
  ·have heb : (fe != 0) = true := by simp [he]
   simp [F_elder_first, eImK, hf1, he, heb]
   exact ⟨yf, _, ⟨rfl, rfl⟩, _, imD ⟨1, p, 0, [], []⟩⟩
 ·by_cases he : fe = 0
  ·simp [F_elder_first, eImK, hf1, he]
   exact ⟨yf, _, ⟨rfl, rfl⟩, imD_oz ⟨2, p, 0, [fl], []⟩⟩
  ·have heb : (fe != 0) = true := by simp [he]
   simp [F_elder_first, eImK, hf1, he, heb]
   exact ⟨yf, _, ⟨rfl, rfl⟩, _, imD ⟨2, p, 0, [], []⟩⟩
 ·simp [F_elder_first, eImK, ht1, E1]
  exact ⟨yt, _, ⟨rfl, rfl⟩, _, imD_zo ⟨3, p, 0, [], evenD tn p.toNat⟩, fun _ => rfl⟩
 ·simp [F_elder_first, eImK, ht1]
  exact ⟨yt, _, ⟨rfl, rfl⟩, _, imD_zo ⟨4, p, 0, [], [(tn : Int)]⟩, fun _ => rfl⟩
end Go.AM

namespace Go.AM
theorem wc_inde {α : Type} {B : C} {Q : Rs → Prop} {s : St} (st : α → St) (μ : α → Nat) (P : α → Prop) (a0 : α) (hs : s = st a0) (hP : P a0)
    (h : ∀ a, P a → (∀ b, μ b < μ a → P b → @WC (.loop B) (st b) ⟨Q⟩ trivial) → @WC B (st a) ⟨fun r => @SqQ (.loop B) ⟨Q⟩ r trivial⟩ trivial) : @WC (.loop B) s ⟨Q⟩ trivial := by
 rw [hs]; exact wc_ind st μ P h a0 hP
def sitG : Nat → Oc → List It → Oc × List It
 | 0, x, acc => (x, acc)
 | n + 1, x, acc => if (signR (wholeR x 8).1).1.e ≠ 0 then ((signR (wholeR x 8).1).1, acc) else sitG n (signR (wholeR x 8).1).1 (acc ++ [itE (wholeR x 8).2 (signR (wholeR x 8).1).2])
def slsG (most : Nat) : Nat → Oc → List (List It) → Oc × List (List It)
 | 0, x, acc => (x, acc)
 | n + 1, x, acc => slsG most n (sitG (numR x most).2 (numR x most).1 []).1 (acc ++ [(sitG (numR x most).2 (numR x most).1 []).2])
theorem sitG_succ (n x acc) : sitG (n + 1) x acc = if (signR (wholeR x 8).1).1.e ≠ 0 then ((signR (wholeR x 8).1).1, acc) else sitG n (signR (wholeR x 8).1).1 (acc ++ [itE (wholeR x 8).2 (signR (wholeR x 8).1).2]) := rfl
theorem slsG_succ (most n x acc) : slsG most (n + 1) x acc = slsG most n (sitG (numR x most).2 (numR x most).1 []).1 (acc ++ [(sitG (numR x most).2 (numR x most).1 []).2]) := rfl
def mostN (k : Int) : Nat := if k = 1 then 62 else 1000
def secR (k p : Int) (x : Oc) : Int × List (List It) × List Int :=
 ((endR (countsG (shapeN k p).2 (slsG (mostN k) (shapeN k p).1 x []).1 []).1).e, (slsG (mostN k) (shapeN k p).1 x []).2, (countsG (shapeN k p).2 (slsG (mostN k) (shapeN k p).1 x []).1 []).2)
theorem slsG_stay (most : Nat) : ∀ (n : Nat) (x : Oc) (acc), x.e ≠ 0 → (slsG most n x acc).1 = x
 | 0, x, acc, h => rfl
 | n + 1, x, acc, h => by
  rw [slsG_succ, numR_stay h]
  exact slsG_stay most n x _ h
theorem signR_rng (x : Oc) : -9223372036854775808 ≤ (signR x).2 ∧ (signR x).2 ≤ 9223372036854775807 := by
 have := numR_le x 18446744073709551615
 simp only [signR, unzig]
 split <;> omega
theorem c_elder_second (k p : Int) (hk : 1 ≤ k ∧ k ≤ 4) (hp : 1 ≤ p ∧ p ≤ 16) (x : Oc) (hx : x.ok) (he : x.e = 0) (sg) (g : Nat) (h : sg[g]? = some (eIn x)) :
    ∃ r, LL.call n_elder_second [eImK .o .z .o ⟨k, p, 0, [], []⟩, .p g 0] sg sg.length = some r ∧ ∃ y im, r = (.t [im, .i .i64 (secR k p x).1], sg.set g (eIn y), sg.length) ∧
     ∃ i, ImD im i ∧ ((secR k p x).1 = 0 → i = ⟨k, p, 0, (secR k p x).2.1, (secR k p x).2.2⟩) := by
 refine wp_call_ex e_elder_second rfl ?_
 have hS := c_image_Shape k p sg
 obtain ⟨s1, s2, s3, s4⟩ := shape_nat (k := k) (p := p) hk (by omega)
 have hs := fun y => set_get h y
 have h0 := sg_same h
 rw [s1, s2] at hS
 unfold secR
 generalize (shapeN k p).1 = a at *
 generalize (shapeN k p).2 = b at *
 have hm : mostN k < 18446744073709551616 := by unfold mostN; split <;> omega
 have hmi : (if k = 1 then (62 : Int) else 1000) = ((mostN k : Nat) : Int) := by unfold mostN; split <;> rfl
 simp at h hS
 have w64 : ∀ i : Nat, i < 1000000 → IntKind.u64.wrap ((i : Int) + 1) = i + 1 := fun i hi => wrapu64 (by omega)
 have herr : ∀ z : Oc, LL.call n_octet_In_Err [.p g 0] (sg.set g (eIn z)) (sg.set g (eIn z)).length = some (.i .i64 z.e, sg.set g (eIn z), (sg.set g (eIn z)).length) := fun z => c_octet_In_Err z _ g (hs _)
 have hend : ∀ z : Oc, z.ok → LL.call n_octet_In_End [.p g 0] (sg.set g (eIn z)) (sg.set g (eIn z)).length = some (.i .i64 (endR z).e, (sg.set g (eIn z)).set g (eIn (endR z)), (sg.set g (eIn z)).length) := fun z hz => c_octet_In_End z hz _ g (hs _)
 have hlong : ∀ z : Oc, z.ok → LL.call n_octet_In_Long [.p g 0] (sg.set g (eIn z)) (sg.set g (eIn z)).length = some (.i .u64 (wholeR z 8).2, (sg.set g (eIn z)).set g (eIn (wholeR z 8).1), (sg.set g (eIn z)).length) := fun z hz => c_octet_In_Long z hz _ g (hs _)
 have hint : ∀ z : Oc, z.ok → LL.call n_octet_In_Int [.p g 0] (sg.set g (eIn z)) (sg.set g (eIn z)).length = some (.i .i64 (signR z).2, (sg.set g (eIn z)).set g (eIn (signR z).1), (sg.set g (eIn z)).length) := fun z hz => c_octet_In_Int z hz _ g (hs _)
 have hnum : ∀ (z : Oc) (m : Nat), z.ok → m < 18446744073709551616 → LL.call n_octet_In_Num [.p g 0, .i .u64 m] (sg.set g (eIn z)) (sg.set g (eIn z)).length = some (.i .u64 (numR z m).2, (sg.set g (eIn z)).set g (eIn (numR z m).1), (sg.set g (eIn z)).length) := fun z m hz hm => c_octet_In_Num z hz m hm _ g (hs _)
 simp at herr hend hlong hint hnum
 have hmo : mostN k ≤ 1000 := by unfold mostN; split <;> omega
 have w64 : ∀ i : Nat, i < 1000000 → IntKind.u64.wrap ((i : Int) + 1) = i + 1 := fun i hi => wrapu64 (by omega)
 have herr : ∀ z : Oc, LL.call n_octet_In_Err [.p g 0] (sg.set g (eIn z)) (sg.set g (eIn z)).length = some (.i .i64 z.e, sg.set g (eIn z), (sg.set g (eIn z)).length) := fun z => c_octet_In_Err z _ g (hs _)
 have hend : ∀ z : Oc, z.ok → LL.call n_octet_In_End [.p g 0] (sg.set g (eIn z)) (sg.set g (eIn z)).length = some (.i .i64 (endR z).e, (sg.set g (eIn z)).set g (eIn (endR z)), (sg.set g (eIn z)).length) := fun z hz => c_octet_In_End z hz _ g (hs _)
 have hlong : ∀ z : Oc, z.ok → LL.call n_octet_In_Long [.p g 0] (sg.set g (eIn z)) (sg.set g (eIn z)).length = some (.i .u64 (wholeR z 8).2, (sg.set g (eIn z)).set g (eIn (wholeR z 8).1), (sg.set g (eIn z)).length) := fun z hz => c_octet_In_Long z hz _ g (hs _)
 have hint : ∀ z : Oc, z.ok → LL.call n_octet_In_Int [.p g 0] (sg.set g (eIn z)) (sg.set g (eIn z)).length = some (.i .i64 (signR z).2, (sg.set g (eIn z)).set g (eIn (signR z).1), (sg.set g (eIn z)).length) := fun z hz => c_octet_In_Int z hz _ g (hs _)
 have hnum : ∀ (z : Oc) (m : Nat), z.ok → m < 18446744073709551616 → LL.call n_octet_In_Num [.p g 0, .i .u64 m] (sg.set g (eIn z)) (sg.set g (eIn z)).length = some (.i .u64 (numR z m).2, (sg.set g (eIn z)).set g (eIn (numR z m).1), (sg.set g (eIn z)).length) := fun z m hz hm => c_octet_In_Num z hz m hm _ g (hs _)
 simp at herr hend hlong hint hnum
 have hmo : mostN k ≤ 1000 := by unfold mostN; split <;> omega
 have w64 : ∀ i : Nat, i < 1000000 → IntKind.u64.wrap ((i : Int) + 1) = i + 1 := fun i hi => wrapu64 (by omega)
 have herr : ∀ z : Oc, LL.call n_octet_In_Err [.p g 0] (sg.set g (eIn z)) (sg.set g (eIn z)).length = some (.i .i64 z.e, sg.set g (eIn z), (sg.set g (eIn z)).length) := fun z => c_octet_In_Err z _ g (hs _)
 have hend : ∀ z : Oc, z.ok → LL.call n_octet_In_End [.p g 0] (sg.set g (eIn z)) (sg.set g (eIn z)).length = some (.i .i64 (endR z).e, (sg.set g (eIn z)).set g (eIn (endR z)), (sg.set g (eIn z)).length) := fun z hz => c_octet_In_End z hz _ g (hs _)
 have hlong : ∀ z : Oc, z.ok → LL.call n_octet_In_Long [.p g 0] (sg.set g (eIn z)) (sg.set g (eIn z)).length = some (.i .u64 (wholeR z 8).2, (sg.set g (eIn z)).set g (eIn (wholeR z 8).1), (sg.set g (eIn z)).length) := fun z hz => c_octet_In_Long z hz _ g (hs _)
 have hint : ∀ z : Oc, z.ok → LL.call n_octet_In_Int [.p g 0] (sg.set g (eIn z)) (sg.set g (eIn z)).length = some (.i .i64 (signR z).2, (sg.set g (eIn z)).set g (eIn (signR z).1), (sg.set g (eIn z)).length) := fun z hz => c_octet_In_Int z hz _ g (hs _)
 have hnum : ∀ (z : Oc) (m : Nat), z.ok → m < 18446744073709551616 → LL.call n_octet_In_Num [.p g 0, .i .u64 m] (sg.set g (eIn z)) (sg.set g (eIn z)).length = some (.i .u64 (numR z m).2, (sg.set g (eIn z)).set g (eIn (numR z m).1), (sg.set g (eIn z)).length) := fun z m hz hm => c_octet_In_Num z hz m hm _ g (hs _)
 simp at herr hend hlong hint hnum
 have hmo : mostN k ≤ 1000 := by unfold mostN; split <;> omega
 by_cases k1 : k = 1
 case' pos => have hm1 : (62 : Int) = ((mostN k : Nat) : Int) := by simp [mostN, k1]
              have k1b : (k == 1) = true := by simp [k1]
              simp [F_elder_second, eImK, hS, k1b]
              simp only [hm1]
 case' neg => have hm1 : (1000 : Int) = ((mostN k : Nat) : Int) := by simp [mostN, k1]
              have k1b : (k == 1) = false := by simp [k1]
              simp [F_elder_second, eImK, hS, k1b]
              simp only [hm1]
 all_goals
  generalize mostN k = mo at *
  generalize hR : slsG mo a x [] = R0
  refine wc_inde (fun t : Nat × Oc × List (List It) => ⟨[(1, R.v (D.p g 0)), (2, R.q (Q.ptr 2 0)), (4, R.q (Q.ptr 4 0)), (7, R.v (D.i IntKind.i64 ↑b)), (8, R.v (D.i IntKind.u64 mo)), (22, R.v (D.i IntKind.i64 ↑a)), (23, R.v (D.i IntKind.i64 t.1))],
   [(2, [D.i IntKind.i64 k, D.i IntKind.i64 p, D.i IntKind.u64 0, D.l K.o 1 (t.2.2.map (eL 2 eI)), D.l K.o 1 []]), (4, [D.i IntKind.i64 0, D.i IntKind.i64 0, D.i IntKind.u64 0, D.l K.o 1 [], D.l K.o 1 []])], sg.set g (eIn t.2.1), sg.length⟩) (fun t => a - t.1)
   (fun t => t.1 ≤ a ∧ R0 = slsG mo (a - t.1) t.2.1 t.2.2 ∧ t.2.1.ok ∧ t.2.2.length ≤ t.1) (0, x, []) (by simpa using h0.symm) ⟨by simp, hR.symm, hx, by simp⟩ ?_
  rintro ⟨i, y, acc⟩ ⟨h1, h2, h3, h4⟩ ih
  simp only at h1 h2 h3 h4
  by_cases hi : i < a
  ·have hi' : (i : Int) < a := by omega
   obtain ⟨m, hm'⟩ : ∃ m, a - i = m + 1 := ⟨a - i - 1, by omega⟩
   have hm2 : a - (i + 1) = m := by omega
   rw [hm', slsG_succ] at h2
   have w1 : IntKind.i64.wrap ((i : Int) + 1) = i + 1 := wrap64 (by omega)
   have hn1 := hnum y mo h3 hm
   have hn2 := numR_le y mo
   have ho := numR_ok h3 mo
   simp [hi, hi', hn1]
   generalize (numR y mo).1 = y1 at *
   generalize (numR y mo).2 = n at *
   generalize hRi : sitG n y1 [] = R1 at h2
   refine wc_inde (fun t : Nat × Oc × List It => ⟨[(1, R.v (D.p g 0)), (2, R.q (Q.ptr 2 0)), (4, R.q (Q.ptr 4 0)), (7, R.v (D.i IntKind.i64 ↑b)), (8, R.v (D.i IntKind.u64 mo)), (9, R.v (D.l K.o 2 (t.2.2.map eI))), (22, R.v (D.i IntKind.i64 ↑a)), (23, R.v (D.i IntKind.i64 i)), (27, R.v (D.i IntKind.u64 n)), (28, R.v (D.i IntKind.u64 t.1))],
    [(2, [D.i IntKind.i64 k, D.i IntKind.i64 p, D.i IntKind.u64 0, D.l K.o 1 (acc.map (eL 2 eI)), D.l K.o 1 []]), (4, [D.i IntKind.i64 0, D.i IntKind.i64 0, D.i IntKind.u64 0, D.l K.o 1 [], D.l K.o 1 []])], sg.set g (eIn t.2.1), sg.length⟩) (fun t => n - t.1)
    (fun t => t.1 ≤ n ∧ R1 = sitG (n - t.1) t.2.1 t.2.2 ∧ t.2.1.ok ∧ t.2.2.length ≤ t.1) (0, y1, []) (by simp) ⟨by simp, hRi.symm, ho, by simp⟩ ?_
   rintro ⟨j, z, ac2⟩ ⟨g1, g2, g3, g4⟩ ih2
   simp only at g1 g2 g3 g4
   by_cases hj : j < n
   ·have hj' : (j : Int) < n := by omega
    obtain ⟨m2, hm3⟩ : ∃ m2, n - j = m2 + 1 := ⟨n - j - 1, by omega⟩
    have hm4 : n - (j + 1) = m2 := by omega
    rw [hm3, sitG_succ] at g2
    have w2 := w64 j (by omega)
    have hl1 := hlong z g3
    have hl2 := hint _ (wholeR_ok g3 8)
    have hit := c_elder_item (wholeR z 8).2 (signR (wholeR z 8).1).2 (wholeR_lt z) (signR_rng _) (sg.set g (eIn (signR (wholeR z 8).1).1))
    simp at hit
    have hacc : (ac2.length + 1) * 16 ≤ 140737488355328 := by omega
    by_cases h5 : (signR (wholeR z 8).1).1.e = 0
    ·rw [if_neg (by simpa using h5)] at g2
     have h5b : ((signR (wholeR z 8).1).1.e != 0) = false := by simp [h5]
     have ih2 := ih2 (j + 1, (signR (wholeR z 8).1).1, ac2 ++ [itE (wholeR z 8).2 (signR (wholeR z 8).1).2]) (by simp; omega) ⟨hj, by rw [g2, hm4], signR_ok (wholeR_ok g3 _), by simp; omega⟩
     simp at ih2
     simp [hj, hj', hl1, hl2, hit, herr, h5b, w2, hacc]
     exact ih2
    ·rw [if_pos h5] at g2
     have h5b : ((signR (wholeR z 8).1).1.e != 0) = true := by simp [h5]
     simp [hj, hj', hl1, hl2, hit, herr, h5b, w2, hacc]
     have e1 : R0.1 = (signR (wholeR z 8).1).1 := by rw [h2, g2]; exact slsG_stay mo m _ _ h5
     have e2 : (endR (countsG b R0.1 []).1).e = (signR (wholeR z 8).1).1.e := by rw [e1, countsG_stay h5, endR_e h5]
     exact ⟨(signR (wholeR z 8).1).1, _, ⟨⟨rfl, e2.symm⟩, rfl⟩, _, imD ⟨k, p, 0, acc, []⟩, fun h => absurd (e2.symm.trans h) h5⟩
   ·have hj' : ¬ (j : Int) < n := by omega
    rw [show n - j = 0 by omega] at g2
    have g2' : R1 = (z, ac2) := g2
    rw [g2'] at h2
    have hacc : (acc.length + 1) * 24 ≤ 140737488355328 := by omega
    have ih := ih (i + 1, z, acc ++ [ac2]) (by simp; omega) ⟨hi, by rw [h2, hm2], g3, by simp; omega⟩
    simp [eL] at ih
    simp [hj, hj', w1, hacc]
    exact ih
  ·have hi' : ¬ (i : Int) < a := by omega
   rw [show a - i = 0 by omega] at h2
   have h2' : R0 = (y, acc) := h2
   subst h2'
   simp [hi, hi']
   generalize hRc : countsG b y [] = R2
   refine wc_inde (fun t : Nat × Oc × List Int => ⟨[(1, R.v (D.p g 0)), (2, R.q (Q.ptr 2 0)), (4, R.q (Q.ptr 4 0)), (53, R.v (D.i IntKind.i64 ↑b)), (54, R.v (D.i IntKind.i64 t.1))],
    [(2, [D.i IntKind.i64 k, D.i IntKind.i64 p, D.i IntKind.u64 0, D.l K.o 1 (acc.map (eL 2 eI)), D.l K.o 1 (t.2.2.map (.i .i64))]), (4, [D.i IntKind.i64 0, D.i IntKind.i64 0, D.i IntKind.u64 0, D.l K.o 1 [], D.l K.o 1 []])], sg.set g (eIn t.2.1), sg.length⟩) (fun t => b - t.1)
    (fun t => t.1 ≤ b ∧ R2 = countsG (b - t.1) t.2.1 t.2.2 ∧ t.2.1.ok ∧ t.2.2.length ≤ t.1) (0, y, []) (by simp) ⟨by simp, hRc.symm, h3, by simp⟩ ?_
   rintro ⟨j, z, cs⟩ ⟨g1, g2, g3, g4⟩ ih2
   simp only at g1 g2 g3 g4
   by_cases hj : j < b
   ·have hj' : (j : Int) < b := by omega
    obtain ⟨m2, hm3⟩ : ∃ m2, b - j = m2 + 1 := ⟨b - j - 1, by omega⟩
    have hm4 : b - (j + 1) = m2 := by omega
    rw [hm3, countsG_succ] at g2
    have w1 : IntKind.i64.wrap ((j : Int) + 1) = j + 1 := wrap64 (by omega)
    have hn1 := hnum z 1125899906842624 g3 (by omega)
    have hn2 := numR_le z 1125899906842624
    have w2 : IntKind.i64.wrap ((numR z 1125899906842624).2 : Int) = (numR z 1125899906842624).2 := wrap64 (by omega)
    simp at hn1
    have hacc : (cs.length + 1) * 8 ≤ 140737488355328 := by omega
    have ih2 := ih2 (j + 1, (numR z 1125899906842624).1, cs ++ [((numR z 1125899906842624).2 : Int)]) (by simp; omega) ⟨hj, by rw [g2, hm4], numR_ok g3 _, by simp; omega⟩
    simp at ih2
    simp [hj, hj', hn1, w1, w2, hacc]
    exact ih2
   ·have hj' : ¬ (j : Int) < b := by omega
    rw [show b - j = 0 by omega] at g2
    have g2' : R2 = (z, cs) := g2
    subst g2'
    have he := hend z g3
    simp [hj, hj', he]
    exact ⟨endR z, _, ⟨rfl, rfl⟩, _, imD ⟨k, p, 0, acc, cs⟩, fun _ => rfl⟩
end Go.AM

namespace Go.AM
def thirdR (k : Int) (x : Oc) : Int × Im :=
 let y := byteR x
 let b1 := byteR y.1
 let w1 := wholeR b1.1 4
 let b2 := byteR w1.1
 let w2 := wholeR b2.1 4
 let z1 := bytesR w2.1 w1.2
 let z2 := bytesR z1.1 w2.2
 if y.1.e ≠ 0 then (y.1.e, zeroI) else if y.2 ≠ 2 then (2, zeroI) else
 if w1.1.e = 0 ∧ b1.2 ≠ 1 then (2, zeroI) else if w2.1.e = 0 ∧ b2.2 ≠ 2 then (2, zeroI) else
 if (endR z2.1).e ≠ 0 then ((endR z2.1).e, zeroI) else readI k z1.2 z2.2
theorem byteR_e0 {x : Oc} (h : (byteR x).1.e ≠ 0) : (byteR x).2 = 0 := by
 simp only [byteR] at h ⊢
 unfold bytesR at h ⊢
 split
 ·rfl
 ·rename_i h1
  rw [if_neg h1] at h
  split
  ·rfl
  ·rename_i h2; rw [if_neg h2] at h; simp at h
theorem bytesR_e {x : Oc} {n : Int} (h : (bytesR x n).1.e = 0) : x.e = 0 := by
 unfold bytesR at h
 split at h
 ·rename_i h1
  exact h
 ·rename_i h1
  exact Classical.byContradiction fun h2 => h1 (.inl h2)
theorem bytesR_l {x : Oc} (h : x.ok) {n : Int} : (bytesR x n).2.length ≤ 1099511627776 := by
 unfold bytesR
 unfold Oc.ok at h
 split
 ·simp
 ·split
  ·simp
  ·simp; omega
theorem c_elder_third (k : Int) (hk : 1 ≤ k ∧ k ≤ 4) (x : Oc) (hx : x.ok) (sg) (g : Nat) (h : sg[g]? = some (eIn x)) :
    ∃ r, LL.call n_elder_third [.i .i64 k, .p g 0] sg sg.length = some r ∧ ∃ y im, r = (.t [im, .i .i64 (thirdR k x).1], sg.set g (eIn y), sg.length) ∧
     ∃ i, ImD im i ∧ ((thirdR k x).1 = 0 → i = (thirdR k x).2) := by
 generalize hT : thirdR k x = T
 refine wp_call_ex e_elder_third rfl ?_
 have c20 : IntKind.i64.wrap 0 = 0 := by decide
 have c22 : IntKind.i64.wrap 2 = 2 := by decide
 have c21 : IntKind.i64.wrap 1 = 1 := by decide
 have hs := fun y => set_get h y
 have h0 := sg_same h
 have herr : ∀ z : Oc, LL.call n_octet_In_Err [.p g 0] (sg.set g (eIn z)) (sg.set g (eIn z)).length = some (.i .i64 z.e, sg.set g (eIn z), (sg.set g (eIn z)).length) := fun z => c_octet_In_Err z _ g (hs _)
 have hend : ∀ z : Oc, z.ok → LL.call n_octet_In_End [.p g 0] (sg.set g (eIn z)) (sg.set g (eIn z)).length = some (.i .i64 (endR z).e, (sg.set g (eIn z)).set g (eIn (endR z)), (sg.set g (eIn z)).length) := fun z hz => c_octet_In_End z hz _ g (hs _)
 have hbyte : ∀ z : Oc, z.ok → LL.call n_octet_In_Byte [.p g 0] (sg.set g (eIn z)) (sg.set g (eIn z)).length = some (eB (byteR z).2, (sg.set g (eIn z)).set g (eIn (byteR z).1), (sg.set g (eIn z)).length) := fun z hz => c_octet_In_Byte z hz _ g (hs _)
 have hword : ∀ z : Oc, z.ok → LL.call n_octet_In_Word [.p g 0] (sg.set g (eIn z)) (sg.set g (eIn z)).length = some (.i .u32 (wholeR z 4).2, (sg.set g (eIn z)).set g (eIn (wholeR z 4).1), (sg.set g (eIn z)).length) := fun z hz => c_octet_In_Word z hz _ g (hs _)
 have hbys : ∀ (z : Oc) (n : Int), z.ok → LL.call n_octet_In_Bytes [.p g 0, .i .i64 n] (sg.set g (eIn z)) (sg.set g (eIn z)).length = some (.s (bs (bytesR z n).2), (sg.set g (eIn z)).set g (eIn (bytesR z n).1), (sg.set g (eIn z)).length) := fun z n hz => c_octet_In_Bytes z hz n _ g (hs _)
 have B0 := c_octet_In_Byte x hx sg g h
 simp [eB] at herr hend hbyte hword hbys B0
 have o0 := byteR_ok hx
 have o1 := byteR_ok o0
 have o2 := wholeR_ok o1 4
 have o3 := byteR_ok o2
 have o4 := wholeR_ok o3 4
 have l1 := wholeR4_lt (byteR (byteR x).1).1
 have l2 := wholeR4_lt (byteR (wholeR (byteR (byteR x).1).1 4).1).1
 have o5 := bytesR_ok o4 (wholeR (byteR (byteR x).1).1 4).2
 have o6 := bytesR_ok o5 (wholeR (byteR (wholeR (byteR (byteR x).1).1 4).1).1 4).2
 have he0 := byteR_e0 (x := x)
 unfold thirdR at hT
 simp only at hT
 have hst : (endR (bytesR (bytesR (wholeR (byteR (wholeR (byteR (byteR x).1).1 4).1).1 4).1 (wholeR (byteR (byteR x).1).1 4).2).1 (wholeR (byteR (wholeR (byteR (byteR x).1).1 4).1).1 4).2).1).e = 0 → (wholeR (byteR (byteR x).1).1 4).1.e = 0 ∧ (wholeR (byteR (wholeR (byteR (byteR x).1).1 4).1).1 4).1.e = 0 := by
  intro he
  have h2 := bytesR_e (bytesR_e (endR_inv he).1)
  exact ⟨bytesR_e (bytesR_e h2), h2⟩
 have RS := c_section_Read k [(1, (bytesR (wholeR (byteR (wholeR (byteR (byteR x).1).1 4).1).1 4).1 (wholeR (byteR (byteR x).1).1 4).2).2), (2, (bytesR (bytesR (wholeR (byteR (wholeR (byteR (byteR x).1).1 4).1).1 4).1 (wholeR (byteR (byteR x).1).1 4).2).1 (wholeR (byteR (wholeR (byteR (byteR x).1).1 4).1).1 4).2).2)] (by simp) (by
  intro q hq
  simp at hq
  rcases hq with rfl | rfl
  ·exact bytesR_l o4
  ·exact bytesR_l o5) .z
 have hrs : ∀ a b, readS k [(1, a), (2, b)] = readI k a b := fun a b => by unfold readS; rw [if_neg (by omega)]; simp
 rw [hrs] at RS
 generalize hy : byteR x = y at *
 generalize hb1 : byteR y.1 = b1 at *
 generalize hw1 : wholeR b1.1 4 = w1 at *
 generalize hb2 : byteR w1.1 = b2 at *
 generalize hw2 : wholeR b2.1 4 = w2 at *
 generalize hz1 : bytesR w2.1 w1.2 = z1 at *
 generalize hz2 : bytesR z1.1 w2.2 = z2 at *
 obtain ⟨y, c0⟩ := y
 obtain ⟨b1, c1⟩ := b1
 obtain ⟨w1, n1⟩ := w1
 obtain ⟨b2, c2⟩ := b2
 obtain ⟨w2, n2⟩ := w2
 obtain ⟨z1, s1⟩ := z1
 obtain ⟨z2, s2⟩ := z2
 simp only at *
 have E1 := herr y
 by_cases q1 : y.e = 0
 ·rw [if_neg (by simpa using q1)] at hT
  have q1b : (y.e == 0) = true := by simp [q1]
  by_cases q2 : c0 = 2
  ·rw [if_neg (by simpa using q2)] at hT
   subst q2
   simp [F_elder_third, B0, E1, q1b, c22]
   have H1 := hbyte y o0
   have H2 := hword b1 o1
   have H3 := herr w1
   have H4 := hbyte w1 o2
   have H5 := hword b2 o3
   have H6 := herr w2
   have H7 := hbys w2 n1 o4
   have H8 := hbys z1 n2 o5
   have H9 := hend z2 o6
   simp only [hb1, hw1, hb2, hw2, hz1, hz2] at H1 H2 H4 H5 H7 H8
   have wn1 : IntKind.i64.wrap (n1 : Int) = n1 := wrap64 (by omega)
   have wn2 : IntKind.i64.wrap (n2 : Int) = n2 := wrap64 (by omega)
   have wc1 : IntKind.i64.wrap (c1.toNat : Int) = c1.toNat := wrap64 (by have := u8_lt c1; omega)
   have wc2 : IntKind.i64.wrap (c2.toNat : Int) = c2.toNat := wrap64 (by have := u8_lt c2; omega)
   have i1 : ((c1.toNat : Int) != 1) = !decide (c1 = 1) := by
    by_cases e : c1 = 1
    ·subst e; rfl
    ·simp [e]; intro h; exact e (UInt8.toNat_inj.1 (by show c1.toNat = 1; omega))
   have i2 : ((c2.toNat : Int) != 2) = !decide (c2 = 2) := by
    by_cases e : c2 = 2
    ·subst e; rfl
    ·simp [e]; intro h; exact e (UInt8.toNat_inj.1 (by show c2.toNat = 2; omega))
   refine wc_loop ?_
   simp [H1, H2, H3, wn1, wc1, c21]
   by_cases r1 : w1.e = 0 ∧ c1 ≠ 1
   ·rw [if_pos r1] at hT
    have r1b : (w1.e == 0) = true := by simp [r1.1]
    subst hT
    simp [r1b, c21, i1, r1.2]
    exact ⟨w1, _, ⟨rfl, rfl⟩, _, imD_oo zeroI⟩
   ·rw [if_neg r1] at hT
    by_cases t1 : w1.e = 0
    case' pos => have t1b : (w1.e == 0) = true := by simp [t1]
                 have t1c : c1 = 1 := Classical.byContradiction fun h => r1 ⟨t1, h⟩
                 simp [t1b, c21, t1c]
    case' neg => have t1b : (w1.e == 0) = false := by simp [t1]
                 simp [t1b, c21]
    all_goals
     refine wc_loop ?_
     simp [H4, H5, H6, wn2, wc2, c22]
     by_cases r2 : w2.e = 0 ∧ c2 ≠ 2
     ·rw [if_pos r2] at hT
      have r2b : (w2.e == 0) = true := by simp [r2.1]
      subst hT
      simp [r2b, c22, i2, r2.2]
      exact ⟨w2, _, ⟨rfl, rfl⟩, _, imD_oo zeroI⟩
     ·rw [if_neg r2] at hT
      by_cases t2 : w2.e = 0
      case' pos => have t2b : (w2.e == 0) = true := by simp [t2]
                   have t2c : c2 = 2 := Classical.byContradiction fun h => r2 ⟨t2, h⟩
                   simp [t2b, c22, t2c]
      case' neg => have t2b : (w2.e == 0) = false := by simp [t2]
                   simp [t2b, c22]
      all_goals
       refine wc_loop ?_
       simp
       refine wc_loop ?_
       simp [H7, c21]
       refine wc_loop ?_
       simp [H8, c22]
       refine wc_loop ?_
       simp [H9]
       by_cases q3 : (endR z2).e = 0
       ·obtain ⟨q4, q5⟩ := hst q3
        have q3b : ((endR z2).e != 0) = false := by simp [q3]
        rw [if_neg (by simpa using q3)] at hT
        first
         | exact absurd q4 t1
         | exact absurd q5 t2
         | (have RS := RS (sg.set g (eIn (endR z2)))
            rw [hT] at RS
            simp [eSec] at RS
            simp [q3b, RS]
            by_cases q6 : T.1 = 0
            ·simp [q6, eImK]
             exact ⟨endR z2, _, ⟨rfl, rfl⟩, imD T.2⟩
            ·simp [q6, eImK]
             exact ⟨endR z2, _, ⟨rfl, rfl⟩, _, imD T.2⟩)
       ·have q3b : ((endR z2).e != 0) = true := by simp [q3]
        rw [if_pos q3] at hT
        subst hT
        simp [q3b]
        exact ⟨endR z2, _, ⟨rfl, rfl⟩, _, imD_oo zeroI, fun _ => rfl⟩
  ·rw [if_pos (by simpa using q2)] at hT
   subst hT
   have q2b : ((c0.toNat : Int) != 2) = true := by
    simp
    intro e
    apply q2
    apply UInt8.toNat_inj.1
    have : (c0.toNat : Int) = 2 := by simpa using e
    show c0.toNat = 2
    omega
   simp [F_elder_third, B0, E1, q1b, q2b]
   exact ⟨y, _, ⟨rfl, rfl⟩, _, imD_oo zeroI⟩
 ·rw [if_pos (by simpa using q1)] at hT
  subst hT
  have q1b : (y.e == 0) = false := by simp [q1]
  have q1c : (y.e != 0) = true := by simp [q1]
  have hc0 : c0 = 0 := he0 q1
  subst hc0
  have H9 := hend y o0
  rw [endR_stay q1] at H9
  simp [F_elder_third, B0, E1, q1b, c20]
  refine wc_loop ?_
  simp
  refine wc_loop ?_
  simp [H9, q1c]
  exact ⟨y, _, ⟨rfl, rfl⟩, _, imD_oo zeroI, fun _ => rfl⟩
end Go.AM

namespace Go.AM
def kindF (s : List UInt8) : Int := ((s[5]?).getD 0).toNat
def decR (s : List UInt8) : Int × Im :=
 if hd0 s ≠ 0 then (hd0 s, zeroI) else if (openR s).2 ≠ 0 then ((openR s).2, zeroI) else
 if (sctR (openR s).1 (bytesR ⟨(openR s).1, 0⟩ 10).1).1 ≠ 0 then ((sctR (openR s).1 (bytesR ⟨(openR s).1, 0⟩ 10).1).1, zeroI) else
 if (readS (kindF s) (sctR (openR s).1 (bytesR ⟨(openR s).1, 0⟩ 10).1).2).1 ≠ 0 then ((readS (kindF s) (sctR (openR s).1 (bytesR ⟨(openR s).1, 0⟩ 10).1).2).1, zeroI) else
 if checkI (readS (kindF s) (sctR (openR s).1 (bytesR ⟨(openR s).1, 0⟩ 10).1).2).2 ≠ 0 then (checkI (readS (kindF s) (sctR (openR s).1 (bytesR ⟨(openR s).1, 0⟩ 10).1).2).2, zeroI) else
 (0, (readS (kindF s) (sctR (openR s).1 (bytesR ⟨(openR s).1, 0⟩ 10).1).2).2)
theorem rowsR_lens (al : List UInt8) : ∀ (n k : Nat) (x : Oc) (next : Nat) (l), (∀ p ∈ l, p.2.length ≤ al.length) → (rowsR al n k x next l).2.length ≤ l.length + n ∧ ∀ p ∈ (rowsR al n k x next l).2, p.2.length ≤ al.length
 | 0, k, x, next, l, h => by unfold rowsR; exact ⟨Nat.le_refl _, h⟩
 | n + 1, k, x, next, l, h => by
  rw [rowsR_succ]
  split
  ·exact ⟨by show l.length ≤ _; omega, h⟩
  ·have := rowsR_lens al n (k + 1) (rowR x).x (next + (rowR x).sz) (l ++ [(((rowR x).id.toNat : Int), partR al next (rowR x).sz)]) (by
    intro p hp
    rcases List.mem_append.1 hp with hp | hp
    ·exact h p hp
    ·simp at hp; subst hp; simp [partR]; omega)
   refine ⟨?_, this.2⟩
   have := this.1
   simp at this; omega
theorem sctR_lens (al : List UInt8) (x : Oc) : (sctR al x).2.length ≤ 2 ∧ ∀ p ∈ (sctR al x).2, p.2.length ≤ al.length := by
 unfold sctR
 split
 ·simp
 split
 ·simp
 ·have := rowsR_lens al 2 0 (byteR x).1 37 [] (by simp)
  simpa using this
theorem openR_len (s : List UInt8) : (openR s).1.length ≤ s.length := by
 unfold openR
 split
 ·simp
 split
 ·simp
 ·simp
theorem readS_rd {k : Int} {l : List (Int × List UInt8)} (h : (readS k l).1 = 0) : (readS k l).2.rd := by
 unfold readS at h ⊢
 by_cases hk : k < 1 ∨ 4 < k
 ·rw [if_pos hk] at h; simp at h
 rw [if_neg hk] at h ⊢
 match l, h with
 | [], h => simp at h
 | [a], h => simp at h
 | a :: b :: c :: d, h => simp at h
 | [a, b], h =>
  simp only at h ⊢
  by_cases ha : a.1 = 1 ∧ b.1 = 2
  ·rw [if_pos ha] at h ⊢
   exact (readI_inv ⟨by omega, by omega⟩ h).1
  ·rw [if_neg ha] at h; simp at h
theorem c_file_Decode (s : List UInt8) (hs : s.length ≤ 1073741824) (sg) : LL.call n_file_Decode [.s (bs s)] sg sg.length =
    some (.t [eImK (if (decR s).1 = 0 then .z else .o) .z (if (decR s).1 = 0 then .z else .o) (decR s).2, .i .i64 (decR s).1], sg, sg.length) := by
 generalize hr : decR s = r
 refine wp_call e_file_Decode rfl ?_
 have hM := c_crc_Make sg
 have hBg := c_file_begin s hs (sg ++ [tabO, [.p sg.length 0, .s (bs []), .l .o 2 []]]) (sg.length + 1) sg.length (by rw [List.getElem?_append_right (by omega)]; simp) (by rw [List.getElem?_append_right (by omega)]; simp) (by omega)
 obtain ⟨hB1, hB2⟩ := hBg
 unfold decR at hr
 simp [F_file_Decode, hM]
 by_cases h0 : hd0 s = 0
 case neg =>
  have := hB1 h0
  rw [if_pos h0] at hr
  subst hr
  have hb : (hd0 s == 0) = false := by simpa using h0
  have hb2 : (hd0 s != 0) = true := by simpa using h0
  simp at this
  simp [this, hb, hb2]
  simp [h0, eImK, zeroI]
 rw [if_neg (by simpa using h0)] at hr
 obtain ⟨x1, hB⟩ := hB2 h0
 have hal := openR_len s
 have hkf : (((s[5]?).getD 0).toNat : Int) = kindF s := rfl
 rw [hkf] at hB
 generalize kindF s = kd at *
 generalize (openR s).1 = al at *
 have hx2 : (bytesR ⟨al, 0⟩ 10).1.ok := bytesR_ok (by show al.length ≤ _; omega) 10
 generalize (bytesR ⟨al, 0⟩ 10).1 = x2 at *
 by_cases h1 : (openR s).2 = 0
 case neg =>
  rw [if_pos h1] at hr
  subst hr
  have hb : ((openR s).2 == 0) = false := by simpa using h1
  have hb2 : ((openR s).2 != 0) = true := by simpa using h1
  simp at hB
  simp [hB, hb, hb2]
  simp [h1, eImK, zeroI]
 rw [if_neg (by simpa using h1)] at hr
 rw [h1] at hB
 obtain ⟨R, hR⟩ : ∃ R : List D, R = [.p sg.length 0, .s (bs al), .l .o 2 []] := ⟨_, rfl⟩
 have hset : (sg ++ [tabO, [.p sg.length 0, .s (bs []), .l .o 2 []]]).set (sg.length + 1) R ++ [eIn x1, eIn x2] = sg ++ [tabO, R, eIn x1, eIn x2] := by
  rw [List.set_append_right _ _ (by omega)]; simp
 rw [← hR, hset] at hB
 obtain ⟨y, hy, c1, c2, rfl, hc1⟩ := c_file_sections al (by omega) x2 hx2 (sg ++ [tabO, R, eIn x1, eIn x2]) (sg.length + 1) sg.length (sg.length + 3)
  (by rw [List.getElem?_append_right (by omega)]; simp [hR]) (by rw [List.getElem?_append_right (by omega)]; simp) (by rw [List.getElem?_append_right (by omega)]; simp) (by omega) (by omega) (by omega)
 have hset2 : ((sg ++ [tabO, R, eIn x1, eIn x2]).set (sg.length + 1) c1).set (sg.length + 3) c2 = sg ++ [tabO, c1, eIn x1, c2] := by
  rw [List.set_append_right _ _ (by omega), List.set_append_right _ _ (by omega)]; simp
 rw [hset2] at hy
 have hlens := sctR_lens al x2
 generalize sctR al x2 = S at *
 simp at hB hy
 by_cases h2 : S.1 = 0
 case neg =>
  rw [if_pos h2] at hr
  subst hr
  have hb : (S.1 == 0) = false := by simpa using h2
  have hb2 : (S.1 != 0) = true := by simpa using h2
  simp [hB, hy, hb, hb2]
  simp [h2, eImK, zeroI]
 rw [if_neg (by simpa using h2)] at hr
 have hc1 := hc1 h2
 subst hc1
 rw [h2] at hy
 have hRd := c_section_Read kd S.2 (by have := hlens.1; omega) (fun p hp => by have := hlens.2 p hp; omega) .z (sg ++ [tabO, [.p sg.length 0, .s (bs al), .l .o 2 (S.2.map eSec)], eIn x1, c2])
 have hrd := readS_rd (k := kd) (l := S.2)
 generalize readS kd S.2 = RR at *
 simp at hRd
 by_cases h3 : RR.1 = 0
 case neg =>
  rw [if_pos h3] at hr
  subst hr
  have hb : (RR.1 == 0) = false := by simpa using h3
  have hb2 : (RR.1 != 0) = true := by simpa using h3
  simp [eImK, h3] at hRd
  simp [hB, hy, hRd, hb, hb2]
  simp [h3, eImK, zeroI]
 rw [if_neg (by simpa using h3)] at hr
 have hok := (hrd h3).ok
 have hCk := c_image_Image_Check RR.2 hok (sg ++ [tabO, [.p sg.length 0, .s (bs al), .l .o 2 (S.2.map eSec)], eIn x1, c2])
 have ee : (eLK .z 2 eI : List It → D) = eL 2 eI := rfl
 simp [eImK, h3, ee] at hRd
 simp [eIm] at hCk
 by_cases h4 : checkI RR.2 = 0
 case neg =>
  rw [if_pos h4] at hr
  subst hr
  have hb : (checkI RR.2 == 0) = false := by simpa using h4
  have hb2 : (checkI RR.2 != 0) = true := by simpa using h4
  simp [hB, hy, hRd, hCk, hb, hb2]
  simp [h4, eImK, zeroI]
 rw [if_neg (by simpa using h4)] at hr
 subst hr
 rw [h4] at hCk
 simp [hB, hy, hRd, hCk]
 simp [eImK, ee]
end Go.AM

namespace Go.AM
structure Im.fine (x : Im) : Prop where
 k : 1 ≤ x.k ∧ x.k ≤ 4
 p : 0 ≤ x.p ∧ x.p ≤ 255
 c : 0 ≤ x.c ∧ x.c < 18446744073709551616
 ls : ∀ l ∈ x.ls, l.length ≤ 1000 ∧ ∀ y ∈ l, y.can
 n : x.ls.length ≤ 255
 cs : ∀ m ∈ x.cs, 0 ≤ m ∧ m ≤ 1125899906842624
 m : x.cs.length ≤ 255
theorem Im.fine.ok {x : Im} (h : x.fine) : x.ok := by
 refine ⟨fun l hl y hy => ((h.ls l hl).2 y hy).1, fun n hn => ?_, ?_⟩
 ·have := h.cs n hn; omega
 ·have := sum_len_le x.ls (fun m hm => (h.ls m hm).1)
  have := h.n
  have : 1000 * x.ls.length ≤ 255000 := by omega
  omega
theorem Im.fine.small {x : Im} (h : x.fine) : x.small := ⟨by have := h.n; omega, by have := h.m; omega, fun l hl => by have := (h.ls l hl).1; omega⟩
theorem sitG_items : ∀ (n : Nat) (x : Oc) (acc : List It), (∀ y ∈ acc, y.can) → (sitG n x acc).2.length ≤ acc.length + n ∧ ∀ y ∈ (sitG n x acc).2, y.can
 | 0, x, acc, h => ⟨by simp [sitG], h⟩
 | n + 1, x, acc, h => by
  rw [sitG_succ]
  split
  ·exact ⟨by simp only; omega, h⟩
  ·have := sitG_items n (signR (wholeR x 8).1).1 (acc ++ [itE (wholeR x 8).2 (signR (wholeR x 8).1).2]) (fun y hy => by
    rcases List.mem_append.1 hy with hy | hy
    ·exact h y hy
    ·simp at hy; subst hy
     exact ⟨⟨canon_lt (wholeR_lt x), signR_rng _⟩, by simp [itE, canon_canon]⟩)
   simp at this
   exact ⟨by omega, this.2⟩
theorem slsG_items (most : Nat) : ∀ (n : Nat) (x : Oc) (acc : List (List It)), (∀ l ∈ acc, l.length ≤ most ∧ ∀ y ∈ l, y.can) → (slsG most n x acc).2.length = acc.length + n ∧ ∀ l ∈ (slsG most n x acc).2, l.length ≤ most ∧ ∀ y ∈ l, y.can
 | 0, x, acc, h => ⟨rfl, h⟩
 | n + 1, x, acc, h => by
  rw [slsG_succ]
  have h1 := sitG_items (numR x most).2 (numR x most).1 [] (by simp)
  have h2 := numR_le x most
  have := slsG_items most n (sitG (numR x most).2 (numR x most).1 []).1 (acc ++ [(sitG (numR x most).2 (numR x most).1 []).2]) (fun l hl => by
   rcases List.mem_append.1 hl with hl | hl
   ·exact h l hl
   ·simp at hl; subst hl
    exact ⟨by simp at h1; omega, h1.2⟩)
  exact ⟨by rw [this.1]; simp; omega, this.2⟩
theorem countsG_items : ∀ (n : Nat) (x : Oc) (acc : List Int), (∀ m ∈ acc, 0 ≤ m ∧ m ≤ 1125899906842624) → (countsG n x acc).2.length = acc.length + n ∧ ∀ m ∈ (countsG n x acc).2, 0 ≤ m ∧ m ≤ 1125899906842624
 | 0, x, acc, h => ⟨rfl, h⟩
 | n + 1, x, acc, h => by
  rw [countsG_succ]
  have h2 := numR_le x 1125899906842624
  have := countsG_items n (numR x 1125899906842624).1 (acc ++ [((numR x 1125899906842624).2 : Int)]) (fun m hm => by
   rcases List.mem_append.1 hm with hm | hm
   ·exact h m hm
   ·simp at hm; subst hm; omega)
  exact ⟨by rw [this.1]; simp; omega, this.2⟩
theorem sec_fine (k p : Int) (hk : 1 ≤ k ∧ k ≤ 4) (hp : 1 ≤ p ∧ p ≤ 16) (x : Oc) : (⟨k, p, 0, (secR k p x).2.1, (secR k p x).2.2⟩ : Im).fine := by
 obtain ⟨s1, s2, s3, s4⟩ := shape_nat (k := k) (p := p) hk (by omega)
 have h1 := slsG_items (mostN k) (shapeN k p).1 x [] (by simp)
 have h2 := countsG_items (shapeN k p).2 (slsG (mostN k) (shapeN k p).1 x []).1 [] (by simp)
 have hm : mostN k ≤ 1000 := by unfold mostN; split <;> omega
 refine ⟨hk, ⟨by simp only; omega, by simp only; omega⟩, ⟨by simp, by simp⟩, fun l hl => ?_, ?_, h2.2, ?_⟩
 ·have := h1.2 l hl; exact ⟨by omega, this.2⟩
 ·have := h1.1; simp [secR] at this ⊢; omega
 ·have := h2.1; simp [secR] at this ⊢; omega
theorem first_fine (k p : Int) (hk : 1 ≤ k ∧ k ≤ 4) (hp : 1 ≤ p ∧ p ≤ 16) (x : Oc) : (⟨k, p, 0, (firstR k p x).2.1, (firstR k p x).2.2⟩ : Im).fine := by
 obtain ⟨i1, i2⟩ := flatR_items x
 have t1 := totalR_le (x := x)
 have i2' : ∀ y ∈ (flatR x).2, y.can := fun y hy => ⟨(i2 y hy).1, congrArg It.p (i2 y hy).2⟩
 refine ⟨hk, ⟨by simp only; omega, by simp only; omega⟩, ⟨by simp, by simp⟩, ?_, ?_, ?_, ?_⟩
 ·simp only [firstR]
  split
  ·split
   ·simp
   ·split
    ·simp; exact ⟨i1, i2'⟩
    ·split
     ·simp
     ·intro l hl
      simp only at hl
      unfold dealD at hl
      rw [if_pos (by omega)] at hl
      have hsl : (sortI ((flatR x).2.map It.canon)).length = (flatR x).2.length := by rw [sortI_len, List.length_map]
      obtain ⟨i, hi, rfl⟩ := dealO_mem (Nat.le_refl _) hl
      have hc := cntD_le (sortI ((flatR x).2.map It.canon)).length p.toNat i hi
      refine ⟨by simp; omega, fun y hy => ?_⟩
      have := (sortI_perm _).mem_iff.1 (col_mem (Nat.le_refl _) hi hy)
      obtain ⟨z, hz, rfl⟩ := List.mem_map.1 this
      have := i2 z hz
      rw [this.2]; exact i2' z hz
  ·simp
 ·simp only [firstR]
  split
  ·split
   ·simp
   ·split
    ·simp
    ·split
     ·simp
     ·simp only
      unfold dealD
      rw [if_pos (by omega), dealO_len]; omega
  ·simp
 ·simp only [firstR]
  split
  ·split
   ·simp
   ·split
    ·simp
    ·split <;> simp
  ·intro m hm
   simp only at hm
   split at hm
   ·have := evenD_mem hm; omega
   ·simp at hm; omega
 ·simp only [firstR]
  split
  ·split
   ·simp
   ·split
    ·simp
    ·split <;> simp
  ·simp only
   split
   ·simp [evenD]; omega
   ·simp
end Go.AM

namespace Go.AM
def parseR (v : Int) (s : List UInt8) : Int × Im :=
 let y := byteR ⟨s, 0⟩
 let k : Int := y.2.toNat
 let n := numR y.1 255
 if y.1.e ≠ 0 then (y.1.e, zeroI) else if k < 1 ∨ 4 < k then (6, zeroI) else if v = 3 then thirdR k y.1 else
 if n.1.e ≠ 0 then (n.1.e, zeroI) else if legal k n.2 ≠ 0 then (legal k n.2, zeroI) else
 if v = 1 then ((firstR k n.2 n.1).1, ⟨k, n.2, 0, (firstR k n.2 n.1).2.1, (firstR k n.2 n.1).2.2⟩)
 else ((secR k n.2 n.1).1, ⟨k, n.2, 0, (secR k n.2 n.1).2.1, (secR k n.2 n.1).2.2⟩)
theorem c_op_OfL (k : Int) (sg) : ∃ K xs, LL.call n_op_Of [.i .i64 k] sg sg.length = some (.l K 1 xs, sg, sg.length) ∧ (xs.length = 0 ↔ (k < 1 ∨ 4 < k)) := by
 by_cases h1 : k = 1
 ·subst h1; exact ⟨_, _, wp_call e_op_Of rfl (by simp [F_op_Of]; exact ⟨rfl, rfl⟩), by simp⟩
 by_cases h2 : k = 2
 ·subst h2; exact ⟨_, _, wp_call e_op_Of rfl (by simp [F_op_Of]; exact ⟨rfl, rfl⟩), by simp⟩
 by_cases h3 : k = 3
 ·subst h3; exact ⟨_, _, wp_call e_op_Of rfl (by simp [F_op_Of]; exact ⟨rfl, rfl⟩), by simp⟩
 by_cases h4 : k = 4
 ·subst h4; exact ⟨_, _, wp_call e_op_Of rfl (by simp [F_op_Of]; exact ⟨rfl, rfl⟩), by simp⟩
 have b1 : (k == 1) = false := by simp [h1]
 have b2 : (k == 2) = false := by simp [h2]
 have b3 : (k == 3) = false := by simp [h3]
 have b4 : (k == 4) = false := by simp [h4]
 exact ⟨_, _, wp_call e_op_Of rfl (by simp [F_op_Of, b1, b2, b3, b4]; exact ⟨rfl, rfl⟩), by simp; omega⟩
theorem c_elder_parse (v : Int) (s : List UInt8) (hs : s.length ≤ 1073741824) (sg) :
    ∃ r, LL.call n_elder_parse [.i .i64 v, .s (bs s)] sg sg.length = some r ∧ ∃ im i, r = (.t [im, .i .i64 (parseR v s).1], sg, sg.length) ∧ ImD im i ∧ ((parseR v s).1 = 0 → i = (parseR v s).2) := by
 generalize hT : parseR v s = T
 refine wp_call_ex e_elder_parse rfl ?_
 have O := c_octet_Of s sg
 have ho : (⟨s, 0⟩ : Oc).ok := by simp [Oc.ok]; omega
 have hg : ∀ a, (sg ++ [a])[sg.length]? = some a := fun a => by simp
 have B := c_octet_In_Byte ⟨s, 0⟩ ho (sg ++ [eIn ⟨s, 0⟩]) sg.length (hg _)
 have o0 := byteR_ok ho
 have herr : ∀ z : Oc, LL.call n_octet_In_Err [.p sg.length 0] (sg ++ [eIn z]) (sg ++ [eIn z]).length = some (.i .i64 z.e, sg ++ [eIn z], (sg ++ [eIn z]).length) := fun z => c_octet_In_Err z _ _ (hg _)
 unfold parseR at hT
 simp only at hT
 generalize byteR ⟨s, 0⟩ = y at *
 obtain ⟨y, c⟩ := y
 simp only at *
 have N := c_octet_In_Num y o0 255 (by omega) (sg ++ [eIn y]) sg.length (hg _)
 have n2 := numR_le y 255
 have o1 := numR_ok o0 255
 have Th := fun k hk => c_elder_third k hk y o0 (sg ++ [eIn y]) sg.length (hg _)
 have hc := u8_lt c
 have wc : IntKind.i64.wrap (c.toNat : Int) = c.toNat := wrap64 (by omega)
 simp [eB] at O B herr N
 by_cases q1 : y.e = 0
 ·have q1b : (y.e != 0) = false := by simp [q1]
  rw [if_neg (by simpa using q1)] at hT
  obtain ⟨K, xs, hof, hxs⟩ := c_op_OfL (c.toNat : Int) (sg ++ [eIn y])
  simp at hof
  by_cases q2 : (c.toNat : Int) < 1 ∨ 4 < (c.toNat : Int)
  ·rw [if_pos q2] at hT
   have : xs = [] := List.length_eq_zero_iff.1 (hxs.2 q2)
   subst this
   subst hT
   simp [F_elder_parse, O, B, herr, q1b, wc, hof]
   exact ⟨_, imD_oo zeroI⟩
  ·rw [if_neg q2] at hT
   have hxb : ((xs.length : Int) == 0) = false := by simp; intro h; exact q2 (hxs.1 (by rw [h]; rfl))
   by_cases q3 : v = 3
   ·rw [if_pos q3] at hT
    obtain ⟨r, T1, y', im, rfl, i, T2, T3⟩ := Th (c.toNat : Int) (by omega)
    rw [hT] at T1 T3
    simp at T1
    simp [F_elder_parse, O, B, herr, q1b, wc, hof, hxb, q3, T1, T2.cp, eIm]
    exact ⟨_, imD i, T3⟩
   ·rw [if_neg q3] at hT
    have q3b : (v == 3) = false := by simp [q3]
    have wn : IntKind.i64.wrap ((numR y 255).2 : Int) = (numR y 255).2 := wrap64 (by omega)
    have Lg := fun sg => c_op_Legal (c.toNat : Int) ((numR y 255).2 : Int) sg
    have Fi := fun hp => c_elder_first (c.toNat : Int) ((numR y 255).2 : Int) (by omega) hp (numR y 255).1 o1 (sg ++ [eIn (numR y 255).1]) sg.length (hg _)
    have Se := fun hp he => c_elder_second (c.toNat : Int) ((numR y 255).2 : Int) (by omega) hp (numR y 255).1 o1 he (sg ++ [eIn (numR y 255).1]) sg.length (hg _)
    generalize (numR y 255).1 = z at *
    generalize (numR y 255).2 = p at *
    by_cases q4 : z.e = 0
    ·rw [if_neg (by simpa using q4)] at hT
     have q4b : (z.e != 0) = false := by simp [q4]
     have Lg := Lg (sg ++ [eIn z])
     simp at Lg
     by_cases q5 : legal (c.toNat : Int) (p : Int) = 0
     ·rw [if_neg (by simpa using q5)] at hT
      rw [q5] at Lg
      have hp := legal_p q5
      by_cases q6 : v = 1
      ·rw [if_pos q6] at hT
       obtain ⟨r, T1, y', im, rfl, i, T2, T3⟩ := Fi hp
       simp [eImK] at T1
       simp [F_elder_parse, O, B, herr, q1b, wc, hof, hxb, q3b, N, q4b, wn, Lg, q6, T1, T2.cp, eIm]
       subst hT
       exact ⟨_, ⟨rfl, rfl⟩, _, imD i, T3⟩
      ·rw [if_neg q6] at hT
       have q6b : (v == 1) = false := by simp [q6]
       obtain ⟨r, T1, y', im, rfl, i, T2, T3⟩ := Se hp q4
       simp [eImK] at T1
       simp [F_elder_parse, O, B, herr, q1b, wc, hof, hxb, q3b, N, q4b, wn, Lg, q6b, T1, T2.cp, eIm]
       subst hT
       exact ⟨_, ⟨rfl, rfl⟩, _, imD i, T3⟩
     ·rw [if_pos q5] at hT
      subst hT
      have q5b : (legal (c.toNat : Int) (p : Int) != 0) = true := by simp [q5]
      simp [F_elder_parse, O, B, herr, q1b, wc, hof, hxb, q3b, N, q4b, wn, Lg, q5b]
      exact ⟨_, imD_oo ⟨c.toNat, p, 0, [], []⟩, fun h => absurd h q5⟩
    ·rw [if_pos q4] at hT
     subst hT
     have q4b : (z.e != 0) = true := by simp [q4]
     simp [F_elder_parse, O, B, herr, q1b, wc, hof, hxb, q3b, N, q4b, wn]
     exact ⟨_, imD ⟨c.toNat, p, 0, [], []⟩, fun h => absurd h q4⟩
 ·have q1b : (y.e != 0) = true := by simp [q1]
  rw [if_pos (by simpa using q1)] at hT
  subst hT
  simp [F_elder_parse, O, B, herr, q1b]
  exact ⟨_, imD_oo zeroI, fun _ => rfl⟩
def oldR (v : Int) (s : List UInt8) : Int × Im :=
 let b := if 1 < v then openR s else (s, 0)
 let T := parseR v (b.1.drop 5)
 if b.2 ≠ 0 then (b.2, zeroI) else if T.1 ≠ 0 then T else (checkI T.2, T.2)
def elderR (v : Int) (s : List UInt8) : Int × Im := if v = 4 then decR s else oldR v s
theorem rd_fine {x : Im} (h : x.rd) : x.fine := ⟨h.k, h.p, h.c, fun l hl => ⟨(h.is l hl).2, (h.is l hl).1⟩, h.lens.1, h.cs, h.lens.2⟩
theorem third_fine {k : Int} (hk : 1 ≤ k ∧ k ≤ 4) {x : Oc} (h : (thirdR k x).1 = 0) : (thirdR k x).2.fine := by
 unfold thirdR at h ⊢
 simp only at h ⊢
 split at h
 ·contradiction
 rename_i h1
 rw [if_neg h1]
 split at h
 ·cases h
 rename_i h2
 rw [if_neg h2]
 split at h
 ·cases h
 rename_i h3
 rw [if_neg h3]
 split at h
 ·cases h
 rename_i h4
 rw [if_neg h4]
 split at h
 ·contradiction
 rename_i h5
 rw [if_neg h5]
 exact rd_fine (readI_inv hk h).1
theorem parse_fine {v : Int} {s : List UInt8} (h : (parseR v s).1 = 0) : (parseR v s).2.fine := by
 unfold parseR at h ⊢
 simp only at h ⊢
 split at h
 ·contradiction
 rename_i h1
 rw [if_neg h1]
 split at h
 ·cases h
 rename_i h2
 rw [if_neg h2]
 have hk : (1 : Int) ≤ (byteR ⟨s, 0⟩).2.toNat ∧ ((byteR ⟨s, 0⟩).2.toNat : Int) ≤ 4 := by omega
 split at h
 ·rename_i h3
  rw [if_pos h3]
  exact third_fine hk h
 rename_i h3
 rw [if_neg h3]
 split at h
 ·contradiction
 rename_i h4
 rw [if_neg h4]
 split at h
 ·contradiction
 rename_i h5
 rw [if_neg h5]
 have hp := legal_p (Classical.byContradiction h5)
 split
 ·exact first_fine _ _ hk hp _
 ·exact sec_fine _ _ hk hp _
theorem c_elder_read (v : Int) (s : List UInt8) (hs : s.length ≤ 1073741824) (sg) :
    ∃ r, LL.call n_elder_read [.i .i64 v, .s (bs s)] sg sg.length = some r ∧ ∃ im i, r = (.t [im, .i .i64 (elderR v s).1], sg, sg.length) ∧ ImD im i ∧ ((elderR v s).1 = 0 → i = (elderR v s).2) := by
 generalize hT : elderR v s = T
 refine wp_call_ex e_elder_read rfl ?_
 unfold elderR at hT
 by_cases h4 : v = 4
 ·rw [if_pos h4] at hT
  have D1 := c_file_Decode s hs sg
  rw [hT] at D1
  by_cases q : T.1 = 0
  ·simp [q, eImK] at D1
   simp [F_elder_read, h4, D1, q]
   exact imD T.2
  ·simp [q, eImK] at D1
   simp [F_elder_read, h4, D1, q]
   exact ⟨T.2, imD T.2⟩
 ·rw [if_neg h4] at hT
  have h4b : (v == 4) = false := by simp [h4]
  unfold oldR at hT
  simp only at hT
  have M1 := c_crc_Make sg
  have O1 := c_crc_Open s hs (sg ++ [tabO]) sg.length (by simp)
  have hol := openR_len s
  have key : ∀ (b : List UInt8) (sg' : List (List D)), b.length ≤ 1073741824 → ∃ im i, LL.call n_elder_parse [.i .i64 v, .s (bs (b.drop 5))] sg' sg'.length = some (.t [im, .i .i64 (parseR v (b.drop 5)).1], sg', sg'.length) ∧ ImD im i ∧ ((parseR v (b.drop 5)).1 = 0 → i = (parseR v (b.drop 5)).2) := by
   intro b sg' hb
   obtain ⟨r, P1, im, i, rfl, P2, P3⟩ := c_elder_parse v (b.drop 5) (by simp; omega) sg'
   exact ⟨im, i, P1, P2, P3⟩
  simp at M1 O1
  have w5 : ∀ b : List UInt8, b.length ≤ 1073741824 → (if (5 : Int) < b.length then (5 : Int) else b.length) = ((min b.length 5 : Nat) : Int) := fun b _ => by split <;> omega
  by_cases q1 : 1 < v
  ·rw [if_pos q1] at hT
   by_cases q2 : (openR s).2 = 0
   ·rw [if_neg (by simpa using q2)] at hT
    have q2b : ((openR s).2 != 0) = false := by simp [q2]
    generalize (openR s).1 = b at *
    obtain ⟨im, i, P1, P2, P3⟩ := key b (sg ++ [tabO]) (by omega)
    have hd5 : List.drop (min b.length 5) b = List.drop 5 b := by
     rcases Nat.le_total b.length 5 with h | h
     ·rw [Nat.min_eq_left h, List.drop_length, List.drop_of_length_le h]
     ·rw [Nat.min_eq_right h]
    have hm5 : ((min b.length 5 : Nat) : Int) ≤ b.length := by omega
    have C1 := fun ho => c_image_Image_Check i ho (sg ++ [tabO])
    generalize hPe : parseR v (b.drop 5) = P at *
    simp at P1 C1
    by_cases q3 : P.1 = 0
    ·rw [if_neg (by simpa using q3)] at hT
     obtain rfl := P3 q3
     have hok := (parse_fine (v := v) (s := b.drop 5) (by rw [hPe]; exact q3)).ok
     rw [hPe] at hok
     have C1 := C1 hok
     simp [q3] at P1
     simp [eIm] at C1
     subst hT
     simp [F_elder_read, h4b, q1, M1, O1, q2b, w5 b (by omega), hd5, hm5, P1, P2.cp, eIm, C1]
     exact ⟨_, imD P.2, fun _ => rfl⟩
    ·rw [if_pos q3] at hT
     have q3b : (P.1 == 0) = false := by simp [q3]
     subst hT
     simp [F_elder_read, h4b, q1, M1, O1, q2b, w5 b (by omega), hd5, hm5, P1, P2.cp, q3b, eIm]
     exact ⟨_, imD i, fun h => absurd h q3⟩
   ·rw [if_pos q2] at hT
    have q2b : ((openR s).2 != 0) = true := by simp [q2]
    subst hT
    simp [F_elder_read, h4b, q1, M1, O1, q2b]
    exact ⟨_, imD_oo zeroI, fun h => absurd h q2⟩
  ·rw [if_neg q1] at hT
   obtain ⟨im, i, P1, P2, P3⟩ := key s sg (by omega)
   have hd5 : List.drop (min s.length 5) s = List.drop 5 s := by
    rcases Nat.le_total s.length 5 with h | h
    ·rw [Nat.min_eq_left h, List.drop_length, List.drop_of_length_le h]
    ·rw [Nat.min_eq_right h]
   have hm5 : ((min s.length 5 : Nat) : Int) ≤ s.length := by omega
   have C1 := fun ho => c_image_Image_Check i ho sg
   generalize hPe : parseR v (s.drop 5) = P at *
   simp at P1 C1 hT
   by_cases q3 : P.1 = 0
   ·rw [if_pos q3] at hT
    obtain rfl := P3 q3
    have hok := (parse_fine (v := v) (s := s.drop 5) (by rw [hPe]; exact q3)).ok
    rw [hPe] at hok
    have C1 := C1 hok
    simp [q3] at P1
    simp [eIm] at C1
    subst hT
    simp [F_elder_read, h4b, q1, w5 s (by omega), hd5, hm5, P1, P2.cp, eIm, C1]
    exact ⟨_, imD P.2, fun _ => rfl⟩
   ·rw [if_neg q3] at hT
    have q3b : (P.1 == 0) = false := by simp [q3]
    subst hT
    simp [F_elder_read, h4b, q1, w5 s (by omega), hd5, hm5, P1, P2.cp, q3b, eIm]
    exact ⟨_, imD i, fun h => absurd h q3⟩
end Go.AM

namespace Go.AM
def readV (s : List UInt8) : Int × Int × Im :=
 if (verI s).2 ≠ 0 then (0, (verI s).2, zeroI) else if (elderR (verI s).1 s).1 ≠ 0 then (0, (elderR (verI s).1 s).1, zeroI) else ((verI s).1, 0, (elderR (verI s).1 s).2)
theorem c_elder_Read (s : List UInt8) (hs : s.length ≤ 1073741824) (sg) :
    LL.call n_elder_Read [.s (bs s)] sg sg.length = some (.t [if (readV s).2.1 = 0 then eIm (readV s).2.2 else eImK .o .z .o (readV s).2.2, .i .i64 (readV s).1, .i .i64 (readV s).2.1], sg, sg.length) := by
 generalize hT : readV s = T
 refine wp_call e_elder_Read rfl ?_
 have V1 := c_elder_Version s (by omega) sg
 unfold readV at hT
 generalize verI s = V at *
 obtain ⟨v, e⟩ := V
 simp only at hT V1
 by_cases q1 : e = 0
 ·rw [if_neg (by simpa using q1)] at hT
  have q1b : (e != 0) = false := by simp [q1]
  obtain ⟨r, R1, im, i, rfl, R2, R3⟩ := c_elder_read v s hs sg
  generalize elderR v s = E at *
  by_cases q2 : E.1 = 0
  ·rw [if_neg (by simpa using q2)] at hT
   have q2b : (E.1 != 0) = false := by simp [q2]
   obtain rfl := R3 q2
   subst hT
   simp [F_elder_Read, V1, q1b, R1, R2.cp, q2b, eIm]
  ·rw [if_pos q2] at hT
   have q2b : (E.1 != 0) = true := by simp [q2]
   subst hT
   simp [F_elder_Read, V1, q1b, R1, R2.cp, q2b, eIm, q2, eImK, zeroI]
 ·rw [if_pos q1] at hT
  have q1b : (e != 0) = true := by simp [q1]
  subst hT
  simp [F_elder_Read, V1, q1b, q1, eImK, zeroI]
end Go.AM

namespace Go.AM
theorem leV_fixB4 {n : Nat} (h : n < 4294967296) : leV (fixB n 4) = n := leV_fixB 4 n (by simpa using h)
theorem take_app_len {α : Type} {a : List α} {n : Nat} (h : a.length = n) (b : List α) : (a ++ b).take n = a := by subst h; simp
theorem drop_app_len {α : Type} {a : List α} {n : Nat} (h : a.length = n) (b : List α) : (a ++ b).drop n = b := by subst h; simp
theorem wholeR4_fix {n : Nat} (h : n < 4294967296) (r : List UInt8) : wholeR ⟨fixB n 4 ++ r, 0⟩ 4 = (⟨r, 0⟩, n) := by
 rw [wholeR4_long (by simp [fixB_len]), take_app_len (fixB_len n 4), drop_app_len (fixB_len n 4), leV_fixB4 h]
theorem bodyB_len (x : Im) : (bodyB x).length = 37 + (metaB x).length + (dataB x).length := by
 simp [bodyB, fixB_len, entB_len]; omega
theorem encB_len (x : Im) : (encB x).length = 41 + (metaB x).length + (dataB x).length := by
 unfold encB sealB; rw [List.length_append, bodyB_len, fixB_len]; omega
theorem openR_seal (b : List UInt8) : openR (sealB b) = (b, 0) := by
 unfold openR sealB
 have hl : (b ++ fixB (sumN b) 4).length = b.length + 4 := by simp [fixB_len]
 rw [hl, if_neg (by omega), show b.length + 4 - 4 = b.length by omega, drop_app_len rfl, take_app_len rfl, leV_fixB4 (sumN_lt b), if_neg (by simp)]
theorem openR_inv {s al : List UInt8} (h : openR s = (al, 0)) : s = sealB al := by
 unfold openR at h
 split at h
 ·simp at h
 rename_i h4
 split at h
 ·simp at h
 rename_i h5
 simp only [ne_eq, Decidable.not_not] at h5
 simp only [Prod.mk.injEq, and_true] at h
 unfold sealB
 rw [← h, ← h5]
 have := fixB_leV (s.drop (s.length - 4))
 rw [show (s.drop (s.length - 4)).length = 4 by simp; omega] at this
 rw [this, List.take_append_drop]
theorem encB_head (x : Im) : ∃ r, encB x = [67, 82, 89, 79] ++ (4 :: UInt8.ofNat x.k.toNat :: (fixB (41 + (metaB x).length + (dataB x).length) 4 ++ r)) := by
 refine ⟨([2] ++ (entB 1 37 (metaB x) ++ (entB 2 (37 + (metaB x).length) (dataB x) ++ (metaB x ++ dataB x)))) ++ fixB (sumN (bodyB x)) 4, ?_⟩
 show bodyB x ++ fixB (sumN (bodyB x)) 4 = _
 generalize fixB (sumN (bodyB x)) 4 = q
 simp [bodyB]
theorem hd0_enc {x : Im} (hl : 41 + (metaB x).length + (dataB x).length ≤ 65536) : hd0 (encB x) = 0 := by
 obtain ⟨r, hr⟩ := encB_head x
 have hlen := encB_len x
 generalize 41 + (metaB x).length + (dataB x).length = n at *
 generalize encB x = s at *
 subst hr
 unfold hd0
 rw [take_app_len (show ([67, 82, 89, 79] : List UInt8).length = 4 from rfl), if_neg (by simp [magic]), if_neg (by omega), drop_app_len (show ([67, 82, 89, 79] : List UInt8).length = 4 from rfl)]
 simp only
 rw [if_neg (by decide), if_neg (by simp [fixB_len]), take_app_len (fixB_len n 4), leV_fixB4 (by omega), if_neg (by omega), if_neg (by omega)]
theorem rowR_ent {id at_ : Nat} (hi : id < 256) (ha : at_ < 4294967296) {s : List UInt8} (hs : s.length < 4294967296) (r : List UInt8) : rowR ⟨entB id at_ s ++ r, 0⟩ = ⟨⟨r, 0⟩, UInt8.ofNat id, at_, s.length, sumN s⟩ := by
 unfold rowR entB
 rw [List.cons_append, byteR_cons]
 simp only [List.append_assoc]
 rw [wholeR4_fix ha]
 simp only
 rw [wholeR4_fix hs]
 simp only
 rw [wholeR4_fix (sumN_lt s)]
theorem sctR_body {x : Im} (hl : 41 + (metaB x).length + (dataB x).length ≤ 65536) : sctR (bodyB x) (bytesR ⟨bodyB x, 0⟩ 10).1 = (0, [(1, metaB x), (2, dataB x)]) := by
 have hlen := bodyB_len x
 obtain ⟨p, hp, hpl⟩ : ∃ p, bodyB x = p ++ (2 :: (entB 1 37 (metaB x) ++ (entB 2 (37 + (metaB x).length) (dataB x) ++ (metaB x ++ dataB x)))) ∧ p.length = 10 := by
  refine ⟨[67, 82, 89, 79] ++ ([4, UInt8.ofNat x.k.toNat] ++ fixB (41 + (metaB x).length + (dataB x).length) 4), ?_, by simp [fixB_len]⟩
  unfold bodyB; simp only [List.append_assoc, List.cons_append, List.nil_append]
 have hbt : (bytesR ⟨bodyB x, 0⟩ 10).1 = ⟨(bodyB x).drop 10, 0⟩ := by
  unfold bytesR; rw [if_neg (by simp), if_neg (by simp; omega)]; rfl
 have hm : partR (bodyB x) 37 (metaB x).length = metaB x := by
  obtain ⟨q, hq, hql⟩ : ∃ q, bodyB x = q ++ (metaB x ++ dataB x) ∧ q.length = 37 := by
   refine ⟨p ++ (2 :: (entB 1 37 (metaB x) ++ entB 2 (37 + (metaB x).length) (dataB x))), ?_, by simp [hpl, entB_len]⟩
   rw [hp]; simp only [List.append_assoc, List.cons_append]
  unfold partR
  rw [hq, ← List.append_assoc, take_app_len (by simp [hql]), drop_app_len hql]
 have hd : partR (bodyB x) (37 + (metaB x).length) (dataB x).length = dataB x := by
  obtain ⟨q, hq, hql⟩ : ∃ q, bodyB x = q ++ dataB x ∧ q.length = 37 + (metaB x).length := by
   refine ⟨p ++ (2 :: (entB 1 37 (metaB x) ++ (entB 2 (37 + (metaB x).length) (dataB x) ++ metaB x))), ?_, by simp [hpl, entB_len]; omega⟩
   rw [hp]; simp only [List.append_assoc, List.cons_append]
  unfold partR
  rw [List.take_of_length_le (by omega), hq, drop_app_len hql]
 rw [hbt, hp, drop_app_len hpl, ← hp]
 unfold sctR
 rw [byteR_cons]
 simp only
 rw [if_neg (by simp), if_neg (by decide)]
 rw [rowsR_succ, rowR_ent (by omega) (by omega) (by omega)]
 have e1 : rowE (bodyB x) ⟨⟨entB 2 (37 + (metaB x).length) (dataB x) ++ (metaB x ++ dataB x), 0⟩, UInt8.ofNat 1, 37, (metaB x).length, sumN (metaB x)⟩ 0 37 = 0 := by
  unfold rowE
  simp only
  rw [if_neg (by simp), if_neg (by simp), if_neg (by omega), hm, if_neg (by simp)]
 rw [e1, if_neg (by simp)]
 simp only
 rw [rowsR_succ, rowR_ent (by omega) (by omega) (by omega)]
 have e2 : rowE (bodyB x) ⟨⟨metaB x ++ dataB x, 0⟩, UInt8.ofNat 2, 37 + (metaB x).length, (dataB x).length, sumN (dataB x)⟩ 1 (37 + (metaB x).length) = 0 := by
  unfold rowE
  simp only
  rw [if_neg (by simp), if_neg (by simp), if_neg (by omega), hd, if_neg (by simp)]
 rw [e2, if_neg (by simp)]
 unfold rowsR
 simp only [hm, hd]
 rw [if_neg (by omega)]
 rfl
theorem kindF_enc (x : Im) : kindF (encB x) = ((UInt8.ofNat x.k.toNat).toNat : Int) := by
 obtain ⟨r, hr⟩ := encB_head x
 unfold kindF
 rw [hr]; rfl
theorem decR_enc {x : Im} (h : x.rd) (hc : checkI x = 0) (hl : 41 + (metaB x).length + (dataB x).length ≤ 65536) : decR (encB x) = (0, x) := by
 have hk := h.k
 have ho : openR (encB x) = (bodyB x, 0) := openR_seal _
 have hkf : kindF (encB x) = x.k := by rw [kindF_enc, ofNat_toNat' (by omega)]; omega
 unfold decR
 rw [hd0_enc hl, ho, hkf]
 simp only [sctR_body hl, readS_of h, hc]
 simp
end Go.AM

namespace Go.AM
def ImR (d : D) (i : Im) : Prop := ∃ K1 K3, (K1 = .z ∨ K1 = .o) ∧ (K3 = .z ∨ K3 = .o) ∧ d = eRmK K1 .z K3 i
theorem ImR.cp {d : D} {i : Im} (h : ImR d i) : d.cp = some (eRm i) := by
 obtain ⟨K1, K3, h1, h3, rfl⟩ := h
 rcases h1 with rfl | rfl <;> rcases h3 with rfl | rfl <;> simp [eRmK, eRm] <;> rfl
theorem imR (i : Im) : ImR (eRm i) i := ⟨.z, .z, .inl rfl, .inl rfl, rfl⟩
theorem imR_oo (i : Im) : ImR (eRmK .o .z .o i) i := ⟨.o, .o, .inr rfl, .inr rfl, rfl⟩
theorem c_ref21_end (x : Oc) (hx : x.ok) (sg) : LL.call n_c_ref21_end [eRn x] sg sg.length = some (.i .i64 (endR x).e, sg, sg.length) := by
 refine wp_call e_c_ref21_end rfl ?_
 by_cases h1 : x.e = 0
 ·have h1b : (x.e == 0) = true := by simp [h1]
  by_cases h2 : 0 < x.s.length
  ·simp [F_c_ref21_end, eRn, h1b, h2, endR, h1, failR]
  ·simp [F_c_ref21_end, eRn, h1b, h2, endR, h1]
 ·have h1b : (x.e == 0) = false := by simp [h1]
  simp [F_c_ref21_end, eRn, h1b, endR, h1]
theorem c_ref21_signed (n : Nat) (h : n < 18446744073709551616) (sg) : LL.call n_c_ref21_signed [.i .u64 n] sg sg.length = some (.i .i64 (s64 n), sg, sg.length) := by
 refine wp_call e_c_ref21_signed rfl ?_
 by_cases h1 : (9223372036854775808 : Int) ≤ n
 ·have w1 : IntKind.u64.wrap (18446744073709551615 - (n : Int)) = 18446744073709551615 - n := wrapu64 (by omega)
  have w2 : IntKind.i64.wrap (18446744073709551615 - (n : Int)) = 18446744073709551615 - n := wrap64 (by omega)
  have w3 : IntKind.i64.wrap (-(18446744073709551615 - (n : Int))) = -(18446744073709551615 - n) := wrap64 (by omega)
  have w4 : IntKind.i64.wrap (-(18446744073709551615 - (n : Int)) - 1) = s64 n := by rw [wrap64 (by omega)]; unfold s64; rw [if_neg (by omega)]; omega
  simp [F_c_ref21_signed, h1, w1, w2, w3, w4]
 ·have w1 : IntKind.i64.wrap (n : Int) = s64 n := wrap_s64 h
  simp [F_c_ref21_signed, h1, w1]
end Go.AM

namespace Go.AM
theorem c_ref04_Make (b : Nat) (v : Int) (hb : b < 18446744073709551616) (sg) : LL.call n_c_ref04_Make [.i .u64 b, .i .i64 v] sg sg.length = some (eR (itE b v), sg, sg.length) := by
 refine wp_call e_c_ref04_Make rfl ?_
 have C := c_ref03_Bits b hb sg
 simp [F_c_ref04_Make, C, itE]
theorem c_ref04_Sorted (l : List It) (hn : l.length < 1000000) (h : ∀ x ∈ l, x.ok) (sg) : LL.call n_c_ref04_Sorted [.l .z 2 (l.map eR)] sg sg.length = some (.l .o 2 ((withs (l.map It.canon) []).map eR), sg, sg.length) := by
 generalize hT : withs (l.map It.canon) [] = T
 refine wp_call e_c_ref04_Sorted rfl ?_
 simp [F_c_ref04_Sorted]
 refine wc_list l (fun i (a : List It) => ⟨[(3, .v (.l .o 2 (a.map eR))), (7, .v (.l .z 2 (l.map eR))), (8, .v (.i .i64 l.length)), (9, .v (.i .i64 i))], [], sg, sg.length⟩)
  (fun rest a => withs (rest.map It.canon) a = T ∧ a.length + rest.length = l.length ∧ ∀ x ∈ a, x.ok) ?_ ?_ [] ⟨hT, by simp, by simp⟩
 ·rintro i y rest a hi hlt ⟨h1, h2, h3⟩ ih
  simp at h2
  have hy := h _ (mem_of_get hi)
  have w1 : IntKind.i64.wrap ((i : Int) + 1) = (i : Int) + 1 := wrap64 (by omega)
  have hlt' : (i : Int) < l.length := by omega
  have M := c_ref04_Make y.p y.v hy.1 sg
  have W := c_ref04_With y.canon a ⟨canon_lt hy.1, hy.2⟩ h3 (by omega) sg
  simp [itE] at M W
  have ih := ih (withI y.canon a) ⟨by simpa [withs] using h1, by rw [withI_len]; omega, fun x hx => by
   rcases List.mem_cons.1 ((withI_perm y.canon a).mem_iff.1 hx) with rfl | hx
   ·exact ⟨canon_lt hy.1, hy.2⟩
   ·exact h3 x hx⟩
  simp [It.canon] at W ih
  simp [hlt', hi, w1, M, W]
  exact ih
 ·rintro a ⟨h1, h2, h3⟩
  simp [withs] at h1
  subst h1
  simp
theorem c_ref21_first (k p : Int) (hk : 1 ≤ k ∧ k ≤ 4) (hp : 1 ≤ p ∧ p ≤ 16) (x : Oc) (hx : x.ok) (sg) :
    ∃ r, LL.call n_c_ref21_first [eRmK .o .z .o ⟨k, p, 0, [], []⟩, eRn x] sg sg.length = some r ∧ ∃ im, r = (.t [im, .i .i64 (firstR k p x).1], sg, sg.length) ∧
     ∃ i, ImR im i ∧ ((firstR k p x).1 = 0 → i = ⟨k, p, 0, (firstR k p x).2.1, (firstR k p x).2.2⟩) := by
 refine wp_call_ex e_c_ref21_first rfl ?_
 obtain ⟨n, rfl⟩ : ∃ n : Nat, p = n := ⟨p.toNat, by omega⟩
 have hn1 : 0 < n := by omega
 by_cases k2 : 2 < k
 ·have W := c_ref01_WholeK x hx 8 (Nat.le_refl _) sg
  have ho := wholeR_ok hx 8
  have hend := c_ref21_end _ ho sg
  have hle := totalR_le (x := x)
  unfold firstR
  rw [if_neg (by omega)]
  unfold totalR at hle ⊢
  have hcc : ((8 : Nat) : Int) = 8 := rfl
  rw [hcc] at W
  generalize (wholeR x 8).1 = y at *
  generalize (wholeR x 8).2 = m at *
  by_cases hbig : y.e = 0 ∧ 1125899906842624 < m
  ·rw [if_pos hbig]
   have hb2 : (1125899906842624 : Int) < m := by omega
   have h1b : (y.e == 0) = true := by simp [hbig.1]
   simp [eRn] at W
   simp [F_c_ref21_first, eRmK, eRn, k2, W, h1b, hb2]
   exact ⟨_, imR_oo ⟨k, n, 0, [], []⟩⟩
  ·rw [if_neg hbig] at hle ⊢
   simp only at hle
   have hw : IntKind.i64.wrap (m : Int) = m := wrap64 (by omega)
   by_cases he : (endR y).e = 0
   ·have h1 := (endR_inv he).1
    have h1b : (y.e == 0) = true := by simp [h1]
    have hb2 : ¬ (1125899906842624 : Int) < m := by omega
    have heb : ((endR y).e != 0) = false := by simp [he]
    simp [eRn] at W hend
    by_cases k3 : k = 3
    ·subst k3
     obtain ⟨c, hc⟩ : ∃ c : Nat → Nat, ∀ i, c i = cntD m n i := ⟨_, fun _ => rfl⟩
     have e0 : evenD m n = (List.range n).map fun i => (c i : Int) := by simp [evenD, hc]
     have e1 : ((n : Int)).toNat = n := rfl
     simp [F_c_ref21_first, eRmK, eRn, W, h1b, hb2, hend, heb, hw, e0, e1, he]
     refine wc_up n (fun i => ⟨[(2, .q (.ptr 2 0)), (4, .q (.ptr 4 0)), (7, .v (.i .u64 m)), (9, .v (.i .i64 i))],
      [(2, [.i .i64 3, .i .i64 n, .i .u64 0, .l .o 1 [], .l .o 1 (((List.range i).map fun j => (c j : Int)).map (.i .i64))]), (4, [.i .i64 0, .i .i64 0, .i .u64 0, .l .o 1 [], .l .o 1 []])], sg, sg.length⟩) (fun _ => True) ?_ ?_ 0 (by omega) trivial
     ·intro i hi _ ih
      have ih := ih trivial
      have hi' : (i : Int) < n := by omega
      have w : IntKind.i64.wrap ((i : Int) + 1) = (i : Int) + 1 := wrap64 (by omega)
      obtain ⟨p, hp⟩ : ∃ p, p = m + (n - 1 - i) := ⟨_, rfl⟩
      have e2 : IntKind.i64.wrap (IntKind.i64.wrap (IntKind.i64.wrap ((m : Int) + n) - 1) - i) = (p : Int) := by
       rw [wrap64 (x := (m : Int) + n) (by omega), wrap64 (x := (m : Int) + n - 1) (by omega), wrap64 (x := (m : Int) + n - 1 - i) (by omega)]; omega
      have e3 : (p : Int).tdiv n = (c i : Int) := by rw [hc, ← cntD_eq hi, ← hp, Int.tdiv_eq_ediv_of_nonneg (by omega)]; rfl
      have hcl : c i ≤ m := by rw [hc]; exact cntD_le m n i hi
      have e4 : IntKind.i64.wrap (c i : Int) = c i := wrap64 (by omega)
      have hn0 : ¬ n = 0 := by omega
      rw [List.range_succ, List.map_append, List.map_append] at ih
      simp [hi, hi', hw, e2, e3, e4, w, hn0]
      refine ⟨by omega, ?_⟩
      simpa using ih
     ·intro _
      have hI := imR_oo ⟨3, n, 0, [], (List.range n).map fun j => (c j : Int)⟩
      simp [eRmK] at hI
      simp [he]
      rw [e0]
      exact hI
    ·have k3b : (k == 3) = false := by simp [k3]
     simp [F_c_ref21_first, eRmK, eRn, k2, W, h1b, hb2, hend, heb, hw, k3b, he, k3]
     exact imR_oo ⟨k, n, 0, [], [(m : Int)]⟩
   ·have heb : ((endR y).e != 0) = true := by simp [he]
    simp [eRn] at W hend
    by_cases h1 : y.e = 0
    ·have h1b : (y.e == 0) = true := by simp [h1]
     have hb2 : ¬ (1125899906842624 : Int) < m := by omega
     simp [F_c_ref21_first, eRmK, eRn, k2, W, h1b, hb2, hend, heb]
     exact ⟨_, imR_oo ⟨k, n, 0, [], []⟩, fun h => absurd h he⟩
    ·have h1b : (y.e == 0) = false := by simp [h1]
     simp [F_c_ref21_first, eRmK, eRn, k2, W, h1b, hend, heb]
     exact ⟨_, imR_oo ⟨k, n, 0, [], []⟩, fun h => absurd h he⟩
 ·have W := c_ref01_WholeK x hx 4 (by omega) sg
  have ho := wholeR_ok hx 4
  have hwn := wholeR4_lt x
  have hw0 := wholeR_e0 (x := x) (n := 4)
  obtain ⟨i1, i2⟩ := flatR_items x
  unfold firstR
  rw [if_pos (by omega)]
  unfold flatR at i1 i2 ⊢
  have hcc : ((4 : Nat) : Int) = 4 := rfl
  rw [hcc] at W
  generalize (wholeR x 4).1 = y0 at *
  generalize (wholeR x 4).2 = m at *
  simp [eRn] at W
  by_cases hbig : y0.e = 0 ∧ 1000 < m
  ·rw [if_pos hbig] at i1 i2 ⊢
   have hb2 : (1000 : Int) < m := by omega
   have h1b : (y0.e == 0) = true := by simp [hbig.1]
   simp [F_c_ref21_first, eRmK, eRn, k2, W, h1b, hb2]
   exact ⟨_, imR_oo ⟨k, n, 0, [], []⟩⟩
  ·rw [if_neg hbig] at i1 i2 ⊢
   have hm1 : m ≤ 1000 := by
    by_cases h : y0.e = 0
    ·omega
    ·rw [hw0 h]; omega
   have hb2 : ¬ (1000 : Int) < m := by omega
   have hb3 : ¬ 1000 < m := by omega
   generalize hR : flatG m y0 [] = R at *
   generalize hFR : (if R.1.e ≠ 0 then (R.1.e, ([] : List It)) else ((endR R.1).e, R.2)) = fr at *
   by_cases h1 : y0.e = 0
   case' pos => have h1b : (y0.e == 0) = true := by simp [h1]
                simp [F_c_ref21_first, eRmK, eRn, k2, W, h1b, hb2, hb3]
   case' neg => have h1b : (y0.e == 0) = false := by simp [h1]
                simp [F_c_ref21_first, eRmK, eRn, k2, W, h1b]
   all_goals
    refine wc_inde (fun t : Nat × Oc × List It => ⟨[(2, .q (.ptr 2 0)), (4, .q (.ptr 4 0)), (10, .q (.ptr 10 0)), (11, .v (.i .u64 m)), (12, .v (.l .o 2 (t.2.2.map eR))), (13, .v (.i .u64 t.1))],
     [(2, [.i .i64 k, .i .i64 n, .i .u64 0, .l .o 1 [], .l .o 1 []]), (4, [.i .i64 0, .i .i64 0, .i .u64 0, .l .o 1 [], .l .o 1 []]), (10, [.s (bs t.2.1.s), .i .i64 t.2.1.e])], sg, sg.length⟩) (fun t => m - t.1)
     (fun t => t.1 ≤ m ∧ ((R = flatG (m - t.1) t.2.1 t.2.2 ∧ (t.1 < m → t.2.1.e = 0)) ∨ (t.2.1.e ≠ 0 ∧ R.1 = t.2.1)) ∧ t.2.1.ok ∧ t.2.2.length ≤ t.1) (0, y0, []) (by simp) ⟨by simp, .inl ⟨hR.symm, fun h => ?_⟩, ho, by simp⟩ ?_
    ·exact Classical.byContradiction fun h' => by rw [hw0 h'] at h; simp at h
    rintro ⟨i, y, acc⟩ ⟨g1, g2, g3, g4⟩ ih
    simp only at g1 g2 g3 g4
    have W1 := c_ref01_WholeK y g3 8 (Nat.le_refl _) sg
    have W2 := c_ref01_WholeK (wholeR y 8).1 (wholeR_ok g3 8) 8 (Nat.le_refl _) sg
    have lt1 := wholeR_lt y
    have lt2 := wholeR_lt (wholeR y 8).1
    have S1 := c_ref21_signed (wholeR (wholeR y 8).1 8).2 lt2 sg
    have M1 := c_ref04_Make (wholeR y 8).2 (s64 (wholeR (wholeR y 8).1 8).2) lt1 sg
    have E1 := c_ref21_end y g3 sg
    simp [eRn] at W1 W2 S1 M1 E1
    by_cases hc : i < m ∧ y.e = 0
    ·obtain ⟨hi, hy⟩ := hc
     have hi' : (i : Int) < m := by omega
     have hyb : (y.e == 0) = true := by simp [hy]
     have w1 : IntKind.u64.wrap ((i : Int) + 1) = i + 1 := wrapu64 (by omega)
     have hacc : (acc.length + 1) * 16 ≤ 140737488355328 := by omega
     rcases g2 with ⟨g2, g5⟩ | ⟨g2, g5⟩
     ·obtain ⟨q, hq⟩ : ∃ q, m - i = q + 1 := ⟨m - i - 1, by omega⟩
      have hq2 : m - (i + 1) = q := by omega
      rw [hq, flatG_succ] at g2
      have ih := ih (i + 1, (wholeR (wholeR y 8).1 8).1, acc ++ [itE (wholeR y 8).2 (s64 (wholeR (wholeR y 8).1 8).2)]) (by simp; omega) ⟨hi, by
       by_cases h2 : (wholeR (wholeR y 8).1 8).1.e = 0
       ·rw [if_neg (by simpa using h2)] at g2
        exact .inl ⟨by rw [g2, hq2], fun _ => h2⟩
       ·rw [if_pos h2] at g2
        exact .inr ⟨h2, by rw [g2]⟩, wholeR_ok (wholeR_ok g3 _) _, by simp; omega⟩
      simp at ih
      simp [hi, hi', hyb, W1, W2, S1, M1, w1, hacc]
      exact ih
     ·exact absurd hy g2
    ·have hfr : fr.1 = (endR y).e ∧ (fr.1 = 0 → fr.2 = acc) := by
      rcases g2 with ⟨g2, g5⟩ | ⟨g2, g5⟩
      ·have : ¬ i < m := fun h => hc ⟨h, g5 h⟩
       rw [show m - i = 0 by omega] at g2
       have g2' : R = (y, acc) := g2
       subst g2'
       by_cases h2 : y.e = 0
       ·rw [if_neg (by simpa using h2)] at hFR
        subst hFR
        exact ⟨rfl, fun _ => rfl⟩
       ·rw [if_pos h2] at hFR
        subst hFR
        rw [endR_stay h2]
        exact ⟨rfl, fun h => absurd h h2⟩
      ·rw [g5, if_pos g2] at hFR
       subst hFR
       rw [endR_stay g2]
       exact ⟨rfl, fun h => absurd h g2⟩
     obtain ⟨fe, fl⟩ := fr
     simp only at hfr i1 i2 ⊢
     obtain ⟨f1, f2⟩ := hfr
     rw [← f1] at E1
     by_cases hi : i < m
     case' pos => have hi' : (i : Int) < m := by omega
                  have hyb : (y.e == 0) = false := by
                   simp; exact fun h => hc ⟨hi, h⟩
                  simp [hi, hi', hyb, E1]
     case' neg => have hi' : ¬ (i : Int) < m := by omega
                  simp [hi, hi', E1]
     all_goals
      by_cases hfe : fe = 0
      ·have hl := f2 hfe
       subst hl
       subst hfe
       by_cases hk2 : k = 2
       ·simp [hk2]
        exact imR_oo ⟨2, n, 0, [fl], []⟩
       ·have hk1 : k = 1 := by omega
        have w62 : IntKind.i64.wrap (62 * (n : Int)) = n * 62 := by rw [wrap64 (by omega)]; omega
        by_cases hl : (n : Int) * 62 < fl.length
        ·simp [hk1, w62, hl]
         exact ⟨_, imR_oo ⟨1, n, 0, [], []⟩⟩
        ·have So := c_ref04_Sorted fl (by omega) (fun x hx => (i2 x hx).1) sg
         rw [withs_sort _ (fun x hx => by
          obtain ⟨y, hy, rfl⟩ := List.mem_map.1 hx
          rw [(i2 y hy).2]; exact i2 y hy)] at So
         have hsl : (sortI (fl.map It.canon)).length = fl.length := by rw [sortI_len, List.length_map]
         generalize hs : sortI (fl.map It.canon) = is at *
         try simp at So
         have hdl : dealD is n = dealO is n is.length := by unfold dealD; rw [if_pos (by omega)]; rfl
         simp [hk1, w62, hl, So, hdl]
         generalize hr : dealO is n is.length = r
         obtain ⟨F, hF⟩ : ∃ F : Nat → List It, ∀ i, F i = (List.range (cntD is.length n i)).map fun j => is[i + j * n]! := ⟨_, fun _ => rfl⟩
         have hrr : r = (List.range n).map F := by
          rw [← hr, dealO]
          exact List.map_congr_left (fun i _ => (hF i).symm)
         refine wc_up n (fun i => ⟨[(2, .q (.ptr 2 0)), (4, .q (.ptr 4 0)), (12, .v (.l .o 2 (is.map eR))), (19, .v (.i .i64 i))],
          [(2, [.i .i64 1, .i .i64 n, .i .u64 0, .l .o 1 ((List.range i).map (fun j => eL 2 eR (F j))), .l .o 1 []]), (4, [.i .i64 0, .i .i64 0, .i .u64 0, .l .o 1 [], .l .o 1 []])], sg, sg.length⟩) (fun _ => True) ?_ ?_ 0 (by omega) trivial
         ·intro i hi _ ih
          have ih := ih trivial
          have hi' : (i : Int) < n := by omega
          have w : IntKind.i64.wrap ((i : Int) + 1) = (i : Int) + 1 := wrap64 (by omega)
          obtain ⟨G, hG⟩ : ∃ G : Nat → It, ∀ j, G j = is[i + j * n]! := ⟨_, fun _ => rfl⟩
          obtain ⟨c, hc⟩ : ∃ c, c = cntD is.length n i := ⟨_, rfl⟩
          have hcl : c ≤ is.length := by rw [hc]; exact cntD_le is.length n i hi
          have hFi : F i = (List.range c).map G := by rw [hF, hc]; exact List.map_congr_left (fun j _ => (hG j).symm)
          simp [hi]
          refine wc_up c (fun t => ⟨[(2, .q (.ptr 2 0)), (4, .q (.ptr 4 0)), (12, .v (.l .o 2 (is.map eR))), (19, .v (.i .i64 i)), (20, .v (.l .o 2 ((List.range t).map (fun j => eR (G j))))), (21, .v (.i .i64 ((i + n * t : Nat) : Int)))],
           [(2, [.i .i64 1, .i .i64 n, .i .u64 0, .l .o 1 ((List.range i).map (fun j => eL 2 eR (F j))), .l .o 1 []]), (4, [.i .i64 0, .i .i64 0, .i .u64 0, .l .o 1 [], .l .o 1 []])], sg, sg.length⟩) (fun _ => True) ?_ ?_ 0 (by omega) trivial
          ·intro t ht _ ih2
           have ih2 := ih2 trivial
           have hz := cntD_lt hi is.length t (by rw [← hc]; exact ht)
           obtain ⟨z, hzz⟩ : ∃ z, z = i + n * t := ⟨_, rfl⟩
           have hz2 : i + n * (t + 1) = z + n := by rw [hzz, Nat.mul_add]; omega
           have hz3 : i + t * n = z := by rw [hzz, Nat.mul_comm]
           have w2 : IntKind.i64.wrap ((z : Int) + n) = ((z + n : Nat) : Int) := by rw [wrap64 (by omega)]; omega
           rw [hz3] at hz
           have hGt : is[z] = G t := by rw [hG, hz3, getElem!_pos is z hz]
           rw [hz2, List.range_succ, List.map_append] at ih2
           rw [← hzz]
           simp [hz, w2, hGt]
           refine ⟨by omega, ?_⟩
           simpa [eL] using ih2
          ·intro _
           have hge := cntD_ge hi is.length
           obtain ⟨z, hzz⟩ : ∃ z, z = i + n * c := ⟨_, rfl⟩
           rw [← hc, Nat.mul_comm c n, ← hzz] at hge
           rw [← hzz]
           have hz : ¬ z < is.length := by omega
           rw [List.range_succ, List.map_append] at ih
           simp [hz, w]
           refine ⟨by omega, ?_⟩
           have hFm : (F i).map eR = (List.range c).map (fun j => eR (G j)) := by rw [hFi]; simp
           simp only [eR] at hFm
           simp [eL] at ih
           rw [hFm] at ih
           exact ih
         ·intro _
          have hI := imR_oo ⟨1, n, 0, r, []⟩
          subst hrr
          simp [eRmK, eLK, Function.comp_def] at hI
          simp [hk1, hl, hdl, hr, Function.comp_def]
          exact hI
      ·have hfb : (fe != 0) = true := by simp [hfe]
       simp [hfb, hfe]
       exact ⟨_, imR_oo ⟨k, n, 0, [], []⟩⟩
end Go.AM

namespace Go.AM
theorem slsG_fst (most n x) : ∀ acc acc', (slsG most n x acc).1 = (slsG most n x acc').1 := by
 induction n generalizing x with
 | zero => intro acc acc'; rfl
 | succ n ih => intro acc acc'; rw [slsG_succ, slsG_succ]; exact ih _ _ _
theorem c_ref21_second (k p : Int) (hk : 1 ≤ k ∧ k ≤ 4) (hp : 1 ≤ p ∧ p ≤ 16) (x : Oc) (hx : x.ok) (sg) :
    ∃ r, LL.call n_c_ref21_second [eRmK .o .z .o ⟨k, p, 0, [], []⟩, eRn x] sg sg.length = some r ∧ ∃ im, r = (.t [im, .i .i64 (secR k p x).1], sg, sg.length) ∧
     ∃ i, ImR im i ∧ ((secR k p x).1 = 0 → i = ⟨k, p, 0, (secR k p x).2.1, (secR k p x).2.2⟩) := by
 refine wp_call_ex e_c_ref21_second rfl ?_
 obtain ⟨n0, rfl⟩ : ∃ n : Nat, p = n := ⟨p.toNat, by omega⟩
 have hs := shape_nat (k := k) (p := (n0 : Int)) hk (by omega)
 have hab : ∃ mo, mo ≤ 1000 ∧ slsG (mostN k) (shapeN k n0).1 x [] = slsG mo (shapeN k n0).1 x [] ∧ (k = 1 ∧ (shapeN k n0).1 = n0 ∧ (shapeN k n0).2 = 0 ∧ mo = 62 ∨ k = 2 ∧ (shapeN k n0).1 = 1 ∧ (shapeN k n0).2 = 0 ∧ mo = 1000 ∨ k = 3 ∧ (shapeN k n0).1 = 0 ∧ (shapeN k n0).2 = n0 ∧ mo = 0 ∨ k = 4 ∧ (shapeN k n0).1 = 0 ∧ (shapeN k n0).2 = 1 ∧ mo = 0) := by
  have : k = 1 ∨ k = 2 ∨ k = 3 ∨ k = 4 := by omega
  rcases this with rfl | rfl | rfl | rfl
  ·exact ⟨62, by omega, rfl, by simp [shapeN, shapeOf]⟩
  ·exact ⟨1000, by omega, rfl, by simp [shapeN, shapeOf]⟩
  ·exact ⟨0, by omega, rfl, by simp [shapeN, shapeOf]⟩
  ·exact ⟨0, by omega, rfl, by simp [shapeN, shapeOf]⟩
 obtain ⟨s1, s2, s3, s4⟩ := hs
 unfold secR
 obtain ⟨mo, hmo, hsl, hab⟩ := hab
 rw [hsl]
 generalize (shapeN k n0).1 = a at *
 generalize (shapeN k n0).2 = b at *
 have w64 : ∀ i : Nat, i < 1000000 → IntKind.u64.wrap ((i : Int) + 1) = i + 1 := fun i hi => wrapu64 (by omega)
 have hnum : ∀ (z : Oc) (m : Nat), z.ok → m < 18446744073709551616 → LL.call n_c_ref01_Number [eRn z, .i .u64 m] sg sg.length = some (.t [eRn (numR z m).1, .i .u64 (numR z m).2], sg, sg.length) := fun z m hz hm => c_ref01_Number z hz m hm sg
 have hlong : ∀ z : Oc, z.ok → LL.call n_c_ref01_Whole [eRn z, .i .i64 8] sg sg.length = some (.t [eRn (wholeR z 8).1, .i .u64 (wholeR z 8).2], sg, sg.length) := fun z hz => c_ref01_WholeK z hz 8 (Nat.le_refl _) sg
 have hint : ∀ z : Oc, z.ok → LL.call n_c_ref01_Signed [eRn z] sg sg.length = some (.t [eRn (signR z).1, .i .i64 (signR z).2], sg, sg.length) := fun z hz => c_ref01_Signed z hz sg
 have hend : ∀ z : Oc, z.ok → LL.call n_c_ref21_end [eRn z] sg sg.length = some (.i .i64 (endR z).e, sg, sg.length) := fun z hz => c_ref21_end z hz sg
 simp [eRn] at hnum hlong hint hend
 generalize hR : slsG mo a x [] = R0
 rcases hab with ⟨hk1, ha, hb, hm⟩ | ⟨hk1, ha, hb, hm⟩ | ⟨hk1, ha, hb, hm⟩ | ⟨hk1, ha, hb, hm⟩
 all_goals
  simp [F_c_ref21_second, eRmK, eRn, hk1]
  refine wc_inde (fun t : Nat × Oc × List (List It) => ⟨[(2, .q (.ptr 2 0)), (3, .q (.ptr 3 0)), (4, .q (.ptr 4 0)), (6, .v (.i .i64 a)), (7, .v (.i .i64 b)), (8, .v (.i .u64 mo)), (9, .v (.i .i64 t.1))],
   [(2, [.i .i64 k, .i .i64 n0, .i .u64 0, .l .o 1 (t.2.2.map (eL 2 eR)), .l .o 1 []]), (3, [.s (bs t.2.1.s), .i .i64 t.2.1.e]), (4, [.i .i64 0, .i .i64 0, .i .u64 0, .l .o 1 [], .l .o 1 []])], sg, sg.length⟩) (fun t => a - t.1)
   (fun t => t.1 ≤ a ∧ R0.1 = (slsG mo (a - t.1) t.2.1 []).1 ∧ (R0.1.e = 0 → R0 = slsG mo (a - t.1) t.2.1 t.2.2) ∧ t.2.1.ok ∧ t.2.2.length ≤ t.1) (0, x, []) (by simp [ha, hb, hm, hk1]) ⟨by simp, by rw [hR.symm]; rfl, fun _ => hR.symm, hx, by simp⟩ ?_
  rintro ⟨i, y, acc⟩ ⟨h1, h2, h3, h4, h5⟩ ih
  simp only at h1 h2 h3 h4 h5
  by_cases hi : i < a
  ·have hi' : (i : Int) < a := by omega
   obtain ⟨m, hm'⟩ : ∃ m, a - i = m + 1 := ⟨a - i - 1, by omega⟩
   have hm2 : a - (i + 1) = m := by omega
   rw [hm', slsG_succ, slsG_fst mo m _ _ []] at h2
   rw [hm', slsG_succ] at h3
   have w1 : IntKind.i64.wrap ((i : Int) + 1) = i + 1 := wrap64 (by omega)
   have hn1 := hnum y mo h4 (by omega)
   have hn2 := numR_le y mo
   have hn3 := numR_ne y mo
   have ho := numR_ok h4 mo
   simp [hi, hi', hn1]
   generalize (numR y mo).1 = y1 at *
   generalize (numR y mo).2 = n at *
   generalize hRi : sitG n y1 [] = R1 at *
   refine wc_inde (fun t : Nat × Oc × List It => ⟨[(2, .q (.ptr 2 0)), (3, .q (.ptr 3 0)), (4, .q (.ptr 4 0)), (6, .v (.i .i64 a)), (7, .v (.i .i64 b)), (8, .v (.i .u64 mo)), (9, .v (.i .i64 i)), (10, .q (.ptr 10 0)), (11, .v (.i .u64 n)), (12, .v (.l .o 2 (t.2.2.map eR))), (13, .v (.i .u64 t.1))],
    [(2, [.i .i64 k, .i .i64 n0, .i .u64 0, .l .o 1 (acc.map (eL 2 eR)), .l .o 1 []]), (3, [.s (bs y.s), .i .i64 y.e]), (4, [.i .i64 0, .i .i64 0, .i .u64 0, .l .o 1 [], .l .o 1 []]), (10, [.s (bs t.2.1.s), .i .i64 t.2.1.e])], sg, sg.length⟩) (fun t => n - t.1)
    (fun t => t.1 ≤ n ∧ ((R1 = sitG (n - t.1) t.2.1 t.2.2 ∧ (t.1 < n → t.2.1.e = 0)) ∨ (t.2.1.e ≠ 0 ∧ R1.1 = t.2.1)) ∧ t.2.1.ok ∧ t.2.2.length ≤ t.1) (0, y1, []) (by simp) ⟨by simp, .inl ⟨hRi.symm, fun h => hn3 (by omega)⟩, ho, by simp⟩ ?_
   rintro ⟨j, z, ac2⟩ ⟨g1, g2, g3, g4⟩ ih2
   simp only at g1 g2 g3 g4
   by_cases hc : j < n ∧ z.e = 0
   ·obtain ⟨hj, hz⟩ := hc
    have hj' : (j : Int) < n := by omega
    have hzb : (z.e == 0) = true := by simp [hz]
    have w2 := w64 j (by omega)
    have hl1 := hlong z g3
    have hl2 := hint _ (wholeR_ok g3 8)
    have M1 := c_ref04_Make (wholeR z 8).2 (signR (wholeR z 8).1).2 (wholeR_lt z) sg
    simp at M1
    have hacc : (ac2.length + 1) * 16 ≤ 140737488355328 := by omega
    rcases g2 with ⟨g2, g5⟩ | ⟨g2, g5⟩
    ·obtain ⟨q, hq⟩ : ∃ q, n - j = q + 1 := ⟨n - j - 1, by omega⟩
     have hq2 : n - (j + 1) = q := by omega
     rw [hq, sitG_succ] at g2
     have ih2 := ih2 (j + 1, (signR (wholeR z 8).1).1, ac2 ++ [itE (wholeR z 8).2 (signR (wholeR z 8).1).2]) (by simp; omega) ⟨hj, by
      by_cases h2 : (signR (wholeR z 8).1).1.e = 0
      ·rw [if_neg (by simpa using h2)] at g2
       exact .inl ⟨by rw [g2, hq2], fun _ => h2⟩
      ·rw [if_pos h2] at g2
       exact .inr ⟨h2, by rw [g2]⟩, signR_ok (wholeR_ok g3 _), by simp; omega⟩
     simp at ih2
     simp [hj, hj', hzb, hl1, hl2, M1, w2, hacc]
     exact ih2
    ·exact absurd hz g2
   ·have hfr : R1.1 = z ∧ (z.e = 0 → R1.2 = ac2) := by
     rcases g2 with ⟨g2, g5⟩ | ⟨g2, g5⟩
     ·have : ¬ j < n := fun h => hc ⟨h, g5 h⟩
      rw [show n - j = 0 by omega] at g2
      have g2' : R1 = (z, ac2) := g2
      rw [g2']
      exact ⟨rfl, fun _ => rfl⟩
     ·exact ⟨g5, fun h => absurd h g2⟩
    obtain ⟨f1, f2⟩ := hfr
    rw [f1] at h2 h3
    have hacc : (acc.length + 1) * 24 ≤ 140737488355328 := by omega
    have ih := ih (i + 1, z, acc ++ [ac2]) (by simp; omega) ⟨hi, by rw [h2, hm2], fun h => by
     have hz : z.e = 0 := Classical.byContradiction fun hz => by
      rw [slsG_stay mo m z [] hz] at h2
      rw [h2] at h; exact hz h
     rw [h3 h, hm2, f2 hz], g3, by simp; omega⟩
    simp [eL] at ih
    by_cases hj : j < n
    ·have hj' : (j : Int) < n := by omega
     have hzb : (z.e == 0) = false := by simp; exact fun h => hc ⟨hj, h⟩
     simp [hj, hj', hzb, w1, hacc]
     exact ih
    ·have hj' : ¬ (j : Int) < n := by omega
     simp [hj, hj', w1, hacc]
     exact ih
  ·have hi' : ¬ (i : Int) < a := by omega
   rw [show a - i = 0 by omega] at h2 h3
   have h2' : R0.1 = y := h2
   have h3' : R0.1.e = 0 → R0 = (y, acc) := h3
   simp [hi, hi']
   generalize hRc : countsG b R0.1 [] = R2
   refine wc_inde (fun t : Nat × Oc × List Int => ⟨[(2, .q (.ptr 2 0)), (3, .q (.ptr 3 0)), (4, .q (.ptr 4 0)), (7, .v (.i .i64 b)), (18, .v (.i .i64 t.1))],
    [(2, [.i .i64 k, .i .i64 n0, .i .u64 0, .l .o 1 (acc.map (eL 2 eR)), .l .o 1 (t.2.2.map (.i .i64))]), (3, [.s (bs t.2.1.s), .i .i64 t.2.1.e]), (4, [.i .i64 0, .i .i64 0, .i .u64 0, .l .o 1 [], .l .o 1 []])], sg, sg.length⟩) (fun t => b - t.1)
    (fun t => t.1 ≤ b ∧ R2 = countsG (b - t.1) t.2.1 t.2.2 ∧ t.2.1.ok ∧ t.2.2.length ≤ t.1) (0, y, []) (by simp) ⟨by simp, by rw [← hRc, h2']; rfl, h4, by simp⟩ ?_
   rintro ⟨j, z, cs⟩ ⟨g1, g2, g3, g4⟩ ih2
   simp only at g1 g2 g3 g4
   by_cases hj : j < b
   ·have hj' : (j : Int) < b := by omega
    obtain ⟨m2, hm3⟩ : ∃ m2, b - j = m2 + 1 := ⟨b - j - 1, by omega⟩
    have hm4 : b - (j + 1) = m2 := by omega
    rw [hm3, countsG_succ] at g2
    have w1 : IntKind.i64.wrap ((j : Int) + 1) = j + 1 := wrap64 (by omega)
    have hn1 := hnum z 1125899906842624 g3 (by omega)
    have hn2 := numR_le z 1125899906842624
    have w2 : IntKind.i64.wrap ((numR z 1125899906842624).2 : Int) = (numR z 1125899906842624).2 := wrap64 (by omega)
    simp at hn1
    have hacc : (cs.length + 1) * 8 ≤ 140737488355328 := by omega
    have ih2 := ih2 (j + 1, (numR z 1125899906842624).1, cs ++ [((numR z 1125899906842624).2 : Int)]) (by simp; omega) ⟨hj, by rw [g2, hm4], numR_ok g3 _, by simp; omega⟩
    simp at ih2
    simp [hj, hj', hn1, w1, w2, hacc]
    exact ih2
   ·have hj' : ¬ (j : Int) < b := by omega
    rw [show b - j = 0 by omega] at g2
    have g2' : R2 = (z, cs) := g2
    subst g2'
    have he := hend z g3
    simp [hj, hj', he]
    refine ⟨_, imR ⟨k, n0, 0, acc, cs⟩, fun h => ?_⟩
    have hz : z.e = 0 := (endR_inv h).1
    have hy : R0.1.e = 0 := Classical.byContradiction fun hy => by
     have := countsG_stay hy b []
     rw [hRc] at this
     rw [← this] at hy
     exact hy hz
    rw [h3' hy]
end Go.AM

namespace Go.AM
def sub_ (s : List UInt8) (i j : Nat) : List UInt8 := (s.take j).drop i
theorem hd0_ix {s : List UInt8} (h1 : s.take 4 = magic) (h2 : ¬ 65536 < s.length) : hd0 s =
    if s.length = 4 then 1 else if ((s[4]?).getD 0).toNat ≠ 4 then 8 else if s.length < 10 then 1 else
    if s.length < leV (sub_ s 6 10) then 1 else if leV (sub_ s 6 10) < s.length then 2 else 0 := by
 have h4 := magic_len h1
 unfold hd0
 rw [if_neg (by simpa using h1), if_neg h2]
 have hl : (s.drop 4).length = s.length - 4 := by simp
 have e4 : s[4]? = (s.drop 4)[0]? := by rw [List.getElem?_drop]
 have e6 : sub_ s 6 10 = ((s.drop 4).drop 2).take 4 := by unfold sub_; rw [List.drop_drop, List.drop_take]
 rw [e4, e6]
 generalize s.drop 4 = r at *
 cases r with
 | nil => simp at hl; rw [if_pos (by omega)]
 | cons v r =>
  simp only [List.length_cons] at hl
  rw [if_neg (by omega)]
  simp only [List.getElem?_cons_zero, Option.getD_some]
  split
  ·rfl
  cases r with
  | nil => simp at hl; simp only; rw [if_pos (by omega)]
  | cons k r =>
   simp only [List.length_cons] at hl
   simp only [List.drop_succ_cons, List.drop_zero]
   by_cases hr : r.length < 4
   ·rw [if_pos hr, if_pos (by omega)]
   ·rw [if_neg hr, if_neg (show ¬ s.length < 10 by omega)]
theorem row_short {r : List UInt8} (h : r.length < 13) : (rowR ⟨r, 0⟩).x.e = 1 := by
 unfold rowR
 cases r with
 | nil => rw [byteR_nil]; simp only; rw [wholeR_fail (by decide)]; simp only; rw [wholeR_fail (by decide)]; simp only; rw [wholeR_fail (by decide)]; rfl
 | cons c r =>
  rw [byteR_cons]
  simp only
  by_cases h1 : r.length < 4
  ·rw [wholeR4_short h1]; simp only; rw [wholeR_fail (by decide)]; simp only; rw [wholeR_fail (by decide)]; rfl
  rw [wholeR4_long h1]
  simp only
  by_cases h2 : (r.drop 4).length < 4
  ·rw [wholeR4_short h2]; simp only; rw [wholeR_fail (by decide)]; rfl
  rw [wholeR4_long h2]
  simp only
  have h3 : ((r.drop 4).drop 4).length < 4 := by simp at h ⊢; omega
  rw [wholeR4_short h3]; rfl
theorem row_long {r : List UInt8} (h : 13 ≤ r.length) : rowR ⟨r, 0⟩ = ⟨⟨r.drop 13, 0⟩, (r[0]?).getD 0, leV (sub_ r 1 5), leV (sub_ r 5 9), leV (sub_ r 9 13)⟩ := by
 unfold rowR sub_
 cases r with
 | nil => simp at h
 | cons c r =>
  simp at h
  rw [byteR_cons]
  simp only
  rw [wholeR4_long (by omega)]
  simp only
  rw [wholeR4_long (by simp; omega)]
  simp only
  rw [wholeR4_long (by simp; omega)]
  simp [List.drop_take]
def rowsX (al : List UInt8) : Nat → Nat → Nat → List (Int × List UInt8) → Int × List (Int × List UInt8)
 | 0, k, next, l => (if next ≠ al.length then 2 else 0, l)
 | n + 1, k, next, l =>
  if al.length < 24 + 13 * k then (1, l) else
  if ((al[11 + 13 * k]?).getD 0).toNat ≠ k + 1 ∨ leV (sub_ al (12 + 13 * k) (16 + 13 * k)) ≠ next then (2, l) else
  if al.length < next + leV (sub_ al (16 + 13 * k) (20 + 13 * k)) then (1, l) else
  if sumN (partR al next (leV (sub_ al (16 + 13 * k) (20 + 13 * k)))) ≠ leV (sub_ al (20 + 13 * k) (24 + 13 * k)) then (7, l) else
  rowsX al n (k + 1) (next + leV (sub_ al (16 + 13 * k) (20 + 13 * k))) (l ++ [((k : Int) + 1, partR al next (leV (sub_ al (16 + 13 * k) (20 + 13 * k))))])
theorem sub_drop (al : List UInt8) (a i j : Nat) : sub_ (al.drop a) i j = sub_ al (a + i) (a + j) := by
 unfold sub_
 rw [List.drop_take, List.drop_take, List.drop_drop, show a + j - (a + i) = j - i by omega]
theorem rowsR_ix (al : List UInt8) : ∀ (n k next : Nat) (l), rowsR al n k ⟨al.drop (11 + 13 * k), 0⟩ next l = rowsX al n k next l
 | 0, k, next, l => rfl
 | n + 1, k, next, l => by
  rw [rowsR_succ]
  unfold rowsX
  by_cases h1 : al.length < 24 + 13 * k
  ·have := row_short (r := al.drop (11 + 13 * k)) (by simp; omega)
   unfold rowE
   rw [if_pos h1, this]; simp
  rw [if_neg h1]
  have hrow := row_long (r := al.drop (11 + 13 * k)) (by simp; omega)
  rw [hrow]
  simp only [sub_drop, List.drop_drop, List.getElem?_drop, Nat.add_zero]
  unfold rowE
  simp only [ne_eq, not_true_eq_false, if_false]
  rw [show 11 + 13 * k + 1 = 12 + 13 * k by omega, show 11 + 13 * k + 5 = 16 + 13 * k by omega, show 11 + 13 * k + 9 = 20 + 13 * k by omega, show 11 + 13 * k + 13 = 24 + 13 * k by omega]
  have ih := rowsR_ix al n (k + 1)
  rw [show 11 + 13 * (k + 1) = 24 + 13 * k by omega] at ih
  generalize leV (sub_ al (12 + 13 * k) (16 + 13 * k)) = A
  generalize leV (sub_ al (16 + 13 * k) (20 + 13 * k)) = Z
  generalize leV (sub_ al (20 + 13 * k) (24 + 13 * k)) = M
  generalize hid : (al[11 + 13 * k]?).getD 0 = c
  by_cases h2 : ¬ c.toNat = k + 1 ∨ ¬ A = next
  ·rw [if_pos h2, if_pos h2]; simp
  rw [if_neg h2, if_neg h2]
  simp only [not_or, Decidable.not_not] at h2
  obtain ⟨h2, rfl⟩ := h2
  by_cases h3 : al.length < A + Z
  ·rw [if_pos h3, if_pos h3]; simp
  rw [if_neg h3, if_neg h3]
  by_cases h4 : sumN (partR al A Z) = M
  ·have h5 : (¬ sumN (partR al A Z) = M) = False := by simp [h4]
   simp only [h5, if_false, not_true_eq_false]
   rw [ih, h2]; simp
  ·have h5 : (¬ sumN (partR al A Z) = M) = True := by simp [h4]
   simp only [h5, if_true]
   simp
theorem sctR_ix (al : List UInt8) : sctR al (bytesR ⟨al, 0⟩ 10).1 = if al.length < 11 then (1, []) else if ((al[10]?).getD 0).toNat ≠ 2 then (2, []) else rowsX al 2 0 37 [] := by
 by_cases h1 : al.length < 10
 ·have : bytesR ⟨al, 0⟩ 10 = (failR 1, []) := by
   unfold bytesR; rw [if_neg (by simp), if_pos (by simp; omega)]
  rw [this, if_pos (by omega)]
  unfold sctR
  simp only
  rw [byteR_fail (by decide)]; rfl
 have hb : bytesR ⟨al, 0⟩ 10 = (⟨al.drop 10, 0⟩, al.take 10) := by
  unfold bytesR; rw [if_neg (by simp), if_neg (by simp; omega)]; rfl
 rw [hb]
 simp only
 have e10 : al[10]? = (al.drop 10)[0]? := by rw [List.getElem?_drop]
 have e11 : al.drop 11 = (al.drop 10).drop 1 := by rw [List.drop_drop]
 have hl : (al.drop 10).length = al.length - 10 := by simp
 have hix := rowsR_ix al 2 0 37 []
 rw [show 11 + 13 * 0 = 11 by omega, e11] at hix
 rw [e10]
 unfold sctR
 generalize al.drop 10 = r at *
 cases r with
 | nil =>
  simp at hl
  rw [byteR_nil, if_pos (show al.length < 11 by omega)]; rfl
 | cons c r =>
  simp at hl
  rw [byteR_cons, if_neg (show ¬ al.length < 11 by omega)]
  simp only [ne_eq, not_true_eq_false, if_false, List.getElem?_cons_zero, Option.getD_some]
  simp only [List.drop_succ_cons, List.drop_zero] at hix
  rw [hix]
end Go.AM

namespace Go.AM
theorem c_ref20_number (l : List UInt8) (hl : l.length = 4) (sg) : LL.call n_c_ref20_number [.s (bs l)] sg sg.length = some (.i .i64 (leV l), sg, sg.length) := by
 refine wp_call e_c_ref20_number rfl ?_
 match l, hl with
 | [a, b, c, d], _ =>
  have ha := u8_lt a
  have hb := u8_lt b
  have hc := u8_lt c
  have hd := u8_lt d
  have w1 : ∀ x : UInt8, IntKind.i64.wrap (x.toNat : Int) = x.toNat := fun x => wrap64 (by have := u8_lt x; omega)
  have w2 : IntKind.i64.wrap (256 * (b.toNat : Int)) = 256 * b.toNat := wrap64 (by omega)
  have w3 : IntKind.i64.wrap (65536 * (c.toNat : Int)) = 65536 * c.toNat := wrap64 (by omega)
  have w4 : IntKind.i64.wrap (16777216 * (d.toNat : Int)) = 16777216 * d.toNat := wrap64 (by omega)
  have w5 : IntKind.i64.wrap ((a.toNat : Int) + 256 * b.toNat) = (a.toNat : Int) + 256 * b.toNat := wrap64 (by omega)
  have w6 : IntKind.i64.wrap ((a.toNat : Int) + 256 * b.toNat + 65536 * c.toNat) = (a.toNat : Int) + 256 * b.toNat + 65536 * c.toNat := wrap64 (by omega)
  have w7 : IntKind.i64.wrap ((a.toNat : Int) + 256 * b.toNat + 65536 * c.toNat + 16777216 * d.toNat) = (leV [a, b, c, d] : Int) := by rw [wrap64 (by omega)]; simp [leV]; omega
  simp [F_c_ref20_number, w1, w2, w3, w4, w5, w6, w7]
theorem sbx_len {s : List UInt8} {i j : Nat} (h : i ≤ j) (h2 : j ≤ s.length) : (sub_ s i j).length = j - i := by unfold sub_; simp; omega
theorem sub_sub {s : List UInt8} {a b i j : Nat} (h : a + j ≤ b) : sub_ (sub_ s a b) i j = sub_ s (a + i) (a + j) := by
 unfold sub_
 rw [List.take_drop, List.take_take, List.drop_drop, Nat.min_eq_left h]
set_option maxRecDepth 30000 in
theorem c_ref20_Decode (s : List UInt8) (hs : s.length ≤ 1073741824) (sg) : LL.call n_c_ref20_Decode [.s (bs s)] sg sg.length =
    some (.t [eRmK (if (decR s).1 = 0 then .z else .o) .z (if (decR s).1 = 0 then .z else .o) (decR s).2, .i .i64 (decR s).1], sg, sg.length) := by
 generalize hr : decR s = r
 refine wp_call e_c_ref20_Decode rfl ?_
 unfold decR at hr
 by_cases h1 : s.take 4 = magic
 case neg =>
  have hz : hd0 s = 10 := by unfold hd0; rw [if_pos h1]
  rw [hz, if_pos (by decide)] at hr
  subst hr
  have hb : (s.take 4 == [67, 82, 89, 79]) = false := by simpa [magic] using h1
  by_cases h4 : s.length < 4
  ·have h4' : (s.length : Int) < 4 := by omega
   simp [F_c_ref20_Decode, h4, h4', eRmK, zeroI]
  ·have h4' : ¬ (s.length : Int) < 4 := by omega
   have h4'' : (4 : Int) ≤ s.length := by omega
   have h4n : 4 ≤ s.length := by omega
   simp [F_c_ref20_Decode, h4, h4', h4'', h4n, hb, bins, eRmK, zeroI]
 have h4 := magic_len h1
 have h4' : ¬ (s.length : Int) < 4 := by omega
 have h4'' : (4 : Int) ≤ s.length := by omega
 have h4n : ¬ s.length < 4 := by omega
 have hm : (s.take 4 == [67, 82, 89, 79]) = true := by rw [h1]; rfl
 by_cases h2 : 65536 < s.length
 case pos =>
  have h2' : (65536 : Int) < s.length := by omega
  have hz : hd0 s = 3 := by unfold hd0; rw [if_neg (by simpa using h1), if_pos h2]
  rw [hz, if_pos (by decide)] at hr
  subst hr
  simp [F_c_ref20_Decode, h4, h4', h4'', h4n, hm, bins, h2, h2', eRmK, zeroI]
 have h2' : ¬ (65536 : Int) < s.length := by omega
 have hx := hd0_ix h1 h2
 rw [hx] at hr
 clear hx
 by_cases h5 : s.length = 4
 case pos =>
  have h5' : ((s.length : Int) == 4) = true := by rw [h5]; rfl
  rw [if_pos h5, if_pos (by decide)] at hr
  subst hr
  simp [F_c_ref20_Decode, h4, h4', h4'', h4n, hm, bins, h2, h2', h5', eRmK, zeroI]
 have h5' : ((s.length : Int) == 4) = false := by simp; omega
 rw [if_neg h5] at hr
 have l5 : 4 < s.length := by omega
 have l5' : (4 : Int) < s.length := by omega
 rw [List.getElem?_eq_getElem l5] at hr
 simp only [Option.getD_some] at hr
 by_cases h6 : s[4].toNat = 4
 case neg =>
  have hb : ((s[4].toNat : Int) != 4) = true := by simp; omega
  rw [if_pos h6, if_pos (by decide)] at hr
  subst hr
  simp [F_c_ref20_Decode, h4, h4', h4'', h4n, hm, bins, h2, h2', h5', l5, l5', hb, eRmK, zeroI]
 have hb6 : ((s[4].toNat : Int) != 4) = false := by simp; omega
 rw [if_neg (show ¬ s[4].toNat ≠ 4 by simpa using h6)] at hr
 by_cases h7 : s.length < 10
 case pos =>
  have h7' : (s.length : Int) < 10 := by omega
  rw [if_pos h7, if_pos (by decide)] at hr
  subst hr
  simp [F_c_ref20_Decode, h4, h4', h4'', h4n, hm, bins, h2, h2', h5', l5, l5', hb6, h7, h7', eRmK, zeroI]
 have h7' : ¬ (s.length : Int) < 10 := by omega
 have l10 : 10 ≤ s.length := by omega
 have l10' : (10 : Int) ≤ s.length := by omega
 rw [if_neg h7] at hr
 have hN := c_ref20_number (sub_ s 6 10) (sbx_len (by omega) l10) sg
 have hsub : (s.take 10).drop 6 = sub_ s 6 10 := rfl
 generalize hsz : leV (sub_ s 6 10) = sz at *
 generalize sub_ s 6 10 = s610 at *
 by_cases h8 : s.length < sz
 case pos =>
  have h8' : (s.length : Int) < sz := by omega
  rw [if_pos h8, if_pos (by decide)] at hr
  subst hr
  simp [F_c_ref20_Decode, h4, h4', h4'', h4n, hm, bins, h2, h2', h5', l5, l5', hb6, h7, h7', l10, l10', hsub, hN, h8, h8', eRmK, zeroI]
 have h8' : ¬ (s.length : Int) < sz := by omega
 rw [if_neg h8] at hr
 by_cases h9 : sz < s.length
 case pos =>
  have h9' : (sz : Int) < s.length := by omega
  rw [if_pos h9, if_pos (by decide)] at hr
  subst hr
  simp [F_c_ref20_Decode, h4, h4', h4'', h4n, hm, bins, h2, h2', h5', l5, l5', hb6, h7, h7', l10, l10', hsub, hN, h8, h8', h9, h9', eRmK, zeroI]
 have h9' : ¬ (sz : Int) < s.length := by omega
 rw [if_neg h9, if_neg (by decide)] at hr
 obtain ⟨n, hn⟩ : ∃ n, s.length = n + 4 := ⟨s.length - 4, by omega⟩
 have w1 : IntKind.i64.wrap ((s.length : Int) - 4) = (n : Int) := by rw [wrap64 (by omega)]; omega
 have n1 : (n : Int) ≤ s.length := by omega
 have n2 : n ≤ s.length := by omega
 have htl : s.take s.length = s := List.take_length
 have hN2 := c_ref20_number (s.drop n) (by simp; omega) sg
 have hSm := c_ref02_Sum (s.take n) (by simp; omega) sg
 have hsmlt := sumN_lt (s.take n)
 have w2 : IntKind.i64.wrap (sumN (s.take n) : Int) = sumN (s.take n) := wrap64 (by omega)
 have hop : openR s = if leV (s.drop n) ≠ sumN (s.take n) then ([], 7) else (s.take n, 0) := by
  unfold openR
  rw [if_neg (by omega), show s.length - 4 = n by omega]
 have hkf : kindF s = ((s[5]?).getD 0).toNat := rfl
 have l6 : 5 < s.length := by omega
 have l6' : (5 : Int) < s.length := by omega
 rw [List.getElem?_eq_getElem l6] at hkf
 simp only [Option.getD_some] at hkf
 by_cases h10 : leV (s.drop n) = sumN (s.take n)
 case neg =>
  have hb : ((leV (s.drop n) : Int) != sumN (s.take n)) = true := by simp; omega
  rw [hop, if_pos h10, if_pos (by decide)] at hr
  subst hr
  simp [F_c_ref20_Decode, h4, h4', h4'', h4n, hm, bins, h2, h2', h5', l5, l5', hb6, h7, h7', l10, l10', hsub, hN, h8, h8', h9, h9', w1, n1, n2, htl, hN2, hSm, w2, hb, eRmK, zeroI]
 have hb10 : ((leV (s.drop n) : Int) != sumN (s.take n)) = false := by simp; omega
 rw [hop, if_neg (show ¬ leV (s.drop n) ≠ sumN (s.take n) by simpa using h10)] at hr
 simp only [ne_eq, not_true_eq_false, if_false] at hr
 have hal : (s.take n).length = n := by simp; omega
 generalize halq : s.take n = al at *
 rw [sctR_ix] at hr
 by_cases h11 : al.length < 11
 case pos =>
  have h11' : (al.length : Int) < 11 := by omega
  rw [if_pos h11, if_pos (by simp)] at hr
  subst hr
  simp [F_c_ref20_Decode, h4, h4', h4'', h4n, hm, bins, h2, h2', h5', l5, l5', hb6, h7, h7', l10, l10', hsub, hN, h8, h8', h9, h9', w1, n1, n2, htl, hN2, halq, hSm, w2, hb10, h11, h11', eRmK, zeroI]
 have h11' : ¬ (al.length : Int) < 11 := by omega
 have l11 : 10 < al.length := by omega
 have l11' : (10 : Int) < al.length := by omega
 rw [if_neg h11, List.getElem?_eq_getElem l11] at hr
 simp only [Option.getD_some] at hr
 by_cases h12 : al[10].toNat = 2
 case neg =>
  have hb : ((al[10].toNat : Int) != 2) = true := by simp; omega
  rw [if_pos h12, if_pos (by simp)] at hr
  subst hr
  simp [F_c_ref20_Decode, h4, h4', h4'', h4n, hm, bins, h2, h2', h5', l5, l5', hb6, h7, h7', l10, l10', hsub, hN, h8, h8', h9, h9', w1, n1, n2, htl, hN2, halq, hSm, w2, hb10, h11, h11', l11, l11', hb, eRmK, zeroI]
 have hb12 : ((al[10].toNat : Int) != 2) = false := by simp; omega
 rw [if_neg (show ¬ al[10].toNat ≠ 2 by simpa using h12)] at hr
 simp [F_c_ref20_Decode, h4, h4', h4'', h4n, hm, bins, h2, h2', h5', l5, l5', hb6, h7, h7', l10, l10', hsub, hN, h8, h8', h9, h9', w1, n1, n2, htl, hN2, halq, hSm, w2, hb10, h11, h11', l11, l11', hb12]
 generalize hX : rowsX al 2 0 37 [] = X at hr
 refine wc_ind (fun a : Nat × Nat × List (Int × List UInt8) => ⟨[(0, .v (.s (bs s))), (2, .q (.ptr 2 0)), (4, .q (.ptr 4 0)), (5, .v (.s (bs al))), (6, .v (.i .i64 a.2.1)), (7, .v (.l .o 1 (a.2.2.map fun p => D.s (bs p.2)))), (8, .v (.i .i64 a.1))], [(2, [.i .i64 0, .i .i64 0, .i .u64 0, .l .o 1 [], .l .o 1 []]), (4, [.i .i64 0, .i .i64 0, .i .u64 0, .l .o 1 [], .l .o 1 []])], sg, sg.length⟩) (fun a => 2 - a.1)
  (fun a => a.1 ≤ 2 ∧ a.2.1 ≤ 2147483648 ∧ (0 < a.1 → a.2.1 ≤ al.length) ∧ X = rowsX al (2 - a.1) a.1 a.2.1 a.2.2 ∧ a.2.2.length = a.1 ∧ (∀ p ∈ a.2.2, p.2.length ≤ al.length) ∧ a.2.2.map (·.1) = (List.range a.1).map fun (i : Nat) => ((i : Int) + 1)) ?_ (0, 37, []) ⟨by simp, by simp, by simp, hX.symm, rfl, by simp, rfl⟩
 clear hX hN hN2 hSm hsub hop hb10 hb6 hb12 h12 h10 hm h1 h2 h5 h5' h6 h7 h7' h8 h8' h9 h9' h4 h4' h4'' h4n
 rintro ⟨k, next, l⟩ ⟨g1, g2, g3, g4, g5, g6, g7⟩ ih
 simp only at g1 g2 g3 g4 g5 g6 g7
 by_cases hk : k < 2
 case neg =>
  have k2 : k = 2 := by omega
  subst k2
  simp
  replace g4 : X = (if next ≠ al.length then 2 else 0, l) := g4
  have g3 := g3 (by omega)
  have hl2 : ∃ a b : List UInt8, l = [(1, a), (2, b)] ∧ a.length ≤ al.length ∧ b.length ≤ al.length := by
   match l, g5, g6, g7 with
   | [a, b], _, g6, g7 =>
    obtain ⟨a1, a2⟩ := a
    obtain ⟨b1, b2⟩ := b
    simp [List.range_succ] at g7
    obtain ⟨rfl, rfl⟩ := g7
    exact ⟨a2, b2, rfl, g6 (1, a2) (by simp), g6 (2, b2) (by simp)⟩
  obtain ⟨mt, dt, rfl, hm1, hd1⟩ := hl2
  by_cases c1 : next = al.length
  case neg =>
   have c1' : next < al.length := by omega
   have c1'' : (next : Int) < al.length := by omega
   rw [if_pos c1] at g4
   subst g4
   rw [if_pos (by simp)] at hr
   subst hr
   simp [c1', c1'', eRmK, zeroI]
  have c1' : ¬ next < al.length := by omega
  have c1'' : ¬ (next : Int) < al.length := by omega
  rw [if_neg (show ¬ next ≠ al.length by simpa using c1)] at g4
  subst g4
  simp only [ne_eq, not_true_eq_false, if_false] at hr
  have hu := u8_lt s[5]
  by_cases c2 : kindF s < 1 ∨ 4 < kindF s
  case pos =>
   have hz : readS (kindF s) [(1, mt), (2, dt)] = (6, zeroI) := if_pos c2
   rw [hz, if_pos (by simp)] at hr
   subst hr
   rw [hkf] at c2
   have hq : (((s[5].toNat : Int) < 1) ∧ True) ∨ ¬ ((s[5].toNat : Int) < 1) ∧ (4 : Int) < s[5].toNat := by
    rcases Classical.em ((s[5].toNat : Int) < 1) with h | h
    ·exact .inl ⟨h, trivial⟩
    ·refine .inr ⟨h, ?_⟩
     rcases c2 with h' | h'
     ·exact absurd h' h
     ·exact h'
   rcases hq with ⟨q1, q2⟩ | ⟨q1, q2⟩
   ·simp [c1', c1'', l6, l6', q1, eRmK, zeroI]
   ·simp [c1', c1'', l6, l6', q1, q2, eRmK, zeroI]
  have hz : readS (kindF s) [(1, mt), (2, dt)] = readI (kindF s) mt dt := by
   unfold readS; rw [if_neg c2]; simp
  rw [hz] at hr
  have hkk : 1 ≤ kindF s ∧ kindF s ≤ 4 := by omega
  have hR := c_ref19_Read (kindF s) hkk mt dt (by omega) (by omega) sg
  have q1 : ¬ (s[5].toNat : Int) < 1 := by omega
  have q2 : ¬ (4 : Int) < s[5].toNat := by omega
  have w3 : IntKind.i64.wrap (s[5].toNat : Int) = s[5].toNat := wrap64 (by omega)
  have hrd := fun h => (readI_inv (mt := mt) (dt := dt) hkk h).1
  rw [hkf] at hR hr hrd
  generalize readI (s[5].toNat : Int) mt dt = RR at *
  have er : (eLK .z 2 eR : List It → D) = eL 2 eR := rfl
  simp [eRmK, er] at hR
  by_cases c3 : RR.1 = 0
  case neg =>
   rw [if_pos c3] at hr
   subst hr
   have b1 : (RR.1 == 0) = false := by simpa using c3
   have b2 : (RR.1 != 0) = true := by simpa using c3
   simp [c1', c1'', l6, l6', q1, q2, w3, hR, b1, b2, c3, eRmK, zeroI]
  rw [if_neg (by simpa using c3)] at hr
  have hC := c_ref17_Check RR.2 (hrd c3).ok sg
  simp [eRm] at hC
  rw [c3] at hR
  by_cases c4 : checkI RR.2 = 0
  case neg =>
   rw [if_pos c4] at hr
   subst hr
   have b2 : (checkI RR.2 != 0) = true := by simpa using c4
   simp [c1', c1'', l6, l6', q1, q2, w3, hR, hC, b2, c4, eRmK, zeroI]
  rw [if_neg (by simpa using c4)] at hr
  subst hr
  rw [c4] at hC
  simp [c1', c1'', l6, l6', q1, q2, w3, hR, hC]
  simp [eRmK, er]
 have hk' : (k : Int) < 2 := by omega
 obtain ⟨m, hm⟩ : ∃ m, 2 - k = m + 1 := ⟨1 - k, by omega⟩
 have hm2 : 2 - (k + 1) = m := by omega
 rw [hm] at g4
 unfold rowsX at g4
 have w3 : IntKind.i64.wrap (13 * (k : Int)) = 13 * k := wrap64 (by omega)
 obtain ⟨lo, hlo⟩ : ∃ lo, lo = 11 + 13 * k := ⟨_, rfl⟩
 obtain ⟨hi, hhi⟩ : ∃ hi, hi = 24 + 13 * k := ⟨_, rfl⟩
 have w4 : IntKind.i64.wrap (24 + 13 * (k : Int)) = (hi : Int) := by rw [wrap64 (by omega)]; omega
 have w5 : IntKind.i64.wrap (11 + 13 * (k : Int)) = (lo : Int) := by rw [wrap64 (by omega)]; omega
 have w6 : IntKind.i64.wrap ((k : Int) + 1) = k + 1 := wrap64 (by omega)
 have hrow1 : sub_ (sub_ al lo hi) 1 5 = sub_ al (12 + 13 * k) (16 + 13 * k) := by rw [sub_sub (by omega), hlo]; congr 1 <;> omega
 have hrow2 : sub_ (sub_ al lo hi) 5 9 = sub_ al (16 + 13 * k) (20 + 13 * k) := by rw [sub_sub (by omega), hlo]; congr 1 <;> omega
 have hrow3 : sub_ (sub_ al lo hi) 9 13 = sub_ al (20 + 13 * k) (24 + 13 * k) := by rw [sub_sub (by omega), hlo]; congr 1 <;> omega
 rw [← hrow1, ← hrow2, ← hrow3, ← hlo, ← hhi] at g4
 by_cases c1 : al.length < hi
 case pos =>
  have c1' : (al.length : Int) < hi := by omega
  rw [if_pos c1] at g4
  subst g4
  rw [if_pos (by simp)] at hr
  subst hr
  simp [hk, hk', w3, w4, w5, c1, c1', eRmK, zeroI]
 have c1' : ¬ (al.length : Int) < hi := by omega
 rw [if_neg c1] at g4
 have q1 : lo ≤ hi := by omega
 have q1' : (lo : Int) ≤ hi := by omega
 have q2 : hi ≤ al.length := by omega
 have q2' : (hi : Int) ≤ al.length := by omega
 have hrl : (sub_ al lo hi).length = 13 := by rw [sbx_len q1 q2]; omega
 have hr0 : al[lo]? = (sub_ al lo hi)[0]? := by
  unfold sub_
  rw [List.getElem?_drop, List.getElem?_take]
  simp; omega
 have hdt : (al.take hi).drop lo = sub_ al lo hi := rfl
 have hN1 := c_ref20_number (sub_ (sub_ al lo hi) 1 5) (sbx_len (by omega) (by omega)) sg
 have hN2 := c_ref20_number (sub_ (sub_ al lo hi) 5 9) (sbx_len (by omega) (by omega)) sg
 have hN3 := c_ref20_number (sub_ (sub_ al lo hi) 9 13) (sbx_len (by omega) (by omega)) sg
 rw [hr0] at g4
 generalize sub_ al lo hi = row at *
 have hd1 : (row.take 5).drop 1 = sub_ row 1 5 := rfl
 have hd2 : (row.take 9).drop 5 = sub_ row 5 9 := rfl
 have hd3 : (row.take 13).drop 9 = sub_ row 9 13 := rfl
 have r0 : 0 < row.length := by omega
 have r0' : (0 : Int) < row.length := by omega
 have r5 : 5 ≤ row.length := by omega
 have r5' : (5 : Int) ≤ row.length := by omega
 have r9 : 9 ≤ row.length := by omega
 have r9' : (9 : Int) ≤ row.length := by omega
 have r13 : 13 ≤ row.length := by omega
 have r13' : (13 : Int) ≤ row.length := by omega
 rw [List.getElem?_eq_getElem r0] at g4
 simp only [Option.getD_some] at g4
 have hu := u8_lt row[0]
 have w7 : IntKind.i64.wrap (row[0].toNat : Int) = row[0].toNat := wrap64 (by omega)
 have hA := leV_lt (sub_ row 1 5)
 have hZ := leV_lt (sub_ row 5 9)
 rw [sbx_len (by omega) r5] at hA
 rw [sbx_len (by omega) r9] at hZ
 have e256 : (256 : Nat) ^ 4 = 4294967296 := by decide
 generalize leV (sub_ row 1 5) = A at *
 generalize leV (sub_ row 5 9) = Z at *
 generalize leV (sub_ row 9 13) = M at *
 by_cases c2 : row[0].toNat ≠ k + 1 ∨ A ≠ next
 case pos =>
  rw [if_pos c2] at g4
  subst g4
  rw [if_pos (by simp)] at hr
  subst hr
  have hq : (((row[0].toNat : Int) != (k : Int) + 1) = true ∧ True) ∨ ((row[0].toNat : Int) != (k : Int) + 1) = false ∧ ((A : Int) != next) = true := by
   by_cases h : row[0].toNat = k + 1
   ·refine .inr ⟨by simp; omega, ?_⟩
    rcases c2 with h' | h'
    ·exact absurd h h'
    ·simp; omega
   ·exact .inl ⟨by simp; omega, trivial⟩
  rcases hq with ⟨p1, p2⟩ | ⟨p1, p2⟩
  ·simp [hk, hk', w3, w4, w5, w6, w7, c1, c1', q1, q1', q2, q2', hdt, r0, r0', p1, eRmK, zeroI]
  ·simp [hk, hk', w3, w4, w5, w6, w7, c1, c1', q1, q1', q2, q2', hdt, r0, r0', p1, p2, hd1, hN1, r5, r5', eRmK, zeroI]
 have p1 : ((row[0].toNat : Int) != (k : Int) + 1) = false := by simp; omega
 have p2 : ((A : Int) != next) = false := by simp; omega
 rw [if_neg c2] at g4
 have w8 : IntKind.i64.wrap ((next : Int) + Z) = (next : Int) + Z := wrap64 (by omega)
 by_cases c3 : al.length < next + Z
 case pos =>
  have c3' : (al.length : Int) < (next : Int) + Z := by omega
  rw [if_pos c3] at g4
  subst g4
  rw [if_pos (by simp)] at hr
  subst hr
  simp [hk, hk', w3, w4, w5, w6, w7, c1, c1', q1, q1', q2, q2', hdt, r0, r0', p1, p2, hd1, hN1, r5, r5', hd2, hN2, r9, r9', w8, c3', eRmK, zeroI]
 have c3' : ¬ (al.length : Int) < (next : Int) + Z := by omega
 rw [if_neg c3] at g4
 obtain ⟨nx, hnx⟩ : ∃ nx, nx = next + Z := ⟨_, rfl⟩
 have w9 : IntKind.i64.wrap ((next : Int) + Z) = (nx : Int) := by rw [w8]; omega
 have c4 : nx ≤ al.length := by omega
 have c4' : (nx : Int) ≤ al.length := by omega
 have c5 : next ≤ nx := by omega
 have c5' : (next : Int) ≤ nx := by omega
 have c6 : ¬ (al.length : Int) < nx := by omega
 have c6n : ¬ al.length < nx := by omega
 have hpt : (al.take nx).drop next = partR al next Z := by rw [hnx]; rfl
 have hpl : (partR al next Z).length ≤ al.length := by unfold partR; simp; omega
 have hSp := c_ref02_Sum (partR al next Z) (by omega) sg
 have hsp := sumN_lt (partR al next Z)
 have w10 : IntKind.i64.wrap (sumN (partR al next Z) : Int) = sumN (partR al next Z) := wrap64 (by omega)
 rw [← hnx] at g4
 generalize partR al next Z = part at *
 by_cases c7 : sumN part = M
 case neg =>
  rw [if_pos c7] at g4
  subst g4
  rw [if_pos (by simp)] at hr
  subst hr
  have p3 : ((sumN part : Int) != M) = true := by simp; omega
  simp [hk, hk', w3, w4, w5, w6, w7, c1, c1', q1, q1', q2, q2', hdt, r0, r0', p1, p2, hd1, hN1, r5, r5', hd2, hN2, r9, r9', w9, c6, c6n, c4, c4', c5, c5', hpt, hSp, w10, hd3, hN3, r13, r13', p3, eRmK, zeroI]
 rw [if_neg (show ¬ sumN part ≠ M by simpa using c7)] at g4
 have p3 : ((sumN part : Int) != M) = false := by simp; omega
 simp [hk, hk', w3, w4, w5, w6, w7, c1, c1', q1, q1', q2, q2', hdt, r0, r0', p1, p2, hd1, hN1, r5, r5', hd2, hN2, r9, r9', w9, c6, c6n, c4, c4', c5, c5', hpt, hSp, w10, hd3, hN3, r13, r13', p3]
 refine ⟨by omega, ?_⟩
 have := ih (k + 1, nx, l ++ [((k : Int) + 1, part)]) (by simp; omega) ⟨hk, by simp; omega, fun _ => c4, by rw [g4, hm2], by simp; omega, by
  intro p hp
  rcases List.mem_append.1 hp with hp | hp
  ·exact g6 p hp
  ·simp at hp; subst hp; exact hpl, by simp only [List.map_append, g7, List.range_succ]; simp⟩
 simpa [w6] using this
end Go.AM

namespace Go.AM
theorem c_ref01_WholeB (x : Oc) (hx : x.ok) (sg) : LL.call n_c_ref01_Whole [eRn x, .i .i64 1] sg sg.length = some (.t [eRn (byteR x).1, .i .u64 (byteR x).2.toNat], sg, sg.length) := by
 have W := c_ref01_WholeK x hx 1 (by omega) sg
 have h1 : (wholeR x 1).1 = (byteR x).1 := rfl
 have h2 : (wholeR x 1).2 = (byteR x).2.toNat := by
  simp only [wholeR, byteR]
  have : (bytesR x 1).2.length ≤ 1 := by
   unfold bytesR
   split
   ·simp
   ·split
    ·simp
    ·simp; omega
  match (bytesR x 1).2, this with
  | [], _ => rfl
  | [a], _ => simp [leV, hd0]
 have hc : ((1 : Nat) : Int) = 1 := rfl
 rw [hc] at W
 rw [h1, h2] at W
 exact W
theorem bytesR_stay {x : Oc} (h : x.e ≠ 0) (n : Int) : bytesR x n = (x, []) := by unfold bytesR; rw [if_pos (.inl h)]
theorem thirdR_eq (k : Int) (x : Oc) : thirdR k x =
    (let y := byteR x
     let b1 := byteR y.1
     let w1 := wholeR b1.1 4
     let b2 := byteR w1.1
     let w2 := wholeR b2.1 4
     let z1 := bytesR w2.1 w1.2
     let z2 := bytesR z1.1 w2.2
     if y.1.e = 0 ∧ y.2 ≠ 2 then (2, zeroI) else
     if w1.1.e = 0 ∧ b1.2 ≠ 1 then (2, zeroI) else if w2.1.e = 0 ∧ b2.2 ≠ 2 then (2, zeroI) else
     if (endR z2.1).e ≠ 0 then ((endR z2.1).e, zeroI) else readI k z1.2 z2.2) := by
 unfold thirdR
 simp only
 generalize byteR x = y
 obtain ⟨y, c⟩ := y
 simp only
 by_cases h : y.e = 0
 ·rw [if_neg (by simpa using h)]
  by_cases h2 : c = 2
  ·rw [if_neg (show ¬ c ≠ 2 by simpa using h2), if_neg (show ¬ (y.e = 0 ∧ c ≠ 2) from fun h' => h'.2 h2)]
  ·rw [if_pos (by simpa using h2), if_pos ⟨h, h2⟩]
 ·rw [if_pos h]
  have h1 : byteR y = (y, 0) := by unfold byteR; rw [bytesR_stay h]; rfl
  have h2 : wholeR y 4 = (y, 0) := by unfold wholeR; rw [bytesR_stay h]; rfl
  rw [h1]
  simp only
  rw [h2]
  simp only
  rw [h1]
  simp only
  rw [h2]
  simp only
  rw [bytesR_stay h]
  simp only
  rw [bytesR_stay h]
  simp only
  rw [if_neg (fun h' => h h'.1), if_neg (fun h' => h h'.1), if_neg (fun h' => h h'.1), endR_stay h, if_pos h]
theorem c_ref21_third (k : Int) (hk : 1 ≤ k ∧ k ≤ 4) (x : Oc) (hx : x.ok) (sg) :
    ∃ r, LL.call n_c_ref21_third [.i .i64 k, eRn x] sg sg.length = some r ∧ ∃ im, r = (.t [im, .i .i64 (thirdR k x).1], sg, sg.length) ∧
     ∃ i, ImR im i ∧ ((thirdR k x).1 = 0 → i = (thirdR k x).2) := by
 generalize hT : thirdR k x = T
 rw [thirdR_eq] at hT
 refine wp_call_ex e_c_ref21_third rfl ?_
 have hbyte : ∀ z : Oc, z.ok → LL.call n_c_ref01_Whole [eRn z, .i .i64 1] sg sg.length = some (.t [eRn (byteR z).1, .i .u64 (byteR z).2.toNat], sg, sg.length) := fun z hz => c_ref01_WholeB z hz sg
 have hword : ∀ z : Oc, z.ok → LL.call n_c_ref01_Whole [eRn z, .i .i64 4] sg sg.length = some (.t [eRn (wholeR z 4).1, .i .u64 (wholeR z 4).2], sg, sg.length) := fun z hz => c_ref01_WholeK z hz 4 (by omega) sg
 have hbys : ∀ (z : Oc) (n : Int), z.ok → LL.call n_c_ref01_Bytes [eRn z, .i .i64 n] sg sg.length = some (.t [eRn (bytesR z n).1, .s (bs (bytesR z n).2)], sg, sg.length) := fun z n hz => c_ref01_Bytes z hz n sg
 have hend : ∀ z : Oc, z.ok → LL.call n_c_ref21_end [eRn z] sg sg.length = some (.i .i64 (endR z).e, sg, sg.length) := fun z hz => c_ref21_end z hz sg
 simp [eRn] at hbyte hword hbys hend
 have o0 := byteR_ok hx
 have o1 := byteR_ok o0
 have o2 := wholeR_ok o1 4
 have o3 := byteR_ok o2
 have o4 := wholeR_ok o3 4
 have B0 := hbyte x hx
 have l1 := wholeR4_lt (byteR (byteR x).1).1
 have l2 := wholeR4_lt (byteR (wholeR (byteR (byteR x).1).1 4).1).1
 have o5 := bytesR_ok o4 (wholeR (byteR (byteR x).1).1 4).2
 have o6 := bytesR_ok o5 (wholeR (byteR (wholeR (byteR (byteR x).1).1 4).1).1 4).2
 try simp only at hT
 have RS := c_ref19_Read k hk (bytesR (wholeR (byteR (wholeR (byteR (byteR x).1).1 4).1).1 4).1 (wholeR (byteR (byteR x).1).1 4).2).2 (bytesR (bytesR (wholeR (byteR (wholeR (byteR (byteR x).1).1 4).1).1 4).1 (wholeR (byteR (byteR x).1).1 4).2).1 (wholeR (byteR (wholeR (byteR (byteR x).1).1 4).1).1 4).2).2 (bytesR_l o4) (bytesR_l o5) sg
 generalize hy : byteR x = y at *
 generalize hb1 : byteR y.1 = b1 at *
 generalize hw1 : wholeR b1.1 4 = w1 at *
 generalize hb2 : byteR w1.1 = b2 at *
 generalize hw2 : wholeR b2.1 4 = w2 at *
 generalize hz1 : bytesR w2.1 w1.2 = z1 at *
 generalize hz2 : bytesR z1.1 w2.2 = z2 at *
 obtain ⟨y, c0⟩ := y
 obtain ⟨b1, c1⟩ := b1
 obtain ⟨w1, n1⟩ := w1
 obtain ⟨b2, c2⟩ := b2
 obtain ⟨w2, n2⟩ := w2
 obtain ⟨z1, s1⟩ := z1
 obtain ⟨z2, s2⟩ := z2
 simp only at *
 have H1 := hbyte y o0
 have H2 := hword b1 o1
 have H4 := hbyte w1 o2
 have H5 := hword b2 o3
 have H7 := hbys w2 n1 o4
 have H8 := hbys z1 n2 o5
 have H9 := hend z2 o6
 simp only [hb1, hw1, hb2, hw2, hz1, hz2] at H1 H2 H4 H5 H7 H8
 have wn1 : IntKind.i64.wrap (n1 : Int) = n1 := wrap64 (by omega)
 have wn2 : IntKind.i64.wrap (n2 : Int) = n2 := wrap64 (by omega)
 have wc1 : IntKind.i64.wrap (c1.toNat : Int) = c1.toNat := wrap64 (by have := u8_lt c1; omega)
 have wc2 : IntKind.i64.wrap (c2.toNat : Int) = c2.toNat := wrap64 (by have := u8_lt c2; omega)
 have i0 : ((c0.toNat : Int) != 2) = !decide (c0 = 2) := by
  by_cases e : c0 = 2
  ·subst e; rfl
  ·simp [e]; intro h; exact e (UInt8.toNat_inj.1 (by show c0.toNat = 2; omega))
 have i1 : ((c1.toNat : Int) != 1) = !decide (c1 = 1) := by
  by_cases e : c1 = 1
  ·subst e; rfl
  ·simp [e]; intro h; exact e (UInt8.toNat_inj.1 (by show c1.toNat = 1; omega))
 have i2 : ((c2.toNat : Int) != 2) = !decide (c2 = 2) := by
  by_cases e : c2 = 2
  ·subst e; rfl
  ·simp [e]; intro h; exact e (UInt8.toNat_inj.1 (by show c2.toNat = 2; omega))
 have c21 : IntKind.i64.wrap 1 = 1 := by decide
 have c22 : IntKind.i64.wrap 2 = 2 := by decide
 by_cases r0 : y.e = 0 ∧ c0 ≠ 2
 ·rw [if_pos r0] at hT
  have r0b : (y.e == 0) = true := by simp [r0.1]
  subst hT
  simp [F_c_ref21_third, eRn, B0, r0b, i0, r0.2]
  exact ⟨_, imR_oo zeroI⟩
 rw [if_neg r0] at hT
 by_cases t0 : y.e = 0
 case' pos => have t0b : (y.e == 0) = true := by simp [t0]
              have t0c : c0 = 2 := Classical.byContradiction fun h => r0 ⟨t0, h⟩
              simp [F_c_ref21_third, eRn, B0, t0b, i0, t0c]
 case' neg => have t0b : (y.e == 0) = false := by simp [t0]
              simp [F_c_ref21_third, eRn, B0, t0b, i0]
 all_goals
  refine wc_loop ?_
  simp [H1, H2, wn1, wc1, c21]
  by_cases r1 : w1.e = 0 ∧ c1 ≠ 1
  ·rw [if_pos r1] at hT
   have r1b : (w1.e == 0) = true := by simp [r1.1]
   subst hT
   simp [r1b, c21, wc1, i1, r1.2]
   exact ⟨_, imR_oo zeroI⟩
  ·rw [if_neg r1] at hT
   by_cases t1 : w1.e = 0
   case' pos => have t1b : (w1.e == 0) = true := by simp [t1]
                have t1c : c1 = 1 := Classical.byContradiction fun h => r1 ⟨t1, h⟩
                simp [t1b, c21, t1c, wn1]
   case' neg => have t1b : (w1.e == 0) = false := by simp [t1]
                simp [t1b, c21, wn1]
   all_goals
    refine wc_loop ?_
    simp [H4, H5, wn2, wc2, c22]
    by_cases r2 : w2.e = 0 ∧ c2 ≠ 2
    ·rw [if_pos r2] at hT
     have r2b : (w2.e == 0) = true := by simp [r2.1]
     subst hT
     simp [r2b, c22, wc2, i2, r2.2]
     exact ⟨_, imR_oo zeroI⟩
    ·rw [if_neg r2] at hT
     by_cases t2 : w2.e = 0
     case' pos => have t2b : (w2.e == 0) = true := by simp [t2]
                  have t2c : c2 = 2 := Classical.byContradiction fun h => r2 ⟨t2, h⟩
                  simp [t2b, c22, t2c, wn2]
     case' neg => have t2b : (w2.e == 0) = false := by simp [t2]
                  simp [t2b, c22, wn2]
     all_goals
      refine wc_loop ?_
      simp [H7, H8, H9]
      by_cases q3 : (endR z2).e = 0
      ·have q3b : ((endR z2).e != 0) = false := by simp [q3]
       rw [if_neg (by simpa using q3)] at hT
       rw [hT] at RS
       simp [eRmK] at RS
       simp [q3b, RS]
       exact ⟨_, imR T.2, fun _ => rfl⟩
      ·have q3b : ((endR z2).e != 0) = true := by simp [q3]
       rw [if_pos q3] at hT
       subst hT
       simp [q3b]
       exact ⟨_, imR_oo zeroI, fun h => absurd h q3⟩
end Go.AM

namespace Go.AM
theorem c_ref21_parse (v : Int) (s : List UInt8) (hs : s.length ≤ 1073741824) (sg) :
    ∃ r, LL.call n_c_ref21_parse [.i .i64 v, .s (bs s)] sg sg.length = some r ∧ ∃ im i, r = (.t [im, .i .i64 (parseR v s).1], sg, sg.length) ∧ ImR im i ∧ ((parseR v s).1 = 0 → i = (parseR v s).2) := by
 generalize hT : parseR v s = T
 refine wp_call_ex e_c_ref21_parse rfl ?_
 have ho : (⟨s, 0⟩ : Oc).ok := by simp [Oc.ok]; omega
 have B := c_ref01_WholeB ⟨s, 0⟩ ho sg
 have o0 := byteR_ok ho
 unfold parseR at hT
 simp only at hT
 generalize byteR ⟨s, 0⟩ = y at *
 obtain ⟨y, c⟩ := y
 simp only at *
 have N := c_ref01_Number y o0 255 (by omega) sg
 have n2 := numR_le y 255
 have o1 := numR_ok o0 255
 have Th := fun k hk => c_ref21_third k hk y o0 sg
 have hc := u8_lt c
 have wc : IntKind.i64.wrap (c.toNat : Int) = c.toNat := wrap64 (by omega)
 simp [eRn] at B N
 by_cases q1 : y.e = 0
 ·have q1b : (y.e != 0) = false := by simp [q1]
  rw [if_neg (by simpa using q1)] at hT
  by_cases q2 : (c.toNat : Int) < 1 ∨ 4 < (c.toNat : Int)
  ·rw [if_pos q2] at hT
   subst hT
   rcases q2 with q2 | q2
   ·simp [F_c_ref21_parse, eRn, B, q1b, wc, q2]
    exact ⟨_, imR_oo zeroI⟩
   ·have q2a : ¬ (c.toNat : Int) < 1 := by omega
    simp [F_c_ref21_parse, eRn, B, q1b, wc, q2, q2a]
    exact ⟨_, imR_oo zeroI⟩
  ·rw [if_neg q2] at hT
   have q2a : ¬ (c.toNat : Int) < 1 := by omega
   have q2c : ¬ 4 < (c.toNat : Int) := by omega
   by_cases q3 : v = 3
   ·rw [if_pos q3] at hT
    obtain ⟨r, T1, im, rfl, i, T2, T3⟩ := Th (c.toNat : Int) (by omega)
    rw [hT] at T1 T3
    simp [eRn] at T1
    simp [F_c_ref21_parse, eRn, B, q1b, wc, q2a, q2c, q3, T1, T2.cp, eRm]
    exact ⟨_, imR i, T3⟩
   ·rw [if_neg q3] at hT
    have q3b : (v == 3) = false := by simp [q3]
    have wn : IntKind.i64.wrap ((numR y 255).2 : Int) = (numR y 255).2 := wrap64 (by omega)
    have Lg := fun sg => c_ref06_Legal (c.toNat : Int) ((numR y 255).2 : Int) sg
    have Fi := fun hp => c_ref21_first (c.toNat : Int) ((numR y 255).2 : Int) (by omega) hp (numR y 255).1 o1 sg
    have Se := fun hp => c_ref21_second (c.toNat : Int) ((numR y 255).2 : Int) (by omega) hp (numR y 255).1 o1 sg
    generalize (numR y 255).1 = z at *
    generalize (numR y 255).2 = p at *
    by_cases q4 : z.e = 0
    ·rw [if_neg (by simpa using q4)] at hT
     have q4b : (z.e != 0) = false := by simp [q4]
     have Lg := Lg sg
     by_cases q5 : legal (c.toNat : Int) (p : Int) = 0
     ·rw [if_neg (by simpa using q5)] at hT
      rw [q5] at Lg
      have hp := legal_p q5
      by_cases q6 : v = 1
      ·rw [if_pos q6] at hT
       obtain ⟨r, T1, im, rfl, i, T2, T3⟩ := Fi hp
       simp [eRmK, eRn] at T1
       simp [F_c_ref21_parse, eRn, B, q1b, wc, q2a, q2c, q3b, N, q4b, wn, Lg, q6, T1, T2.cp, eRm]
       subst hT
       exact ⟨_, ⟨rfl, rfl⟩, _, imR i, T3⟩
      ·rw [if_neg q6] at hT
       have q6b : (v == 1) = false := by simp [q6]
       obtain ⟨r, T1, im, rfl, i, T2, T3⟩ := Se hp
       simp [eRmK, eRn] at T1
       simp [F_c_ref21_parse, eRn, B, q1b, wc, q2a, q2c, q3b, N, q4b, wn, Lg, q6b, T1, T2.cp, eRm]
       subst hT
       exact ⟨_, ⟨rfl, rfl⟩, _, imR i, T3⟩
     ·rw [if_pos q5] at hT
      subst hT
      have q5b : (legal (c.toNat : Int) (p : Int) != 0) = true := by simp [q5]
      simp [F_c_ref21_parse, eRn, B, q1b, wc, q2a, q2c, q3b, N, q4b, wn, Lg, q5b]
      exact ⟨_, imR_oo zeroI, fun h => absurd h q5⟩
    ·rw [if_pos q4] at hT
     subst hT
     have q4b : (z.e != 0) = true := by simp [q4]
     simp [F_c_ref21_parse, eRn, B, q1b, wc, q2a, q2c, q3b, N, q4b, wn]
     exact ⟨_, imR_oo zeroI, fun h => absurd h q4⟩
 ·have q1b : (y.e != 0) = true := by simp [q1]
  rw [if_pos (by simpa using q1)] at hT
  subst hT
  simp [F_c_ref21_parse, eRn, B, q1b]
  exact ⟨_, imR_oo zeroI, fun h => absurd h q1⟩
theorem verI_len {s : List UInt8} (h : (verI s).2 = 0) : 5 ≤ s.length ∧ s.length ≤ 65536 ∧ 1 ≤ (verI s).1 ∧ (verI s).1 ≤ 4 := by
 unfold verI at h ⊢
 split at h
 ·cases h
 rename_i h1
 rw [if_neg h1]
 split at h
 ·cases h
 rename_i h2
 rw [if_neg h2]
 split at h
 ·cases h
 ·rename_i v hv
  have := (List.getElem?_eq_some_iff.1 hv).1
  split at h
  ·cases h
  ·rename_i h3
   rw [if_neg h3]
   simp only
   omega
theorem openR_eq {s : List UInt8} (h : 4 ≤ s.length) : openR s = if sealB (s.take (s.length - 4)) = s then (s.take (s.length - 4), 0) else ([], 7) := by
 by_cases h1 : sealB (s.take (s.length - 4)) = s
 ·rw [if_pos h1]
  have := openR_seal (s.take (s.length - 4))
  rw [h1] at this
  exact this
 ·rw [if_neg h1]
  unfold openR
  rw [if_neg (by omega)]
  split
  ·rfl
  ·rename_i h2
   exact absurd (openR_inv (s := s) (by unfold openR; rw [if_neg (by omega), if_neg h2])).symm h1
theorem c_ref21_Read (s : List UInt8) (hs : s.length ≤ 1073741824) (sg) :
    ∃ r, LL.call n_c_ref21_Read [.s (bs s)] sg sg.length = some r ∧ ∃ im, r = (.t [im, .i .i64 (readV s).1, .i .i64 (readV s).2.1], sg, sg.length) ∧ ImR im (if (readV s).2.1 = 0 then (readV s).2.2 else zeroI) := by
 generalize hT : readV s = T
 refine wp_call_ex e_c_ref21_Read rfl ?_
 have V1 := c_ref21_Version s (by omega) sg
 have hvl := verI_len (s := s)
 unfold readV elderR oldR at hT
 simp only at hT
 generalize verI s = V at *
 obtain ⟨v, e⟩ := V
 simp only at hT V1 hvl
 by_cases q1 : e = 0
 case neg =>
  rw [if_pos q1] at hT
  have q1b : (e != 0) = true := by simp [q1]
  subst hT
  simp [F_c_ref21_Read, V1, q1b, q1]
  exact imR_oo zeroI
 obtain ⟨l1, l2, l3, l4⟩ := hvl q1
 rw [if_neg (by simpa using q1)] at hT
 have q1b : (e != 0) = false := by simp [q1]
 by_cases h4 : v = 4
 ·have D1 := c_ref20_Decode s hs sg
  rw [if_pos h4] at hT
  generalize decR s = E at *
  by_cases q2 : E.1 = 0
  ·rw [if_neg (by simpa using q2)] at hT
   subst hT
   simp [q2, eRmK] at D1
   simp [F_c_ref21_Read, V1, q1b, h4, D1, q2]
   exact imR E.2
  ·rw [if_pos q2] at hT
   have q2b : (E.1 != 0) = true := by simp [q2]
   subst hT
   simp [q2, eRmK] at D1
   simp [F_c_ref21_Read, V1, q1b, h4, D1, q2b, q2]
   exact imR_oo zeroI
 rw [if_neg h4] at hT
 have h4b : (v == 4) = false := by simp [h4]
 have key : ∀ (b : List UInt8), b.length ≤ 1073741824 → ∃ im i, LL.call n_c_ref21_parse [.i .i64 v, .s (bs (b.drop 5))] sg sg.length = some (.t [im, .i .i64 (parseR v (b.drop 5)).1], sg, sg.length) ∧ ImR im i ∧ ((parseR v (b.drop 5)).1 = 0 → i = (parseR v (b.drop 5)).2) := by
  intro b hb
  obtain ⟨r, P1, im, i, rfl, P2, P3⟩ := c_ref21_parse v (b.drop 5) (by simp; omega) sg
  exact ⟨im, i, P1, P2, P3⟩
 have w5 : ∀ b : List UInt8, (if (5 : Int) < b.length then (5 : Int) else b.length) = ((min b.length 5 : Nat) : Int) := fun b => by split <;> omega
 have w6 : ∀ b : List UInt8, (if (b.length : Int) < 5 then (b.length : Int) else 5) = ((min b.length 5 : Nat) : Int) := fun b => by split <;> omega
 have hd5 : ∀ b : List UInt8, List.drop (min b.length 5) b = List.drop 5 b := by
  intro b
  rcases Nat.le_total b.length 5 with h | h
  ·rw [Nat.min_eq_left h, List.drop_length, List.drop_of_length_le h]
  ·rw [Nat.min_eq_right h]
 have hm5 : ∀ b : List UInt8, ((min b.length 5 : Nat) : Int) ≤ b.length := fun b => by omega
 by_cases q0 : 1 < v
 ·rw [if_pos q0, openR_eq (by omega)] at hT
  obtain ⟨n, hn⟩ : ∃ n, s.length = n + 4 := ⟨s.length - 4, by omega⟩
  have w1 : IntKind.i64.wrap ((s.length : Int) - 4) = (n : Int) := by rw [wrap64 (by omega)]; omega
  have n1 : (n : Int) ≤ s.length := by omega
  have n2 : n ≤ s.length := by omega
  rw [show s.length - 4 = n by omega] at hT
  have hbl : (s.take n).length = n := by simp; omega
  generalize hb : s.take n = b at *
  have S1 := c_ref02_Seal b (by omega) sg
  by_cases q2 : sealB b = s
  ·rw [if_pos q2] at hT
   simp only [ne_eq, not_true_eq_false, if_false] at hT
   obtain ⟨im, i, P1, P2, P3⟩ := key b (by omega)
   have C1 := fun ho => c_ref17_Check i ho sg
   have hok := fun h => (parse_fine (v := v) (s := b.drop 5) h).ok
   generalize parseR v (b.drop 5) = P at *
   have w7 := w6 b
   have w8 := w5 b
   have d5 := hd5 b
   have m5 := hm5 b
   by_cases q3 : P.1 = 0
   ·simp [q3] at hT
    obtain rfl := P3 q3
    have C1 := C1 (hok q3)
    simp [eRm] at C1
    simp [q3] at P1
    by_cases q4 : checkI P.2 = 0
    ·simp [q4] at hT
     subst hT
     simp [F_c_ref21_Read, V1, q1b, h4b, q0, w1, n1, n2, hb, S1, q2, bins, w7, w8, d5, m5, P1, P2.cp, eRm, C1, q4]
     exact imR P.2
    ·simp [q4] at hT
     have q4b : (checkI P.2 != 0) = true := by simp [q4]
     subst hT
     simp [F_c_ref21_Read, V1, q1b, h4b, q0, w1, n1, n2, hb, S1, q2, bins, w7, w8, d5, m5, P1, P2.cp, eRm, C1, q4b, q4]
     exact imR_oo zeroI
   ·simp [q3] at hT
    have q3b : (P.1 != 0) = true := by simp [q3]
    have q3c : (P.1 == 0) = false := by simp [q3]
    subst hT
    simp [F_c_ref21_Read, V1, q1b, h4b, q0, w1, n1, n2, hb, S1, q2, bins, w7, w8, d5, m5, P1, P2.cp, eRm, q3, q3b, q3c]
    exact imR_oo zeroI
  ·rw [if_neg q2] at hT
   have q2b : (sealB b == s) = false := by simpa using q2
   simp at hT
   subst hT
   simp [F_c_ref21_Read, V1, q1b, h4b, q0, w1, n1, n2, hb, S1, q2, q2b, bins]
   exact imR_oo zeroI
 ·rw [if_neg q0] at hT
  simp only [ne_eq, not_true_eq_false, if_false] at hT
  obtain ⟨im, i, P1, P2, P3⟩ := key s (by omega)
  have C1 := fun ho => c_ref17_Check i ho sg
  have hok := fun h => (parse_fine (v := v) (s := s.drop 5) h).ok
  generalize parseR v (s.drop 5) = P at *
  have w7 := w6 s
  have w8 := w5 s
  have d5 := hd5 s
  have m5 := hm5 s
  by_cases q3 : P.1 = 0
  ·simp [q3] at hT
   obtain rfl := P3 q3
   have C1 := C1 (hok q3)
   simp [eRm] at C1
   simp [q3] at P1
   by_cases q4 : checkI P.2 = 0
   ·simp [q4] at hT
    subst hT
    simp [F_c_ref21_Read, V1, q1b, h4b, q0, w7, w8, d5, m5, P1, P2.cp, eRm, C1, q4]
    exact imR P.2
   ·simp [q4] at hT
    have q4b : (checkI P.2 != 0) = true := by simp [q4]
    subst hT
    simp [F_c_ref21_Read, V1, q1b, h4b, q0, w7, w8, d5, m5, P1, P2.cp, eRm, C1, q4b, q4]
    exact imR_oo zeroI
  ·simp [q3] at hT
   have q3b : (P.1 != 0) = true := by simp [q3]
   have q3c : (P.1 == 0) = false := by simp [q3]
   subst hT
   simp [F_c_ref21_Read, V1, q1b, h4b, q0, w7, w8, d5, m5, P1, P2.cp, eRm, q3, q3b, q3c]
   exact imR_oo zeroI
end Go.AM

namespace Go.AM
theorem byteR_inv {x : Oc} (h : (byteR x).1.e = 0) : x.e = 0 ∧ x.s = (byteR x).2 :: (byteR x).1.s := by
 by_cases he : x.e = 0
 ·refine ⟨he, ?_⟩
  obtain ⟨s, e⟩ := x
  simp only at he
  subst he
  cases s with
  | nil => rw [byteR_nil] at h; simp [failR] at h
  | cons c s => rw [byteR_cons]
 ·rw [byteR_err he] at h; exact absurd h he
theorem wholeR4_inv {x : Oc} (h : (wholeR x 4).1.e = 0) : x.e = 0 ∧ x.s = fixB (wholeR x 4).2 4 ++ (wholeR x 4).1.s := by
 by_cases he : x.e = 0
 ·refine ⟨he, ?_⟩
  obtain ⟨s, e⟩ := x
  simp only at he
  subst he
  by_cases hl : s.length < 4
  ·rw [wholeR4_short hl] at h; simp [failR] at h
  ·rw [wholeR4_long hl]
   have := fixB_leV (s.take 4)
   rw [show (s.take 4).length = 4 by simp; omega] at this
   simp only [this, List.take_append_drop]
 ·rw [wholeR_err he] at h; exact absurd h he
theorem rowR_inv {x : Oc} (h : (rowR x).x.e = 0) : x.e = 0 ∧ x.s = (rowR x).id :: (fixB (rowR x).at_ 4 ++ (fixB (rowR x).sz 4 ++ (fixB (rowR x).sm 4 ++ (rowR x).x.s))) := by
 obtain ⟨h1, h2⟩ := wholeR4_inv (x := (wholeR (wholeR (byteR x).1 4).1 4).1) h
 obtain ⟨h3, h4⟩ := wholeR4_inv h1
 obtain ⟨h5, h6⟩ := wholeR4_inv h3
 obtain ⟨h7, h8⟩ := byteR_inv h5
 refine ⟨h7, ?_⟩
 show x.s = (byteR x).2 :: (fixB (wholeR (byteR x).1 4).2 4 ++ (fixB (wholeR (wholeR (byteR x).1 4).1 4).2 4 ++ (fixB (wholeR (wholeR (wholeR (byteR x).1 4).1 4).1 4).2 4 ++ (wholeR (wholeR (wholeR (byteR x).1 4).1 4).1 4).1.s)))
 rw [h8]; congr 1; rw [h6]; congr 1; rw [h4]; congr 1
theorem rowE_inv {al : List UInt8} {r : Rw} {k next : Nat} (h : rowE al r k next = 0) : r.x.e = 0 ∧ r.id.toNat = k + 1 ∧ r.at_ = next ∧ next + r.sz ≤ al.length ∧ sumN (partR al next r.sz) = r.sm := by
 unfold rowE at h
 split at h
 ·contradiction
 rename_i h1
 split at h
 ·simp at h
 rename_i h2
 split at h
 ·simp at h
 rename_i h3
 split at h
 ·simp at h
 rename_i h4
 simp only [ne_eq, Decidable.not_not, not_or] at h1 h2 h4
 obtain ⟨h2, h5⟩ := h2
 rw [h5] at h3 h4
 exact ⟨h1, h2, h5, by omega, h4⟩
theorem ofNat_of {c : UInt8} {n : Nat} (h : c.toNat = n) : c = UInt8.ofNat n := by rw [← h]; simp
theorem partR_len {al : List UInt8} {a z : Nat} (h : a + z ≤ al.length) : (partR al a z).length = z := by unfold partR; simp; omega
theorem row_ent {al : List UInt8} {x : Oc} {k next : Nat} (hk : k < 255) (h : rowE al (rowR x) k next = 0) :
    x.e = 0 ∧ x.s = entB (k + 1) next (partR al next (rowR x).sz) ++ (rowR x).x.s ∧ (partR al next (rowR x).sz).length = (rowR x).sz ∧ next + (rowR x).sz ≤ al.length := by
 obtain ⟨h1, h2, h3, h4, h5⟩ := rowE_inv h
 obtain ⟨h6, h7⟩ := rowR_inv h1
 have hl := partR_len h4
 refine ⟨h6, ?_, hl, h4⟩
 rw [h7, ofNat_of h2, h3, ← h5]
 unfold entB
 rw [hl]
 simp
theorem sctR_inv {al : List UInt8} {x : Oc} (h : (sctR al x).1 = 0) : ∃ mt dt r, (sctR al x).2 = [(1, mt), (2, dt)] ∧ x.e = 0 ∧ x.s = 2 :: (entB 1 37 mt ++ (entB 2 (37 + mt.length) dt ++ r)) ∧ al.length = 37 + mt.length + dt.length ∧ al.drop 37 = mt ++ dt := by
 unfold sctR at h ⊢
 split at h
 ·contradiction
 rename_i h1
 rw [if_neg h1]
 split at h
 ·simp at h
 rename_i h2
 rw [if_neg h2]
 simp only [ne_eq, Decidable.not_not] at h1 h2
 obtain ⟨a1, a2⟩ := byteR_inv h1
 rw [rowsR_succ] at h ⊢
 split at h
 ·contradiction
 rename_i h3
 rw [if_neg h3]
 simp only [ne_eq, Decidable.not_not] at h3
 rw [rowsR_succ] at h ⊢
 split at h
 ·contradiction
 rename_i h4
 rw [if_neg h4]
 simp only [ne_eq, Decidable.not_not] at h4
 obtain ⟨b1, b2, b3, b4⟩ := row_ent (by omega) h3
 obtain ⟨c1, c2, c3, c4⟩ := row_ent (by omega) h4
 obtain ⟨-, d1, -, -, -⟩ := rowE_inv h3
 obtain ⟨-, d2, -, -, -⟩ := rowE_inv h4
 unfold rowsR at h ⊢
 simp only at h ⊢
 by_cases h5 : 37 + (rowR (byteR x).1).sz + (rowR (rowR (byteR x).1).x).sz = al.length
 ·refine ⟨partR al 37 (rowR (byteR x).1).sz, partR al (37 + (rowR (byteR x).1).sz) (rowR (rowR (byteR x).1).x).sz, (rowR (rowR (byteR x).1).x).x.s, by rw [d1, d2]; rfl, a1, ?_, by rw [b3, c3]; omega, ?_⟩
  ·rw [a2, ofNat_of h2, b2, c2, b3]; rfl
  ·unfold partR
   rw [h5, List.take_length]
   have := List.take_append_drop (37 + (rowR (byteR x).1).sz) al
   conv => lhs; rw [← this]
   rw [List.drop_append_of_le_length (by simp; omega)]
 ·rw [if_pos h5] at h; simp at h
theorem hd0_inv {s : List UInt8} (h : hd0 s = 0) : ∃ k r, s = [67, 82, 89, 79] ++ (4 :: k :: (fixB s.length 4 ++ r)) ∧ s.length ≤ 65536 := by
 unfold hd0 at h
 split at h
 ·simp at h
 rename_i h1
 split at h
 ·simp at h
 rename_i h2
 simp only [ne_eq, Decidable.not_not] at h1
 have hs := List.take_append_drop 4 s
 rw [h1] at hs
 have hl : (s.drop 4).length = s.length - 4 := by simp
 generalize s.drop 4 = r at *
 cases r with
 | nil => simp at h
 | cons v r =>
  simp only at h
  split at h
  ·simp at h
  rename_i hv
  simp only [ne_eq, Decidable.not_not] at hv
  cases r with
  | nil => simp at h
  | cons k r =>
   simp only at h
   split at h
   ·simp at h
   rename_i h4
   split at h
   ·simp at h
   rename_i h5
   split at h
   ·simp at h
   rename_i h6
   have e : leV (r.take 4) = s.length := by omega
   have := fixB_leV (r.take 4)
   rw [show (r.take 4).length = 4 by simp; omega, e] at this
   refine ⟨k, r.drop 4, ?_, by omega⟩
   rw [this, List.take_append_drop, ← hs, ofNat_of hv]; rfl
theorem decR_inv {s : List UInt8} (h : (decR s).1 = 0) : (decR s).2.rd ∧ checkI (decR s).2 = 0 ∧ s = encB (decR s).2 ∧ s.length ≤ 65536 := by
 unfold decR at h ⊢
 by_cases h0 : hd0 s = 0
 case neg => rw [if_pos h0] at h; exact absurd h h0
 rw [if_neg (by simpa using h0)] at h ⊢
 by_cases h1 : (openR s).2 = 0
 case neg => rw [if_pos h1] at h; exact absurd h h1
 rw [if_neg (by simpa using h1)] at h ⊢
 have hop : openR s = ((openR s).1, 0) := by rw [← h1]
 have hs := openR_inv hop
 generalize (openR s).1 = al at *
 by_cases h2 : (sctR al (bytesR ⟨al, 0⟩ 10).1).1 = 0
 case neg => rw [if_pos h2] at h; exact absurd h h2
 rw [if_neg (by simpa using h2)] at h ⊢
 obtain ⟨mt, dt, r, a1, a2, a3, a4, a5⟩ := sctR_inv h2
 rw [a1] at h ⊢
 by_cases h3 : (readS (kindF s) [(1, mt), (2, dt)]).1 = 0
 case neg => rw [if_pos h3] at h; exact absurd h h3
 rw [if_neg (by simpa using h3)] at h ⊢
 by_cases h4 : checkI (readS (kindF s) [(1, mt), (2, dt)]).2 = 0
 case neg => rw [if_pos h4] at h; exact absurd h h4
 rw [if_neg (by simpa using h4)]
 simp only
 have hk : ¬ (kindF s < 1 ∨ 4 < kindF s) := by
  intro hk
  have : readS (kindF s) [(1, mt), (2, dt)] = (6, zeroI) := if_pos hk
  rw [this] at h3; simp at h3
 have hrs : readS (kindF s) [(1, mt), (2, dt)] = readI (kindF s) mt dt := by unfold readS; rw [if_neg hk]; simp
 rw [hrs] at h3 h4 ⊢
 obtain ⟨b1, b2, b3, b4⟩ := readI_inv (mt := mt) (dt := dt) (k := kindF s) (by omega) h3
 obtain ⟨k, q, c1, c2⟩ := hd0_inv h0
 refine ⟨b1, h4, ?_, c2⟩
 have hsl : s.length = al.length + 4 := by rw [hs]; simp [sealB, fixB_len]
 have hkf : kindF s = k.toNat := by unfold kindF; rw [c1]; rfl
 have hbt : (bytesR ⟨al, 0⟩ 10).1 = ⟨al.drop 10, 0⟩ := by
  unfold bytesR; rw [if_neg (by simp), if_neg (by simp; omega)]; rfl
 rw [hbt] at a3
 simp only at a3
 have h10 : al.take 10 = s.take 10 := by
  rw [hs]; unfold sealB; rw [List.take_append_of_le_length (by omega)]
 have h10' : s.take 10 = [67, 82, 89, 79] ++ (4 :: k :: fixB s.length 4) := by
  conv => lhs; rw [c1]
  have e : [67, 82, 89, 79] ++ (4 :: k :: (fixB s.length 4 ++ q)) = ([67, 82, 89, 79] ++ (4 :: k :: fixB s.length 4)) ++ q := by simp
  rw [e, take_app_len (by simp [fixB_len])]
 have hr : r = mt ++ dt := by
  rw [← a5, show al.drop 37 = (al.drop 10).drop 27 by rw [List.drop_drop], a3]
  have e : 2 :: (entB 1 37 mt ++ (entB 2 (37 + mt.length) dt ++ r)) = (2 :: (entB 1 37 mt ++ entB 2 (37 + mt.length) dt)) ++ r := by simp
  rw [e, drop_app_len (by simp [entB_len])]
 have hal : al = bodyB (readI (kindF s) mt dt).2 := by
  conv => lhs; rw [← List.take_append_drop 10 al, h10, h10', a3, hr]
  unfold bodyB
  rw [b3, b4, b2, hkf, show s.length = 41 + mt.length + dt.length by omega]
  simp
 unfold encB
 rw [← hal]; exact hs
end Go.AM

namespace Go.AM
theorem sitG_fwd : ∀ (l : List It) (r : List UInt8) (acc : List It), (∀ y ∈ l, y.can) → sitG l.length ⟨l.flatMap it2 ++ r, 0⟩ acc = (⟨r, 0⟩, acc ++ l)
 | [], r, acc, h => by simp [sitG]
 | y :: l, r, acc, h => by
  have hy := h y (by simp)
  have ih := sitG_fwd l r (acc ++ [y]) (fun z hz => h z (by simp [hz]))
  have e : (y :: l).flatMap it2 ++ r = fixB y.p 8 ++ (numB (zig y.v) ++ (l.flatMap it2 ++ r)) := by simp [it2]
  have hi : itE y.p y.v = y := by simp [itE, hy.2]
  rw [List.length_cons, sitG_succ, e, wholeR_fixB hy.1.1]
  simp only
  rw [signR_numB hy.1.2]
  simp only [hi]
  rw [if_neg (by simp), ih]
  simp
theorem slsG_fwd (most : Nat) (hm : most < 18446744073709551616) : ∀ (ls : List (List It)) (r : List UInt8) (acc), (∀ m ∈ ls, (∀ y ∈ m, y.can) ∧ m.length ≤ most) → slsG most ls.length ⟨ls.flatMap its2 ++ r, 0⟩ acc = (⟨r, 0⟩, acc ++ ls)
 | [], r, acc, h => by simp [slsG]
 | m :: ls, r, acc, h => by
  have hm' := h m (by simp)
  have ih := slsG_fwd most hm ls r (acc ++ [m]) (fun z hz => h z (by simp [hz]))
  have e : (m :: ls).flatMap its2 ++ r = numB m.length ++ (m.flatMap it2 ++ (ls.flatMap its2 ++ r)) := by simp [its2]
  rw [List.length_cons, slsG_succ, e, numR_numB (by have := hm'.2; omega), if_neg (by have := hm'.2; omega)]
  simp only
  rw [sitG_fwd m _ [] hm'.1]
  simp only [List.nil_append]
  rw [ih]
  simp
theorem orders_le {k : Int} : ∀ {ls : List (List It)}, ordersE k ls = 0 → ∀ l ∈ ls, k = 1 → l.length ≤ 62 ∧ ordered l
 | [], _, l, hl, _ => by simp at hl
 | a :: r, h, l, hl, hk => by
  unfold ordersE at h
  split at h
  ·contradiction
  rename_i h1
  rcases List.mem_cons.1 hl with rfl | hl
  ·simp only [orderE, if_pos hk] at h1
   split at h1
   ·simp at h1
   rename_i h2
   split at h1
   ·rename_i h3; exact ⟨by omega, h3⟩
   ·simp at h1
  ·exact orders_le h l hl hk
theorem good_most {x : Im} (h : x.good) : ∀ m ∈ x.ls, (∀ y ∈ m, y.can) ∧ m.length ≤ mostN x.k := by
 obtain ⟨f1, f2, f3, f4, f5, f6⟩ := check_facts h.ck
 intro m hm
 refine ⟨(h.rd.is m hm).1, ?_⟩
 unfold mostN
 split
 ·rename_i hk; exact (orders_le f3 m hm hk).1
 ·exact (h.rd.is m hm).2
theorem secR_fwd {x : Im} (h : x.good) : secR x.k x.p ⟨x.ls.flatMap its2 ++ x.cs.flatMap (fun n => numB n.toNat), 0⟩ = (0, x.ls, x.cs) := by
 have e2 := countsG_fwd x.cs [] [] h.rd.cs
 rw [List.append_nil] at e2
 have hm : mostN x.k < 18446744073709551616 := by unfold mostN; split <;> omega
 unfold secR
 rw [← h.rd.l, ← h.rd.n, slsG_fwd _ hm x.ls _ [] (good_most h)]
 simp only
 rw [e2]
 simp [endR_nil]
theorem kind_byte {x : Im} (h : x.good) : ((UInt8.ofNat x.k.toNat).toNat : Int) = x.k := by
 have := h.rd.k
 rw [ofNat_toNat' (by omega)]; omega
theorem good_legal {x : Im} (h : x.good) : legal x.k x.p = 0 := (check_facts h.ck).1
theorem parse2_fwd {x : Im} (h : x.good) : parseR 2 (UInt8.ofNat x.k.toNat :: twoB x) = (0, { x with c := 0 }) := by
 have hp := h.rd.p
 have hk := h.rd.k
 have ep : ((x.p.toNat : Nat) : Int) = x.p := by omega
 have e1 := numR_numB (n := x.p.toNat) (most := 255) (by omega) (x.ls.flatMap its2 ++ x.cs.flatMap (fun n => numB n.toNat))
 rw [if_neg (by omega)] at e1
 unfold parseR twoB
 simp only
 rw [byteR_cons]
 simp only
 rw [e1]
 simp only [kind_byte h, ep, good_legal h, secR_fwd h]
 simp
 omega
theorem bytesR_app0 (a l : List UInt8) : bytesR ⟨a ++ l, 0⟩ a.length = (⟨l, 0⟩, a) := by
 cases a with
 | nil => simp [bytesR]
 | cons c a => exact bytesR_app _ _ (by simp)
theorem parse3_fwd {x : Im} (h : x.good) : parseR 3 (UInt8.ofNat x.k.toNat :: threeB x) = (0, x) := by
 have hk := h.rd.k
 obtain ⟨m1, m2⟩ := good_lens h
 have e3 := bytesR_app0 (dataB x) []
 rw [List.append_nil] at e3
 have hth : thirdR x.k ⟨threeB x, 0⟩ = (0, x) := by
  unfold thirdR threeB
  simp only [List.cons_append, List.nil_append]
  rw [byteR_cons]
  simp only
  rw [byteR_cons]
  simp only
  rw [wholeR4_fix (by omega)]
  simp only
  rw [byteR_cons]
  simp only
  rw [wholeR4_fix (by omega)]
  simp only
  rw [bytesR_app0]
  simp only
  rw [e3]
  simp [endR_nil, readI_fwd h.rd]
 unfold parseR
 simp only
 rw [byteR_cons]
 simp only [kind_byte h, hth]
 simp
 omega
theorem verI_of {v : UInt8} {r : List UInt8} (h1 : 1 ≤ v.toNat) (h2 : v.toNat ≤ 4) (hl : r.length ≤ 65000) : verI ([67, 82, 89, 79, v] ++ r) = ((v.toNat : Int), 0) := by
 unfold verI
 rw [if_neg (by simp [magic]), if_neg (by simp; omega)]
 simp
 omega
theorem checkI_c {x : Im} (h : checkI x = 0) (c : Int) : checkI { x with c := c } = 0 := h
theorem readV_two {x : Im} (h : x.good) : readV (wrtB x 2) = (2, 0, { x with c := 0 }) := by
 have l2 := twoB_len h
 have hw : wrtB x 2 = sealB (headB x 2 ++ twoB x) := rfl
 have hv : verI (wrtB x 2) = (2, 0) := by
  have := verI_of (v := 2) (r := UInt8.ofNat x.k.toNat :: (twoB x ++ fixB (sumN (headB x 2 ++ twoB x)) 4)) (by decide) (by decide) (by simp [fixB_len]; omega)
  rw [hw]
  simpa [sealB, headB] using this
 have hE : elderR 2 (wrtB x 2) = (0, { x with c := 0 }) := by
  unfold elderR oldR
  have h1 : (1 : Int) < 2 := by decide
  rw [if_neg (by decide)]
  simp only [if_pos h1]
  rw [hw, openR_seal]
  have hd : (headB x 2 ++ twoB x).drop 5 = UInt8.ofNat x.k.toNat :: twoB x := rfl
  simp only [hd, parse2_fwd h]
  simp [checkI_c h.ck]
 unfold readV
 rw [hv]
 simp only [hE]
 simp
theorem readV_three {x : Im} (h : x.good) : readV (wrtB x 3) = (3, 0, x) := by
 obtain ⟨m1, m2⟩ := good_lens h
 have l3 : (threeB x).length ≤ 25000 := by simp [threeB, fixB_len]; omega
 have hw : wrtB x 3 = sealB (headB x 3 ++ threeB x) := rfl
 have hv : verI (wrtB x 3) = (3, 0) := by
  have := verI_of (v := 3) (r := UInt8.ofNat x.k.toNat :: (threeB x ++ fixB (sumN (headB x 3 ++ threeB x)) 4)) (by decide) (by decide) (by simp [fixB_len]; omega)
  rw [hw]
  simpa [sealB, headB] using this
 have hE : elderR 3 (wrtB x 3) = (0, x) := by
  unfold elderR oldR
  have h1 : (1 : Int) < 3 := by decide
  rw [if_neg (by decide)]
  simp only [if_pos h1]
  rw [hw, openR_seal]
  have hd : (headB x 3 ++ threeB x).drop 5 = UInt8.ofNat x.k.toNat :: threeB x := rfl
  simp only [hd, parse3_fwd h]
  simp [h.ck]
 unfold readV
 rw [hv]
 simp only [hE]
 simp
theorem readV_four {x : Im} (h : x.good) : readV (wrtB x 4) = (4, 0, x) := by
 obtain ⟨m1, m2⟩ := good_lens h
 have hw : wrtB x 4 = encB x := rfl
 obtain ⟨r, hr⟩ := encB_head x
 have hel := encB_len x
 have hv : verI (wrtB x 4) = (4, 0) := by
  have := verI_of (v := 4) (r := UInt8.ofNat x.k.toNat :: (fixB (41 + (metaB x).length + (dataB x).length) 4 ++ r)) (by decide) (by decide) (by rw [hr] at hel; simp [fixB_len] at hel ⊢; omega)
  rw [hw, hr]
  simpa using this
 unfold readV elderR
 rw [hv]
 simp only [if_true]
 rw [hw, decR_enc h.rd h.ck (by omega)]
 simp
end Go.AM

namespace Go.AM
theorem wc_liste {α β : Type} {B : C} {Q : Rs → Prop} {s : St} (l : List α) (st : Nat → β → St) (P : Nat → List α → β → Prop) (b : β) (hs : s = st 0 b) (hb : P 0 l b)
    (h : ∀ i x r b (hi : i < l.length), l[i] = x → P i (x :: r) b → (∀ b', P (i + 1) r b' → @WC (.loop B) (st (i + 1) b') ⟨Q⟩ trivial) → @WC B (st i b) ⟨fun r => @SqQ (.loop B) ⟨Q⟩ r trivial⟩ trivial)
    (he : ∀ b, P l.length [] b → @WC B (st l.length b) ⟨fun r => @SqQ (.loop B) ⟨Q⟩ r trivial⟩ trivial) : @WC (.loop B) s ⟨Q⟩ trivial := by
 rw [hs]
 refine wc_ind (fun a : Nat × β => st a.1 a.2) (fun a => l.length - a.1) (fun a => a.1 ≤ l.length ∧ P a.1 (l.drop a.1) a.2) ?_ (0, b) ⟨by simp, by simpa using hb⟩
 rintro ⟨i, b⟩ ⟨h1, h2⟩ ih
 simp only at h1 h2 ih ⊢
 rcases Nat.lt_or_eq_of_le h1 with h3 | h3
 ·rw [List.drop_eq_getElem_cons h3] at h2
  exact h i l[i] _ b h3 rfl h2 (fun b' hb' => ih (i + 1, b') (by simp; omega) ⟨h3, hb'⟩)
 ·subst h3; rw [List.drop_length] at h2; exact he b h2
theorem c_ref21_Write (x : Im) (h : x.good) (v : Int) (hv : 1 ≤ v ∧ v ≤ 4) (sg) : LL.call n_c_ref21_Write [eRm x, .i .i64 v] sg sg.length = some (.s (bs (wrtB x v)), sg, sg.length) := by
 generalize hT : wrtB x v = T
 refine wp_call e_c_ref21_Write rfl ?_
 have hk := h.rd.k
 have hp := h.rd.p
 have hk8 : IntKind.u8.wrap x.k = ((UInt8.ofNat x.k.toNat).toNat : Int) := by
  have := u8_wrap x.k.toNat
  rwa [show ((x.k.toNat : Nat) : Int) = x.k by omega] at this
 obtain ⟨m1, m2⟩ := good_lens h
 have l1 := oneB_len h
 have l2 := twoB_len h
 have l3 : (threeB x).length ≤ 25000 := by simp [threeB, fixB_len]; omega
 obtain ⟨g1, g2, g3, g4, g5⟩ := good_val h
 have hL := h.rd.lens
 have w0 : IntKind.u64.wrap x.p = x.p.toNat := by rw [wrapu64 (by omega)]; omega
 have hN := c_ref01_Num2 x.p.toNat (by omega) sg
 have l10 := numB_len10 (n := x.p.toNat) (by omega)
 have c1 : IntKind.u8.wrap 1 = 1 := by decide
 have c2 : IntKind.u8.wrap 2 = 2 := by decide
 have c3 : IntKind.u8.wrap 3 = 3 := by decide
 have c4 : IntKind.u8.wrap 4 = 4 := by decide
 have e1 : headB x 1 = [67, 82, 89, 79, 1, UInt8.ofNat x.k.toNat] := rfl
 have e2 : headB x 2 = [67, 82, 89, 79, 2, UInt8.ofNat x.k.toNat] := rfl
 have e3 : headB x 3 = [67, 82, 89, 79, 3, UInt8.ofNat x.k.toNat] := rfl
 have t1 : ∀ c : UInt8, toBy [D.i .u8 1, D.i .u8 (c.toNat : Int)] = some [1, c] := fun c => toBy_eB [1, c]
 have t2 : ∀ c : UInt8, toBy [D.i .u8 2, D.i .u8 (c.toNat : Int)] = some [2, c] := fun c => toBy_eB [2, c]
 have t3 : ∀ c : UInt8, toBy [D.i .u8 3, D.i .u8 (c.toNat : Int)] = some [3, c] := fun c => toBy_eB [3, c]
 have t4 : ∀ c : UInt8, toBy [D.i .u8 4, D.i .u8 (c.toNat : Int)] = some [4, c] := fun c => toBy_eB [4, c]
 simp at hN
 have hv4 : v = 1 ∨ v = 2 ∨ v = 3 ∨ v = 4 := by omega
 rcases hv4 with rfl | rfl | rfl | rfl
 ·have hT' : headB x 1 ++ oneB x = T := hT
  have V1 := c_ref17_ValueI x h.rd.ok (by omega) (fun n hn => (h.rd.cs n hn).1) (by omega) (by omega) (fun l hl y hy => by
   have := ((h.rd.is l hl).1 y hy).2
   simp [It.canon, this]) sg
  have hvk : (valI x).k = x.k := rfl
  have hvn : (valI x).n = x.cs.sum := rfl
  simp [eRm, eVr, hvk, hvn] at V1
  rw [e1] at hT'
  generalize UInt8.ofNat x.k.toNat = c at *
  by_cases hk2 : 2 < x.k
  ·have hoB : oneB x = numB x.p.toNat ++ fixB x.cs.sum.toNat 8 := by unfold oneB; rw [if_neg (by omega)]
   have ws : IntKind.u64.wrap x.cs.sum = x.cs.sum.toNat := by rw [wrapu64 (by omega)]; omega
   have F1 := c_ref01_Fixed x.cs.sum.toNat (by omega) sg
   simp at F1
   rw [hoB] at hT'
   simp [F_c_ref21_Write, eRm, c1, hk8, t1, bins, w0, hN, V1, hk2, ws, F1]
   refine ⟨by omega, ?_⟩
   simp [bins, hT', fixB_len]
   rw [← hT']
   simp
   omega
  ·have hoB : oneB x = numB x.p.toNat ++ (fixB (valI x).is.length 4 ++ (valI x).is.flatMap it1) := by unfold oneB; rw [if_pos (by omega)]
   generalize (valI x).is = is at *
   rw [hoB] at hT'
   have hTl := congrArg List.length hT'
   have F1 := c_ref01_FixedK is.length (by omega) 4 (by omega) sg
   have wl : IntKind.u64.wrap (is.length : Int) = is.length := wrapu64 (by omega)
   have hTb : T.length ≤ 20000 := by rw [← hT', ← hoB]; simp; omega
   simp at F1
   simp [F_c_ref21_Write, eRm, c1, hk8, t1, bins, w0, hN, V1, hk2, wl, F1]
   refine ⟨by omega, ?_⟩
   simp [bins, fixB_len]
   refine ⟨by omega, ?_⟩
   refine wc_liste is (fun i c => ⟨[(5, .v (.s (bs c))), (53, .v (.l .o 2 (is.map eR))), (54, .v (.i .i64 is.length)), (55, .v (.i .i64 i))], [], sg, sg.length⟩) (fun i r (c : List UInt8) => c ++ r.flatMap it1 = T) ([67, 82, 89, 79, 1, c] ++ (numB x.p.toNat ++ fixB is.length 4)) (by simp) (by rw [← hT']; simp) ?_ ?_
   ·intro i y r c hlt hx hc ih
    have hlt' : (i : Int) < is.length := by omega
    have hi : is[i]? = some y := by rw [List.getElem?_eq_getElem hlt, hx]
    obtain ⟨hy, hyc⟩ := g2 y (mem_of_get hi)
    have hlen := congrArg List.length hc
    have hl16 := it1_len y
    simp [hl16] at hlen
    have F1 := c_ref01_Fixed y.p hy.1 sg
    have F2 := c_ref01_Fixed (u64N y.v) (u64N_lt _) sg
    have wv := wrap_u64N y.v
    have w1 : IntKind.i64.wrap ((i : Int) + 1) = i + 1 := wrap64 (by omega)
    try simp at F1 F2
    simp [hlt, hlt', hx, F1, wv, F2, bins, fixB_len]
    have := ih (c ++ it1 y) (by rw [← hc]; simp)
    refine ⟨by omega, ?_⟩
    simpa [w1, it1] using this
   ·intro c hc
    simp at hc
    simp [hc]
 ·have hT' : sealB (headB x 2 ++ twoB x) = T := hT
  rw [e2] at hT'
  have hTb : ([67, 82, 89, 79, 2, UInt8.ofNat x.k.toNat] ++ twoB x).length ≤ 24100 := by simp; omega
  generalize UInt8.ofNat x.k.toNat = c at *
  simp [F_c_ref21_Write, eRm, c2, hk8, t2, bins, w0, hN]
  refine ⟨by omega, ?_⟩
  refine wc_liste x.ls (fun i c => ⟨[(2, .q (.ptr 2 0)), (5, .v (.s (bs c))), (80, .v (.l .z 1 (x.ls.map (eL 2 eR)))), (81, .v (.i .i64 x.ls.length)), (82, .v (.i .i64 i))], [(2, [.i .i64 x.k, .i .i64 x.p, .i .u64 x.c, .l .z 1 (x.ls.map (eL 2 eR)), .l .z 1 (x.cs.map (.i .i64))])], sg, sg.length⟩)
   (fun _ r (b : List UInt8) => b ++ (r.flatMap its2 ++ x.cs.flatMap (fun n => numB n.toNat)) = [67, 82, 89, 79, 2, c] ++ twoB x) ([67, 82, 89, 79, 2, c] ++ numB x.p.toNat) (by simp) (by simp [twoB]) ?_ ?_
  ·intro i l r b hlt hx hb ih
   have hlt' : (i : Int) < x.ls.length := by omega
   have hl := h.rd.is l (by rw [← hx]; exact List.getElem_mem _)
   have hlen := congrArg List.length hb
   have hc1 : b.length ≤ 24100 := by rw [List.length_append] at hlen; omega
   have hn10 := numB_len10 (n := l.length) (by omega)
   have F1 := c_ref01_Num2 l.length (by omega) sg
   have w1 : IntKind.i64.wrap ((i : Int) + 1) = i + 1 := wrap64 (by omega)
   have wl : IntKind.u64.wrap (l.length : Int) = l.length := wrapu64 (by omega)
   simp [hlt, hlt', hx, eL, wl, F1, bins]
   refine ⟨by omega, ?_⟩
   refine wc_liste l (fun j c => ⟨[(2, .q (.ptr 2 0)), (5, .v (.s (bs c))), (80, .v (.l .z 1 (x.ls.map (eL 2 eR)))), (81, .v (.i .i64 x.ls.length)), (82, .v (.i .i64 i)), (92, .v (.l .z 2 (l.map eR))), (93, .v (.i .i64 l.length)), (94, .v (.i .i64 j))], [(2, [.i .i64 x.k, .i .i64 x.p, .i .u64 x.c, .l .z 1 (x.ls.map (eL 2 eR)), .l .z 1 (x.cs.map (.i .i64))])], sg, sg.length⟩)
    (fun _ q (b : List UInt8) => b ++ (q.flatMap it2 ++ (r.flatMap its2 ++ x.cs.flatMap (fun n => numB n.toNat))) = [67, 82, 89, 79, 2, c] ++ twoB x) (b ++ numB l.length) (by simp) (by rw [← hb]; simp [its2]) ?_ ?_
   ·intro j y q b hjl hy hb ih2
    have hjl' : (j : Int) < l.length := by omega
    obtain ⟨hyo, hyc⟩ := hl.1 y (by rw [← hy]; exact List.getElem_mem _)
    have hlen := congrArg List.length hb
    have hc1 : b.length ≤ 24100 := by rw [List.length_append] at hlen; omega
    have F1 := c_ref01_Fixed y.p hyo.1 sg
    have F2 := c_ref01_Int y.v hyo.2 sg
    have hn10 := numB_len10 (zig_lt hyo.2)
    have w1 : IntKind.i64.wrap ((j : Int) + 1) = j + 1 := wrap64 (by omega)
    try simp at F1 F2
    simp [hjl, hjl', hy, F1, F2, bins, fixB_len]
    refine ⟨by omega, by omega, ?_⟩
    have := ih2 (b ++ it2 y) (by rw [← hb]; simp)
    simpa [w1, it2] using this
   ·intro b hb
    simp only [List.flatMap_nil, List.nil_append] at hb
    simp [w1]
    exact ih b hb
  ·intro b hb
   simp only [List.flatMap_nil, List.nil_append] at hb
   simp
   refine wc_liste x.cs (fun i c => ⟨[(5, .v (.s (bs c))), (110, .v (.l .z 1 (x.cs.map (.i .i64)))), (111, .v (.i .i64 x.cs.length)), (112, .v (.i .i64 i))], [], sg, sg.length⟩)
    (fun _ r (b : List UInt8) => b ++ r.flatMap (fun n => numB n.toNat) = [67, 82, 89, 79, 2, c] ++ twoB x) b (by simp) hb ?_ ?_
   ·intro i n r b hlt hx hb ih
    have hlt' : (i : Int) < x.cs.length := by omega
    have hn := h.rd.cs n (by rw [← hx]; exact List.getElem_mem _)
    have hlen := congrArg List.length hb
    have hc1 : b.length ≤ 24100 := by rw [List.length_append] at hlen; omega
    have F1 := c_ref01_Num2 n.toNat (by omega) sg
    have hn10 := numB_len10 (n := n.toNat) (by omega)
    have w0 : IntKind.u64.wrap n = n.toNat := by rw [wrapu64 (by omega)]; omega
    have w1 : IntKind.i64.wrap ((i : Int) + 1) = i + 1 := wrap64 (by omega)
    simp at F1
    simp [hlt, hlt', hx, w0, F1, bins]
    refine ⟨by omega, ?_⟩
    have := ih (b ++ numB n.toNat) (by rw [← hb]; simp)
    simpa [w1] using this
   ·intro b hb
    simp only [List.flatMap_nil, List.append_nil] at hb
    have S1 := c_ref02_Seal b (by rw [hb]; omega) sg
    rw [hb, hT', ← hb] at S1
    simp [S1]
 ·have hT' : sealB (headB x 3 ++ threeB x) = T := hT
  rw [e3] at hT'
  have M1 := c_ref19_Meta x h.rd.wr' sg
  have D1 := c_ref19_Data x h.rd.wr' sg
  have hth : threeB x = [2, 1] ++ (fixB (metaB x).length 4 ++ ([2] ++ (fixB (dataB x).length 4 ++ (metaB x ++ dataB x)))) := rfl
  generalize UInt8.ofNat x.k.toNat = c at *
  generalize threeB x = b3 at *
  generalize metaB x = mt at *
  generalize dataB x = dt at *
  have wa : IntKind.u64.wrap (mt.length : Int) = mt.length := wrapu64 (by omega)
  have wb : IntKind.u64.wrap (dt.length : Int) = dt.length := wrapu64 (by omega)
  have F1 := c_ref01_FixedK mt.length (by omega) 4 (by omega) sg
  have F2 := c_ref01_FixedK dt.length (by omega) 4 (by omega) sg
  have S1 := c_ref02_Seal ([67, 82, 89, 79, 3, c] ++ b3) (by simp; omega) sg
  rw [hT', hth] at S1
  simp [eRm] at M1 D1
  simp at S1
  try simp at F1 F2
  simp [F_c_ref21_Write, eRm, c3, hk8, t3, bins, M1, D1, wa, wb, F1, F2, fixB_len]
  refine ⟨by omega, by omega, by omega, ?_⟩
  simp [S1]
 ·have hT' : encB x = T := hT
  have E1 := c_ref20_Encode x h.rd.wr' hk (by omega) (by omega) sg
  rw [hT'] at E1
  generalize UInt8.ofNat x.k.toNat = c at *
  simp [eRm] at E1
  simp [F_c_ref21_Write, eRm, c4, hk8, t4, bins, E1]
end Go.AM

namespace Go.AM
end Go.AM

namespace Go.AM
theorem elderR_fine {v : Int} {s : List UInt8} (h : (elderR v s).1 = 0) : (elderR v s).2.fine := by
 unfold elderR at h ⊢
 by_cases hv : v = 4
 ·rw [if_pos hv]
  rw [if_pos hv] at h
  exact rd_fine (decR_inv h).1
 ·rw [if_neg hv] at h ⊢
  unfold oldR at h ⊢
  simp only at h ⊢
  generalize (if 1 < v then openR s else (s, 0)) = b at *
  by_cases h1 : b.2 = 0
  case neg => rw [if_pos h1] at h; exact absurd h h1
  rw [if_neg (by simpa using h1)] at h ⊢
  by_cases h2 : (parseR v (b.1.drop 5)).1 = 0
  case neg => rw [if_pos h2] at h; exact absurd h h2
  rw [if_neg (by simpa using h2)] at h ⊢
  exact parse_fine h2
def awk21 : Im := ⟨4, 4, 0, [], [5]⟩
theorem awk21_good : awk21.good := ⟨⟨by simp [awk21], by simp [awk21], by simp [awk21], rfl, rfl, by simp [awk21], by simp [awk21]⟩, by decide⟩
end Go.AM

namespace Go.AM
theorem place21 {n i : Int} (hn : 0 < n) (hn2 : n ≤ 1099511627776) : ∃ m : Nat, (IntKind.i64.wrap (i.tmod n + n)).tmod n = m ∧ (m : Int) < n := by
 have h1 := Int.tmod_lt_of_pos i hn
 have h2 := Int.lt_tmod_of_pos i hn
 rw [wrap64 (by omega), Int.tmod_eq_emod_of_nonneg (by omega)]
 have h3 := Int.emod_nonneg (i.tmod n + n) (b := n) (by omega)
 have h4 := Int.emod_lt_of_pos (i.tmod n + n) hn
 exact ⟨((i.tmod n + n) % n).toNat, by omega, by omega⟩
theorem makeI_good (x : Raw) (h : x.ok) : (makeI x).good := ⟨makeI_rd x h, makeI_check x h⟩
theorem wrtB_len {x : Im} (h : x.good) {v : Int} (hv : 1 ≤ v ∧ v ≤ 4) : 10 ≤ (wrtB x v).length ∧ (wrtB x v).length ≤ 30000 ∧ (wrtB x v).take 5 = [67, 82, 89, 79, UInt8.ofNat v.toNat] := by
 have hp : 1 ≤ (numB x.p.toNat).length := by unfold numB; split <;> simp
 have l1 := oneB_len h
 have l2 := twoB_len h
 obtain ⟨m1, m2⟩ := good_lens h
 have hv4 : v = 1 ∨ v = 2 ∨ v = 3 ∨ v = 4 := by omega
 rcases hv4 with rfl | rfl | rfl | rfl
 ·have : 5 ≤ (oneB x).length := by
   unfold oneB
   split <;> simp [fixB_len] <;> omega
  simp [wrtB, headB]
  omega
 ·have : 1 ≤ (twoB x).length := by simp [twoB]; omega
  simp [wrtB, headB, sealB, fixB_len]
  omega
 ·have : 1 ≤ (threeB x).length := by simp [threeB]
  have : (threeB x).length ≤ 25000 := by simp [threeB, fixB_len]; omega
  simp [wrtB, headB, sealB, fixB_len]
  omega
 ·have := encB_len x
  obtain ⟨r, hr⟩ := encB_head x
  refine ⟨by simp only [wrtB]; simp; omega, by simp only [wrtB]; simp; omega, ?_⟩
  simp only [wrtB]
  simp [hr]
end Go.AM

namespace Go.AM
theorem fine_rd {x : Im} (h : x.fine) (hc : checkI x = 0) : x.rd := by
 obtain ⟨f1, ⟨f2, f3⟩, -⟩ := check_facts hc
 obtain ⟨s1, s2, -, -⟩ := shape_nat h.k h.p
 exact ⟨h.k, h.p, h.c, by omega, by omega, fun m hm => ⟨(h.ls m hm).2, (h.ls m hm).1⟩, h.cs⟩
theorem parse_c {v : Int} (hv : v = 1 ∨ v = 2) {s : List UInt8} (h : (parseR v s).1 = 0) : (parseR v s).2.c = 0 := by
 unfold parseR at h ⊢
 simp only at h ⊢
 split at h
 ·contradiction
 rename_i h1
 rw [if_neg h1]
 split at h
 ·cases h
 rename_i h2
 rw [if_neg h2, if_neg (by omega)]
 rw [if_neg (by omega)] at h
 split at h
 ·contradiction
 rename_i h3
 rw [if_neg h3]
 split at h
 ·contradiction
 rename_i h4
 rw [if_neg h4]
 split <;> rfl
theorem readV_good {s : List UInt8} (h : (readV s).2.1 = 0) : (readV s).2.2.good ∧ 1 ≤ (readV s).1 ∧ (readV s).1 ≤ 4 ∧ ((readV s).1 < 3 → (readV s).2.2.c = 0) ∧ ((readV s).1 = 4 → s = wrtB (readV s).2.2 4) := by
 unfold readV at h ⊢
 have hvl := verI_len (s := s)
 by_cases h1 : (verI s).2 = 0
 case neg => rw [if_pos h1] at h; exact absurd h h1
 obtain ⟨v1, v2, v3, v4⟩ := hvl h1
 rw [if_neg (by simpa using h1)] at h ⊢
 by_cases h2 : (elderR (verI s).1 s).1 = 0
 case neg => rw [if_pos h2] at h; exact absurd h h2
 rw [if_neg (by simpa using h2)]
 simp only
 refine ⟨?_, v3, v4, ?_, ?_⟩
 ·refine ⟨?_, ?_⟩
  ·unfold elderR at h2 ⊢
   by_cases hv : (verI s).1 = 4
   ·rw [if_pos hv] at h2 ⊢; exact (decR_inv h2).1
   ·rw [if_neg hv] at h2 ⊢
    have hf := elderR_fine (v := (verI s).1) (s := s) (by unfold elderR; rw [if_neg hv]; exact h2)
    unfold elderR at hf
    rw [if_neg hv] at hf
    refine fine_rd hf ?_
    unfold oldR at h2 ⊢
    simp only at h2 ⊢
    generalize (if 1 < (verI s).1 then openR s else (s, 0)) = b at *
    by_cases h3 : b.2 = 0
    case neg => rw [if_pos h3] at h2; exact absurd h2 h3
    rw [if_neg (by simpa using h3)] at h2 ⊢
    by_cases h4 : (parseR (verI s).1 (b.1.drop 5)).1 = 0
    case neg => rw [if_pos h4] at h2; exact absurd h2 h4
    rw [if_neg (by simpa using h4)] at h2 ⊢
    exact h2
  ·unfold elderR at h2 ⊢
   by_cases hv : (verI s).1 = 4
   ·rw [if_pos hv] at h2 ⊢; exact (decR_inv h2).2.1
   ·rw [if_neg hv] at h2 ⊢
    unfold oldR at h2 ⊢
    simp only at h2 ⊢
    generalize (if 1 < (verI s).1 then openR s else (s, 0)) = b at *
    by_cases h3 : b.2 = 0
    case neg => rw [if_pos h3] at h2; exact absurd h2 h3
    rw [if_neg (by simpa using h3)] at h2 ⊢
    by_cases h4 : (parseR (verI s).1 (b.1.drop 5)).1 = 0
    case neg => rw [if_pos h4] at h2; exact absurd h2 h4
    rw [if_neg (by simpa using h4)] at h2 ⊢
    exact h2
 ·intro hv
  unfold elderR at h2 ⊢
  rw [if_neg (by omega)] at h2 ⊢
  unfold oldR at h2 ⊢
  simp only at h2 ⊢
  generalize (if 1 < (verI s).1 then openR s else (s, 0)) = b at *
  by_cases h3 : b.2 = 0
  case neg => rw [if_pos h3] at h2; exact absurd h2 h3
  rw [if_neg (by simpa using h3)] at h2 ⊢
  by_cases h4 : (parseR (verI s).1 (b.1.drop 5)).1 = 0
  case neg => rw [if_pos h4] at h2; exact absurd h2 h4
  rw [if_neg (by simpa using h4)] at h2 ⊢
  exact parse_c (by omega) h4
 ·intro hv
  unfold elderR at h2 ⊢
  rw [if_pos hv] at h2 ⊢
  exact (decR_inv h2).2.2.1
theorem im_c {y : Im} (h : y.c = 0) : { y with c := 0 } = y := by cases y; simp at h; subst h; rfl
theorem readV_next {y : Im} (h : y.good) {v : Int} (hv : 1 ≤ v ∧ v < 4) (hc : v < 3 → y.c = 0) : readV (wrtB y (v + 1)) = (v + 1, 0, y) := by
 have : v = 1 ∨ v = 2 ∨ v = 3 := by omega
 rcases this with rfl | rfl | rfl
 ·have := readV_two h
  rw [im_c (hc (by omega))] at this
  exact this
 ·exact readV_three h
 ·exact readV_four h
def stepV (s : List UInt8) : Int × List UInt8 := if (readV s).2.1 ≠ 0 then ((readV s).2.1, []) else if (readV s).1 = 4 then (12, []) else (0, wrtB (readV s).2.2 ((readV s).1 + 1))
def allV (s : List UInt8) : Int × List UInt8 := if (readV s).2.1 ≠ 0 then ((readV s).2.1, []) else (0, wrtB (readV s).2.2 4)
theorem c_upgrade_Step (s : List UInt8) (hs : s.length ≤ 1073741824) (sg) : LL.call n_upgrade_Step [.s (bs s)] sg sg.length = some (.t [.s (bs (stepV s).2), .i .i64 (stepV s).1], sg, sg.length) := by
 generalize hT : stepV s = T
 refine wp_call e_upgrade_Step rfl ?_
 have R1 := c_elder_Read s hs sg
 have hg := readV_good (s := s)
 unfold stepV at hT
 generalize readV s = r at *
 by_cases h1 : r.2.1 = 0
 case neg =>
  rw [if_pos h1] at hT
  have hb : (r.2.1 != 0) = true := by simp [h1]
  subst hT
  simp [h1, eImK] at R1
  simp [F_upgrade_Step, R1, hb]
 obtain ⟨g1, g2, g3, -, -⟩ := hg h1
 rw [if_neg (by simpa using h1)] at hT
 simp [h1, eIm] at R1
 by_cases h2 : r.1 = 4
 ·rw [if_pos h2] at hT
  subst hT
  simp [F_upgrade_Step, R1, h1, h2]
 ·rw [if_neg h2] at hT
  have h2b : (r.1 == 4) = false := by simp [h2]
  have W1 := c_elder_Write r.2.2 g1 (r.1 + 1) sg
  rw [if_pos (by omega), if_pos (by omega)] at W1
  have w1 : IntKind.i64.wrap (r.1 + 1) = r.1 + 1 := wrap64 (by omega)
  subst hT
  simp [eIm] at W1
  simp [F_upgrade_Step, R1, h1, h2b, w1, W1]
theorem c_ref22_All (s : List UInt8) (hs : s.length ≤ 1073741824) (sg) : LL.call n_c_ref22_All [.s (bs s)] sg sg.length = some (.t [.s (bs (allV s).2), .i .i64 (allV s).1], sg, sg.length) := by
 generalize hT : allV s = T
 refine wp_call e_c_ref22_All rfl ?_
 obtain ⟨r0, R1, im, rfl, hI⟩ := c_ref21_Read s hs sg
 have hg := readV_good (s := s)
 unfold allV at hT
 generalize readV s = r at *
 by_cases h1 : r.2.1 = 0
 case neg =>
  rw [if_pos h1] at hT
  rw [if_neg h1] at hI
  have hb : (r.2.1 != 0) = true := by simp [h1]
  subst hT
  simp [F_c_ref22_All, R1, hI.cp, eRm, hb]
 obtain ⟨g1, g2, g3, -, g5⟩ := hg h1
 rw [if_neg (by simpa using h1)] at hT
 rw [if_pos h1] at hI
 rw [h1] at R1
 subst hT
 by_cases h2 : r.1 = 4
 ·have h5 := g5 h2
  rw [← h5]
  simp [F_c_ref22_All, R1, hI.cp, eRm, h2]
 ·have h2b : (r.1 == 4) = false := by simp [h2]
  have W1 := c_ref21_Write r.2.2 g1 4 (by omega) sg
  simp [eRm] at W1
  simp [F_c_ref22_All, R1, hI.cp, eRm, h2b, W1]
theorem c_upgrade_All (s : List UInt8) (hs : s.length ≤ 1073741824) (sg) : LL.call n_upgrade_All [.s (bs s)] sg sg.length = some (.t [.s (bs (allV s).2), .i .i64 (allV s).1], sg, sg.length) := by
 generalize hT : allV s = T
 refine wp_call e_upgrade_All rfl ?_
 have R1 := c_elder_Read s hs sg
 have hg := readV_good (s := s)
 have hst := c_upgrade_Step
 unfold allV at hT
 by_cases h1 : (readV s).2.1 = 0
 case neg =>
  rw [if_pos h1] at hT
  have hb : ((readV s).2.1 != 0) = true := by simp [h1]
  subst hT
  simp [h1, eImK] at R1
  simp [F_upgrade_All, R1, hb]
 obtain ⟨g1, g2, g3, g4, g5⟩ := hg h1
 rw [if_neg (by simpa using h1)] at hT
 simp [h1, eIm] at R1
 simp [F_upgrade_All, R1, h1]
 refine wc_inde (fun a : Int × List UInt8 × Bool => ⟨[(0, .v (.s (bs a.2.1))), (5, .v (.i .i64 a.1))] ++ (if a.2.2 = true then [(6, .v (.i .i64 0)), (14, .v (.b false))] else []), [], sg, sg.length⟩) (fun a => (4 - a.1).toNat)
  (fun a => 1 ≤ a.1 ∧ a.1 ≤ 4 ∧ readV a.2.1 = (a.1, 0, (readV s).2.2) ∧ a.2.1.length ≤ 1073741824 ∧ (a.1 < 3 → (readV s).2.2.c = 0) ∧ (a.1 = 4 → a.2.1 = wrtB (readV s).2.2 4)) ((readV s).1, s, true) (by simp) ⟨g2, g3, by rw [← h1], hs, g4, g5⟩ ?_
 rintro ⟨v, t, c⟩ ⟨a1, a2, a3, a4, a5, a6⟩ ih
 simp only at a1 a2 a3 a4 a5 a6
 generalize (readV s).2.2 = y at *
 by_cases hv : v < 4
 ·have hv4 : ¬ v = 4 := by omega
  have S1 := hst t a4 sg
  have hsv : stepV t = (0, wrtB y (v + 1)) := by unfold stepV; rw [a3]; simp [hv4]
  rw [hsv] at S1
  have w1 : IntKind.i64.wrap (v + 1) = v + 1 := wrap64 (by omega)
  obtain ⟨l1, l2, l3⟩ := wrtB_len g1 (v := v + 1) (by omega)
  have ih2 := ih (v + 1, wrtB y (v + 1), false) (by simp; omega) ⟨by omega, by omega, readV_next g1 ⟨a1, hv⟩ a5, by simp only; omega, fun h => a5 (by omega), fun h => by simp only at h ⊢; rw [h]⟩
  simp at ih2
  cases c
  ·simp [hv, S1, w1]
   exact ih2
  ·simp [hv, S1, w1]
   exact ih2
 ·have h6 := a6 (by omega)
  subst hT
  cases c <;> simp [hv, h6]
end Go.AM

namespace Go.AM
theorem c_upgrade_AllE (s : List UInt8) (hs : s.length ≤ 1073741824) (h : (readV s).2.1 = 0) (sg) : LL.call n_upgrade_All [.s (bs s)] sg sg.length = some (.t [.s (bs (wrtB (readV s).2.2 4)), .i .i64 0], sg, sg.length) := by
 have A1 := c_upgrade_All s hs sg
 have : allV s = (0, wrtB (readV s).2.2 4) := by unfold allV; rw [if_neg (by simpa using h)]
 rw [this] at A1
 exact A1
theorem awk_one : readV [67, 82, 89, 79, 1, 4, 4, 5, 0, 0, 0, 0, 0, 0, 0] = (1, 0, awk21) := by decide +kernel
theorem c_law22_awake : LL.call n_c_law22_awake [] [] 0 = some (.b true, [], 0) := by
 refine wp_call e_c_law22_awake rfl ?_
 obtain ⟨m1, m2⟩ := good_lens awk21_good
 have E1 := c_file_Encode awk21 awk21_good.rd.ok awk21_good.rd.wr' awk21_good.ck awk21_good.rd.k (by omega) (by omega) []
 have hl := encB_len awk21
 have S1 := c_upgrade_Step (wrtB awk21 4) (by show (encB awk21).length ≤ _; omega) []
 have hs : stepV (wrtB awk21 4) = (12, []) := by unfold stepV; rw [readV_four awk21_good]; simp
 have A1 := c_upgrade_AllE [67, 82, 89, 79, 1, 4, 4, 5, 0, 0, 0, 0, 0, 0, 0] (by simp) (by rw [awk_one]) []
 rw [hs] at S1
 rw [awk_one] at A1
 have hw : wrtB awk21 4 = encB awk21 := rfl
 have h0 : encB awk21 ≠ [] := by intro h; rw [h] at hl; simp at hl; omega
 have hb : (encB awk21 == []) = false := by simpa using h0
 rw [hw] at S1
 simp only [hw] at A1
 generalize encB awk21 = s at *
 simp [eIm, awk21] at E1
 simp at S1 A1
 simp [F_c_law22_awake, E1, S1, A1, bins, hb, h0]
end Go.AM
