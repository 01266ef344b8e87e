/- Lemmas: an abstract machine over the loaded program, proved sound against the model once; what the program's functions compute. -/
import Derived.Test.YtpgengahgdmhmaaGreatK5
import Derived.Test.YtpgengahgdmhmaaGreatK4
import Derived.Test.YtpgengahgdmhmaaGreatK2
import Derived.Test.YtpgengahgdmhmaaGreatK1
import Derived.Test.YtpgengahgdmhmaaGreatK3
import Derived.Test.YtpgengahgdmhmaaGreatProg
set_option linter.all false
namespace Go.AM
def manyO : List (List UInt8) → List (List UInt8)
 | [] => []
 | s :: r => if (allV s).1 ≠ 0 then [] else (allV s).2 :: manyO r
def manyE : List (List UInt8) → Int → Int × Int
 | [], _ => (-1, 0)
 | s :: r, i => if (allV s).1 ≠ 0 then (i, (allV s).1) else manyE r (i + 1)
abbrev eS (s : List UInt8) : D := .s (bs s)
theorem zzs_of {α : Type} {f : α → D} (h : ∀ x, (f x).zz = f x) : ∀ l : List α, D.zzs (l.map f) = l.map f
 | [] => rfl
 | x :: l => by
  have := zzs_of h l
  simp only [List.map_cons, D.zzs, h, this]
theorem zzs_eS (l : List (List UInt8)) : D.zzs (l.map eS) = l.map eS := zzs_of (fun _ => rfl) l
theorem zzs_eRaw (l : List Raw) : D.zzs (l.map eRaw) = l.map eRaw := zzs_of (fun x => by simp [eRaw, D.zz]) l
attribute [simp] zzs_eS zzs_eRaw
theorem manyO_len : ∀ l, (manyO l).length ≤ l.length
 | [] => by simp [manyO]
 | s :: r => by
  unfold manyO
  split
  ·simp
  ·have := manyO_len r; simp; omega
theorem c_upgrade_Many (ss : List (List UInt8)) (h : ∀ s ∈ ss, s.length ≤ 1073741824) (hl : ss.length ≤ 1000) (sg) :
    LL.call n_upgrade_Many [.l .z 1 (ss.map eS)] sg sg.length = some (.t [.l .o 1 ((manyO ss).map eS), .i .i64 (manyE ss 0).1, .i .i64 (manyE ss 0).2], sg, sg.length) := by
 generalize hO : manyO ss = O
 generalize hE : manyE ss 0 = E
 refine wp_call e_upgrade_Many rfl ?_
 simp [F_upgrade_Many]
 refine wc_liste ss (fun i acc => ⟨[(5, .v (.l .o 1 (acc.map eS))), (10, .v (.l .z 1 (ss.map eS))), (11, .v (.i .i64 ss.length)), (12, .v (.i .i64 i))], [], sg, sg.length⟩)
  (fun i r acc => acc ++ manyO r = O ∧ manyE r i = E ∧ acc.length = i) [] (by simp) ⟨hO, hE, rfl⟩ ?_ ?_
 ·rintro i s r acc hlt hx ⟨g1, g2, g3⟩ ih
  have hlt' : (i : Int) < ss.length := by omega
  have A1 := c_upgrade_All s (h s (by rw [← hx]; exact List.getElem_mem _)) sg
  have w1 : IntKind.i64.wrap ((i : Int) + 1) = i + 1 := wrap64 (by omega)
  unfold manyO at g1
  unfold manyE at g2
  generalize allV s = T at *
  by_cases h1 : T.1 = 0
  ·rw [if_neg (by simpa using h1)] at g1 g2
   have hb : (T.1 != 0) = false := by simp [h1]
   have ih := ih (acc ++ [T.2]) ⟨by rw [← g1]; simp, by rw [← g2]; simp, by simp [g3]⟩
   have hacc : (acc.length + 1) * 16 ≤ 140737488355328 := by omega
   simp at ih
   simp [hlt, hlt', hx, A1, hb, w1, hacc]
   exact ih
  ·rw [if_pos h1] at g1 g2
   have hb : (T.1 != 0) = true := by simp [h1]
   simp at g1
   subst g1
   subst g2
   simp [hlt, hlt', hx, A1, hb]
 ·rintro acc ⟨g1, g2, g3⟩
  simp [manyO] at g1
  simp [manyE] at g2
  subst g1
  subst g2
  simp
theorem flip64 (d : UInt8) : ∃ c : UInt8, bits .xor .u8 (d.toNat : Int) 64 = (c.toNat : Int) := by
 have hx := u8_xor d.toNat 64 (u8_lt d) (by decide)
 have hlt : d.toNat ^^^ 64 < 256 := Nat.xor_lt_two_pow (n := 8) (u8_lt d) (by decide)
 exact ⟨UInt8.ofNat (d.toNat ^^^ 64), by rw [ofNat_toNat' hlt]; exact hx⟩
set_option maxRecDepth 20000 in
theorem upgradeMany (l : List Raw) (hl : ∀ x ∈ l, x.ok) (hn : l.length ≤ 9223372036854775807) (vs : List Int) (hvn : vs.length ≤ 9223372036854775807) (bad at_ : Int) :
    LL.call n_c_law22_UpgradeMany [.l .z 6 (l.map eRaw), .l .z 1 (vs.map (.i .i64)), .i .i64 bad, .i .i64 at_] [] 0 = some (.b true, [], 0) := by
 refine wp_call e_c_law22_UpgradeMany rfl ?_
 have ha := c_law22_awake
 simp [F_c_law22_UpgradeMany, ha]
 refine wc_inde (fun a : Nat × List (List UInt8) => ⟨[(0, .v (.l .z 6 (l.map eRaw))), (1, .v (.l .z 1 (vs.map (.i .i64)))), (2, .v (.i .i64 bad)), (3, .v (.i .i64 at_)), (9, .v (.l .o 1 (a.2.map eS))), (10, .v (.i .i64 a.1))], [], [], 0⟩) (fun a => 6 - a.1)
  (fun a => a.1 ≤ 6 ∧ a.1 ≤ l.length ∧ a.2.length = a.1 ∧ ∀ s ∈ a.2, s.length ≤ 30000) (0, []) (by simp) ⟨by simp, by simp, rfl, by simp⟩ ?_
 rintro ⟨i, acc⟩ ⟨g1, g2, g3, g4⟩ ih
 simp only at g1 g2 g3 g4
 by_cases hc : i < l.length ∧ i < 6
 ·obtain ⟨hi, hi6⟩ := hc
  have hi' : (i : Int) < l.length := by omega
  have hi6' : (i : Int) < 6 := by omega
  have w1 : IntKind.i64.wrap ((i : Int) + 1) = i + 1 := wrap64 (by omega)
  obtain ⟨x, hx⟩ : ∃ x, l[i] = x := ⟨_, rfl⟩
  have hxo : x.ok := hl x (by rw [← hx]; exact List.getElem_mem _)
  have h1 := c_law17_Make x hxo []
  have hgd := makeI_good x hxo
  have htd := toldI_make x hxo
  have hw : eRaw x = .a [.i .i64 x.k, .i .i64 x.p, .i .u64 x.c, .l .z 2 (x.is.map eR), .l .z 1 (x.cs.map (.i .i64)), .i .i64 x.sp] := rfl
  generalize makeI x = y at *
  have hT := c_law17_Told y hgd.rd.ok hgd.rd.small []
  rw [htd] at hT
  have ee : (eLK .z 2 eI : List It → D) = eL 2 eI := rfl
  have er : (eLK .z 2 eR : List It → D) = eL 2 eR := rfl
  simp [eImK, hw, eIm, eRmK, eRm, ee, er] at h1 hT
  have hv : ∃ w : Int, (1 ≤ w ∧ w ≤ 4) ∧ w = if h : i < vs.length then IntKind.i64.wrap (1 + (bits .and .i64 vs[i] 255).tmod 4) else 1 := by
   split
   ·refine ⟨_, ?_, rfl⟩
    rw [i64_255, Int.tmod_eq_emod_of_nonneg (by omega), wrap64 (by omega)]
    omega
   ·exact ⟨1, by omega, rfl⟩
  obtain ⟨w, hw14, hwe⟩ := hv
  have W1 := c_ref21_Write y hgd w hw14 []
  obtain ⟨l1, l2, l3⟩ := wrtB_len hgd hw14
  simp [eRm] at W1
  generalize wrtB y w = s at *
  have key : ∀ t : List UInt8, t.length ≤ 30000 → _ := fun t ht => ih (i + 1, acc ++ [t]) (by simp; omega) ⟨by simp; omega, by simp; omega, by simp [g3], by
   intro z hz
   rcases List.mem_append.1 hz with hz | hz
   ·exact g4 z hz
   ·simp at hz; subst hz; exact ht⟩
  have hacc : (acc.length + 1) * 16 ≤ 140737488355328 := by omega
  by_cases hb : (i : Int) = bad
  ·subst hb
   obtain ⟨m, hm, hml⟩ := place21 (n := s.length) (i := at_) (by omega) (by omega)
   have hml : m < s.length := by omega
   obtain ⟨d, hd⟩ : ∃ d, s[m] = d := ⟨_, rfl⟩
   obtain ⟨c, hcx⟩ := flip64 d
   have n0 : ¬ s.length = 0 := by omega
   have n3 : s ≠ [] := by intro e; rw [e] at l1; simp at l1
   obtain ⟨t, hset, htl⟩ : ∃ t : List UInt8, (s.map eB).set m (.i .u8 (c.toNat : Int)) = t.map eB ∧ t.length = s.length := ⟨s.set m c, by rw [List.map_set]; rfl, by simp⟩
   have key := key t (by omega)
   simp at key
   by_cases hvi : i < vs.length
   ·have hvi' : (i : Int) < vs.length := by omega
    rw [dif_pos hvi] at hwe
    simp [hi, hi', hi6', hx, hw, hvi, hvi', ← hwe, h1, hT, ee, er, W1, n0, n3, hm, hml, hd, hcx, hset, hacc, w1]
    exact key
   ·have hvi' : ¬ (i : Int) < vs.length := by omega
    rw [dif_neg hvi] at hwe
    subst hwe
    simp [hi, hi', hi6', hx, hw, hvi, hvi', h1, hT, ee, er, W1, n0, n3, hm, hml, hd, hcx, hset, hacc, w1]
    exact key
  ·have hbb : ((i : Int) == bad) = false := by simpa using hb
   have key := key s l2
   simp at key
   by_cases hvi : i < vs.length
   ·have hvi' : (i : Int) < vs.length := by omega
    rw [dif_pos hvi] at hwe
    simp [hi, hi', hi6', hx, hw, hvi, hvi', ← hwe, h1, hT, ee, er, W1, hbb, hacc, w1]
    exact key
   ·have hvi' : ¬ (i : Int) < vs.length := by omega
    rw [dif_neg hvi] at hwe
    subst hwe
    simp [hi, hi', hi6', hx, hw, hvi, hvi', h1, hT, ee, er, W1, hbb, hacc, w1]
    exact key
 ·have M1 := c_upgrade_Many acc (fun s hs => by have := g4 s hs; omega) (by omega) []
  simp at M1
  by_cases hi : i < l.length
  case' pos => have hi' : (i : Int) < l.length := by omega
               have hi6 : ¬ (i : Int) < 6 := by omega
               simp [hi, hi', hi6, M1]
  case' neg => have hi' : ¬ (i : Int) < l.length := by omega
               simp [hi, hi', M1]
  all_goals
   have hOl := manyO_len acc
   generalize hO : manyO acc = O at *
   generalize hE : manyE acc 0 = E at *
   refine wc_liste acc (fun j (_ : Unit) => ⟨[(9, .v (.l .o 1 (acc.map eS))), (14, .v (.l .z 1 (O.map eS))), (15, .v (.i .i64 E.1)), (16, .v (.i .i64 E.2)), (85, .v (.l .z 1 (acc.map eS))), (86, .v (.i .i64 acc.length)), (87, .v (.i .i64 j))], [], [], 0⟩)
    (fun j r _ => manyE r j = E ∧ ∃ pre : List (List UInt8), pre.length = j ∧ pre ++ manyO r = O) () (by simp) ⟨hE, [], rfl, hO⟩ ?_ ?_
   ·rintro j s r _ hlt hx ⟨k1, pre, k2, k3⟩ ih2
    have hlt' : (j : Int) < acc.length := by omega
    have A1 := c_ref22_All s (by have := g4 s (by rw [← hx]; exact List.getElem_mem _); omega) []
    have w1 : IntKind.i64.wrap ((j : Int) + 1) = j + 1 := wrap64 (by omega)
    have wj : IntKind.i64.wrap (j : Int) = j := wrap64 (by omega)
    unfold manyE at k1
    unfold manyO at k3
    simp at A1
    generalize allV s = T at *
    by_cases h1 : T.1 = 0
    ·rw [if_neg (by simpa using h1)] at k1 k3
     have hb : (T.1 != 0) = false := by simp [h1]
     have hj : j < O.length := by rw [← k3]; simp; omega
     have hj' : ¬ (O.length : Int) ≤ j := by omega
     have hj2 : ¬ O.length ≤ j := by omega
     have hOj : O[j] = T.2 := by
      subst k2
      simp [← k3]
     have ih2 := ih2 () ⟨by rw [← k1]; simp, pre ++ [T.2], by simp [k2], by rw [← k3]; simp⟩
     simp [hlt, hlt', hx, A1, hb, hj, hj', hj2, hOj, bins, w1]
     exact ih2
    ·rw [if_pos h1] at k1 k3
     have hb : (T.1 != 0) = true := by simp [h1]
     have hOl : O.length = j := by rw [← k3]; simp [k2]
     subst k1
     simp [hlt, hlt', hx, A1, hb, hOl]
   ·rintro _ ⟨k1, pre, k2, k3⟩
    simp [manyE] at k1
    simp [manyO] at k3
    subst k1
    subst k3
    simp [k2]
end Go.AM

namespace Go.AM
theorem wf_i64 {n : Int} (h : (Lit.int .i64 n).wf = true) : -9223372036854775808 ≤ n ∧ n ≤ 9223372036854775807 := by
 simpa [Lit.wf, IntKind.min, IntKind.max, IntKind.signed, IntKind.bits] using h
theorem wf_u64 {n : Int} (h : (Lit.int .u64 n).wf = true) : 0 ≤ n ∧ n < 18446744073709551616 := by
 have : 0 ≤ n ∧ n ≤ 18446744073709551615 := by simpa [Lit.wf, IntKind.min, IntKind.max, IntKind.signed, IntKind.bits] using h
 omega
theorem fits_i {k : IntKind} {d : D} (h : Fits (.i k) [d]) : ∃ n, d = .i k n ∧ (Lit.int k n).wf = true := by
 cases h with | i k n h => exact ⟨n, rfl, h⟩
theorem fits_ints {k : IntKind} : ∀ xs : List D, (∀ x ∈ xs, Fits (.i k) x.cells) → (∀ x ∈ xs, ∃ c, x = c ∧ c.cells = [c]) → ∃ ns : List Int, xs = ns.map (.i k) ∧ ∀ n ∈ ns, (Lit.int k n).wf = true
 | [], _, _ => ⟨[], rfl, by simp⟩
 | x :: xs, h, hc => by
  obtain ⟨ns, e, hn⟩ := fits_ints xs (fun y hy => h y (by simp [hy])) (fun y hy => hc y (by simp [hy]))
  obtain ⟨c, rfl, h2⟩ := hc x (by simp)
  have := h x (by simp)
  rw [h2] at this
  obtain ⟨n, rfl, hw⟩ := fits_i this
  exact ⟨n :: ns, by simp [e], by simpa [hw] using hn⟩
theorem fits_l {k : IntKind} {d : D} (h : Fits (.l 1 false (.i k)) [d]) : ∃ ns : List Int, d = .l .z 1 (ns.map (.i k)) ∧ (∀ n ∈ ns, (Lit.int k n).wf = true) ∧ ns.length ≤ maxLen := by
 cases h with
 | l sz agg e xs hl hx ha =>
  obtain ⟨ns, e, hn⟩ := fits_ints xs hx (by simpa using ha)
  subst e
  exact ⟨ns, rfl, hn, by simpa using hl⟩
abbrev tItem : Ty := .st [.i .u64, .i .i64]
abbrev tRaw : Ty := .st [.i .i64, .i .i64, .i .u64, .l 2 true tItem, .l 1 false (.i .i64), .i .i64]
theorem fitss_cons1 {f : Ty} {fs : List Ty} {cs : List D} (h : Fitss (f :: fs) cs) (hf : ∀ c, Fits f c → ∃ d, c = [d]) : ∃ d r, cs = d :: r ∧ Fits f [d] ∧ Fitss fs r := by
 cases h with
 | cons h k => obtain ⟨d, rfl⟩ := hf _ h; exact ⟨d, _, rfl, h, k⟩
theorem one_i (k : IntKind) (c : List D) (h : Fits (.i k) c) : ∃ d, c = [d] := by cases h; exact ⟨_, rfl⟩
theorem one_l (sz : Nat) (a : Bool) (T : Ty) (c : List D) (h : Fits (.l sz a T) c) : ∃ d, c = [d] := by cases h; exact ⟨_, rfl⟩
theorem fitss_nil {cs : List D} (h : Fitss [] cs) : cs = [] := by cases h; rfl
theorem fits_item {cs : List D} (h : Fits tItem cs) : ∃ x : It, D.a cs = eR x ∧ x.ok := by
 cases h with
 | st h =>
  obtain ⟨d1, r, rfl, h1, h⟩ := fitss_cons1 h (one_i _)
  obtain ⟨d2, r, rfl, h2, h⟩ := fitss_cons1 h (one_i _)
  have := fitss_nil h; subst this
  obtain ⟨n1, rfl, w1⟩ := fits_i h1
  obtain ⟨n2, rfl, w2⟩ := fits_i h2
  have := wf_u64 w1
  have := wf_i64 w2
  refine ⟨⟨n1.toNat, n2⟩, ?_, ?_, ?_⟩
  ·have : ((n1.toNat : Nat) : Int) = n1 := by omega
   simp [this]
  ·simp; omega
  ·simpa using this
theorem fits_items : ∀ xs : List D, (∀ x ∈ xs, Fits tItem x.cells) → (∀ x ∈ xs, ∃ cs, x = .a cs) → ∃ ns : List It, xs = ns.map eR ∧ ∀ n ∈ ns, n.ok
 | [], _, _ => ⟨[], rfl, by simp⟩
 | x :: xs, h, hc => by
  obtain ⟨ns, e, hn⟩ := fits_items xs (fun y hy => h y (by simp [hy])) (fun y hy => hc y (by simp [hy]))
  obtain ⟨cs, rfl⟩ := hc x (by simp)
  obtain ⟨y, e2, hy⟩ := fits_item (h _ (by simp : D.a cs ∈ D.a cs :: xs))
  exact ⟨y :: ns, by rw [e, List.map_cons, ← e2]; rfl, by simpa [hy] using hn⟩
theorem fits_raw {cs : List D} (h : Fits tRaw cs) : ∃ x : Raw, D.a cs = eRaw x ∧ x.ok := by
 cases h with
 | st h =>
  obtain ⟨d1, r, rfl, h1, h⟩ := fitss_cons1 h (one_i _)
  obtain ⟨d2, r, rfl, h2, h⟩ := fitss_cons1 h (one_i _)
  obtain ⟨d3, r, rfl, h3, h⟩ := fitss_cons1 h (one_i _)
  obtain ⟨d4, r, rfl, h4, h⟩ := fitss_cons1 h (one_l _ _ _)
  obtain ⟨d5, r, rfl, h5, h⟩ := fitss_cons1 h (one_l _ _ _)
  obtain ⟨d6, r, rfl, h6, h⟩ := fitss_cons1 h (one_i _)
  have := fitss_nil h; subst this
  obtain ⟨n1, rfl, w1⟩ := fits_i h1
  obtain ⟨n2, rfl, w2⟩ := fits_i h2
  obtain ⟨n3, rfl, w3⟩ := fits_i h3
  obtain ⟨n5, rfl, w5, l5⟩ := fits_l h5
  obtain ⟨n6, rfl, w6⟩ := fits_i h6
  cases h4 with
  | l sz agg e xs hl hx ha =>
   obtain ⟨is, rfl, hi⟩ := fits_items xs hx (by simpa using ha)
   exact ⟨⟨n1, n2, n3, is, n5, n6⟩, rfl, hi, wf_u64 w3, wf_i64 w6⟩
end Go.AM

namespace Go.AM
def chkM (P : Program) (t : TypeId) (nm : String) (f : FuncId) : Bool := match P.info? t with
 | some i => match i.methods.find? (·.name == nm) with
  | some m => m.path.toList.isEmpty && (match m.func with
   | some (g, true) => (match P.underlying t with | some (.pointer _) => g == f && decide (f < Q0) | _ => false)
   | some (g, false) => (match P.underlying t with
    | some (.pointer e) => decide (Q0 ≤ f) && g == f - Q0 && aggT P e == some false && szT P e == some 1
    | some _ => g == f && decide (f < Q0)
    | none => false)
   | none => false)
  | none => false
 | none => false
theorem wrap_ok (ts : Array TypeId) (t : TypeId) (a : Addr) (s1 s2 : String) : Builtin.ssaWrapNilChk_ ts t #[.pointer (some a), strVal s1, strVal s2] = pure (.pointer (some a)) := rfl
theorem meth_one {P : Program} {t nm f} (h : chkM P t nm f = true) :
    (f < Q0 → ∀ v w, (method (P.types.size + Made.depth) t v nm).run P w = .ok (f, v) w) ∧
    (Q0 ≤ f → ∀ b off u w, World.cell? w ⟨b, off, none⟩ = some u → (method (P.types.size + Made.depth) t (.pointer (some ⟨b, off, none⟩)) nm).run P w = .ok (f - Q0, u) w) := by
 unfold chkM at h
 split at h
 ·rename_i i hi
  split at h
  ·rename_i m hm
   simp only [Bool.and_eq_true] at h
   obtain ⟨hp, h⟩ := h
   have hp' : m.path.toList = [] := List.isEmpty_iff.1 hp
   obtain ⟨n, hn⟩ : ∃ n, P.types.size + Made.depth = n + 1 := ⟨P.types.size + 99, rfl⟩
   rw [hn]
   split at h
   ·rename_i g hg
    split at h
    ·rename_i e hu
     simp only [Bool.and_eq_true, beq_iff_eq, decide_eq_true_eq] at h
     obtain ⟨rfl, hf⟩ := h
     refine ⟨fun _ v w => ?_, fun hq => absurd hf (Nat.not_lt.2 hq)⟩
     simp [method, typeInfo, hi, hm, hp', follow, hg, receiverAt, underlying, hu, Place.get]
    ·cases h
   ·rename_i g hg
    split at h
    ·rename_i e hu
     simp only [Bool.and_eq_true, beq_iff_eq, decide_eq_true_eq] at h
     obtain ⟨⟨⟨hf, hgf⟩, ha⟩, hs⟩ := h
     refine ⟨fun hq => absurd hq (Nat.not_lt.2 hf), fun _ b off u w hc => ?_⟩
     have hrun := run_load' (P := P) (w := w) (t := e) (b := b) (off := off) (us := [u]) ha hs (.inr rfl) rfl (fun j v hj => by
      cases j with
      | zero => simp at hj; subst hj; simpa using hc
      | succ j => simp at hj)
     simp only [Instr.loadAt, Instr.sureAddr] at hrun
     have hpe : m.path = #[] := by simpa using hp
     simp at hrun
     simp [method, typeInfo, hi, hm, hp', hpe, follow, hg, receiverAt, underlying, hu, Place.get, wrap_ok, asAddr, hrun, hgf]
    ·rename_i d hne hu
     simp only [Bool.and_eq_true, beq_iff_eq, decide_eq_true_eq] at h
     obtain ⟨rfl, hf⟩ := h
     refine ⟨fun _ v w => ?_, fun hq => absurd hf (Nat.not_lt.2 hq)⟩
     simp [method, typeInfo, hi, hm, hp', follow, hg, receiverAt, underlying, hu, Place.get]
    ·cases h
   ·cases h
  ·cases h
 ·cases h
theorem meth_all {P : Program} {T : List (TypeId × String × FuncId)} (h : T.all (fun p => chkM P p.1 p.2.1 p.2.2) = true) :
    MethOK P (fun t nm => (T.find? fun p => p.1 == t && p.2.1 == nm).map (·.2.2)) := by
 intro t nm f hf
 simp only [Option.map_eq_some_iff] at hf
 obtain ⟨⟨t', nm', f'⟩, h1, rfl⟩ := hf
 have h2 := List.find?_some h1
 simp only [Bool.and_eq_true, beq_iff_eq] at h2
 obtain ⟨rfl, rfl⟩ := h2
 exact meth_one (List.all_eq_true.1 h _ (List.mem_of_find?_eq_some h1))
end Go.AM

namespace Go.AM
open Go.Proofs
set_option maxRecDepth 100000
theorem fol : Tryz.prog.follows .mixedOrders = true := by kernel_rfl
theorem tab_ok : tab.all (fun p => chkFn Tryz.prog EE.fbits EE.frb (rid p.1) p.2) = true := by kernel_rfl
theorem look_in {α : Type} {k : Nat} {x : α} : ∀ {l : List (Nat × α)}, look k l = some x → (k, x) ∈ l
 | (j, y) :: r, h => by
  simp only [look] at h
  split at h
  ·rename_i e; cases h; subst e; simp
  ·exact List.mem_cons_of_mem _ (look_in h)
theorem env_ok : EnvOK Tryz.prog EE := fun f af h => List.all_eq_true.1 tab_ok (f, af) (look_in h)
theorem meth_ok : methL.all (fun p => chkM Tryz.prog p.1 p.2.1 p.2.2) = true := by kernel_rfl
theorem lib_ok : Lib Tryz.prog EE.fbits EE.frb EE.meth where
 bits := fun f h n w => by cases h; rfl
 frb := fun f h n w => by cases h; rfl
 meth := meth_all meth_ok
end Go.AM

namespace Go.AM
open Go.Proofs
theorem fits_raws : ∀ xs : List D, (∀ x ∈ xs, Fits tRaw x.cells) → (∀ x ∈ xs, ∃ cs, x = .a cs) → ∃ ns : List Raw, xs = ns.map eRaw ∧ ∀ n ∈ ns, n.ok
 | [], _, _ => ⟨[], rfl, by simp⟩
 | x :: xs, h, hc => by
  obtain ⟨ns, e, hn⟩ := fits_raws xs (fun y hy => h y (by simp [hy])) (fun y hy => hc y (by simp [hy]))
  obtain ⟨cs, rfl⟩ := hc x (by simp)
  obtain ⟨y, e2, hy⟩ := fits_raw (h _ (by simp : D.a cs ∈ D.a cs :: xs))
  exact ⟨y :: ns, by rw [e, List.map_cons, ← e2]; rfl, by simpa [hy] using hn⟩
def args_UpgradeMany : List (Bool × Ty) := [(false, .l 6 true tRaw), (false, .l 1 false (.i .i64)), (false, .i .i64), (false, .i .i64)]
theorem args_UpgradeMany_ok : tyA Tryz.prog [57, 30, 3, 3] = some args_UpgradeMany := by kernel_rfl
theorem law_UpgradeMany (ds : List D) (h : FitA args_UpgradeMany ds) : ∃ sg lo, (lim EE).call n_c_law22_UpgradeMany ds [] 0 = some (.b true, sg, lo) := by
 cases h with
 | c h1 k =>
  cases h1 with
  | l sz agg e xs hl hx ha =>
   obtain ⟨rs, rfl, hr⟩ := fits_raws xs hx (by simpa using ha)
   cases k with
   | c h2 k =>
    obtain ⟨vs, rfl, w2, l2⟩ := fits_l h2
    cases k with
    | c h3 k =>
     obtain ⟨n3, rfl, w3⟩ := fits_i h3
     cases k with
     | c h4 k =>
      obtain ⟨n4, rfl, w4⟩ := fits_i h4
      cases k
      exact ⟨[], 0, upgradeMany rs hr (by simpa [maxLen] using hl) vs (by simpa [maxLen] using l2) n3 n4⟩
end Go.AM
