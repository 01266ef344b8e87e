/- Lemmas: an abstract machine over the loaded program, proved sound against the model once; what the program's functions compute. -/
import Derived.Test.YtjlaafdldgmndaaGreatK4
import Derived.Test.YtjlaafdldgmndaaGreatK2
import Derived.Test.YtjlaafdldgmndaaGreatK1
import Derived.Test.YtjlaafdldgmndaaGreatK3
import Derived.Test.YtjlaafdldgmndaaGreatProg
set_option linter.all false
namespace Go.AM
def nb (k : Int) (s : Nat) : Int := if k = 3 then s * 8589934592 else s + 2
theorem nb_le (k : Int) (s : Nat) : 0 ≤ nb k s ∧ nb k s ≤ nb k (s + 1) ∧ 2 ≤ nb k (s + 1) := by unfold nb; split <;> omega
theorem nb_small {k : Int} {s : Nat} (h : s ≤ 5000) : nb k s ≤ 42949672960000 := by unfold nb; split <;> omega
structure MI (k : Int) (s : Nat) (M : Mem) : Prop where
 good : M.good
 ck : M.ck ≤ s
 num : ∀ i, 0 ≤ (rdM M i).n ∧ (rdM M i).n ≤ nb k s
 full : k = 2 → ∀ i, 2 ≤ i → (rdM M i).n = 1 → (rdM M i).l ≠ []
theorem MI.mono {k s M} (h : MI k s M) : MI k (s + 1) M := ⟨h.good, by have := h.ck; omega, fun i => by have := h.num i; have := nb_le k s; omega, h.full⟩
theorem MI.wr {k s M} (h : MI k s M) (hs : s ≤ 5000) {i : Int} {v : Nat} {n : Int} {l : List It} (hn : 0 ≤ n ∧ n ≤ nb k (s + 1)) (hl : l.length ≤ 62 ∧ ∀ x ∈ l, x.ok) (hf : k = 2 → 2 ≤ i → n = 1 → l ≠ []) : MI k (s + 1) (wrM M i v n l) := by
 unfold wrM
 by_cases hw : wrB M i v = true
 ·rw [if_pos hw]
  have hi : 0 ≤ i ∧ i < 1000 := by simp [wrB] at hw; exact ⟨hw.1, hw.2.1⟩
  have hti : ((i.toNat : Nat) : Int) = i := by omega
  have hck := h.ck
  have hb := nb_small (k := k) (s := s + 1)
  refine ⟨good_put h.good (by omega) ⟨by omega, ?_⟩ hl (by omega), by simp only [putM]; omega, ?_, ?_⟩
  ·have : nb k (s + 1) ≤ 42958262894592 := by unfold nb; split <;> omega
   omega
  ·intro j
   rw [rdM_putM, hti]
   split
   ·exact hn
   ·have := h.num j; have := nb_le k s; omega
  ·intro hk j hj
   rw [rdM_putM, hti]
   split
   ·rename_i e; subst e; exact hf hk hj
   ·exact h.full hk j hj
 ·rw [if_neg hw]; exact h.mono
structure FI (k : Int) (s : Nat) (f : FrR) : Prop where
 it : f.o.x.ok
 kd : (k = 1 ∧ (f.o.k = 1 ∨ f.o.k = 2)) ∨ (k = 2 ∧ (f.o.k = 3 ∨ f.o.k = 4)) ∨ (k = 3 ∧ (f.o.k = 6 ∨ (f.o.k = 5 ∧ 0 ≤ f.o.x.v ∧ f.o.x.v ≤ 4294967296))) ∨ (k = 4 ∧ f.o.k = 7)
 at_ : 0 ≤ f.at_ ∧ f.at_ ≤ s + 16
 seen : 0 ≤ f.seen ∧ f.seen ≤ s + 100
 seg : 0 ≤ f.seg ∧ f.seg ≤ s + 2
 tot : 0 ≤ f.tot ∧ f.tot ≤ s * 42949672960000
 n0 : 0 ≤ f.n0 ∧ f.n0 ≤ nb k s
 n1 : 0 ≤ f.n1 ∧ f.n1 ≤ nb k s
 l0 : f.l0.length ≤ 62 ∧ ∀ x ∈ f.l0, x.ok
 l1 : f.l1.length ≤ 62 ∧ ∀ x ∈ f.l1, x.ok
 ins : f.o.k = 1 → f.pc = 0 ∨ f.l0.length ≤ 61
 del : f.o.k = 2 → delOK f
 enq : f.o.k = 3 → f.pc = 0 ∨ f.pc = 1 ∨ f.pc = 2 ∨ f.pc = 3
 deq : f.o.k = 4 → f.pc = 0 ∨ f.pc = 1 ∨ f.pc = 2 ∨ (f.pc = 3 ∧ f.l1 ≠ []) ∨ f.pc = 4 ∨ f.pc = 5
theorem FI.mono {k s f} (h : FI k s f) : FI k (s + 1) f :=
 {h with
  at_ := by have := h.at_; omega
  seen := by have := h.seen; omega
  seg := by have := h.seg; omega
  tot := by have := h.tot; omega
  n0 := by have := h.n0; have := nb_le k s; omega
  n1 := by have := h.n1; have := nb_le k s; omega }
theorem FI.small {k s f} (h : FI k s f) (hs : s ≤ 5000) : f.small :=
 {it := h.it
  at_ := by have := h.at_; omega
  seen := by have := h.seen; omega
  seg := by have := h.seg; omega
  tot := by have := h.tot; omega
  n0 := by have := h.n0; have := nb_small (k := k) hs; omega
  n1 := by have := h.n1; have := nb_small (k := k) hs; omega
  l0 := h.l0
  l1 := h.l1 }
def stepP (k : Int) (p : Nat) (M : Mem) (f : FrR) : So := if k = 1 then multiP p M f else if k = 2 then kfifoP p M f else if k = 3 then tallyP p M f else netP p M f
structure SI (k : Int) (s : Nat) (so : So) : Prop where
 m : MI k s so.m
 f : so.d = false → FI k s so.f
 x : so.a.x.ok
theorem ok0 : (⟨0, 0⟩ : It).ok := by simp [It.ok]
theorem noA_ok : noA.x.ok := ok0
theorem rd_l {k s M} (h : MI k s M) (i : Int) : (rdM M i).l.length ≤ 62 ∧ ∀ x ∈ (rdM M i).l, x.ok := ⟨(h.good.rd i).1, (h.good.rd i).2.1⟩
theorem rd_n {k s M} (h : MI k s M) (i : Int) : 0 ≤ (rdM M i).n ∧ (rdM M i).n ≤ nb k (s + 1) := by have := h.num i; have := nb_le k s; omega
theorem si_ins {p s M f} (hM : MI 1 s M) (hF : FI 1 s f) (hs : s ≤ 5000) (h1 : f.o.k = 1) : SI 1 (s + 1) (insP p M f) := by
 unfold insP
 by_cases hc : f.pc = 0
 ·rw [if_pos hc]
  refine ⟨hM.mono, fun hd => ?_, noA_ok⟩
  simp only [decide_eq_false_iff_not] at hd
  exact { hF.mono with n0 := rd_n hM _, l0 := rd_l hM _, ins := fun _ => .inr (by simp only; omega), del := fun h => by simp only at h; omega, enq := fun h => by simp only at h; omega, deq := fun h => by simp only at h; omega }
 ·rw [if_neg hc]
  have hl := (hF.ins h1).resolve_left hc
  have hpp := (putH_perm (newH f.l0) f.o.x).length_eq
  have hpa := (allH_perm (putH (newH f.l0) f.o.x)).length_eq
  have hnl := newH_len f.l0
  simp only [List.length_cons] at hpp
  split
  ·refine ⟨hM.wr hs ⟨by omega, (nb_le 1 (s + 1)).1⟩ ⟨by omega, ?_⟩ (fun h => by omega), fun h => by simp at h, canon_okI hF.it⟩
   intro y hy
   rcases List.mem_cons.1 ((putH_perm (newH f.l0) f.o.x).mem_iff.1 ((allH_perm _).mem_iff.1 hy)) with rfl | hy
   ·exact canon_okI hF.it
   ·exact newH_ok hF.l0.2 y hy
  ·exact ⟨hM.mono, fun _ => { hF.mono with ins := fun _ => .inl rfl, del := fun h => by simp only at h; omega, enq := fun h => by simp only at h; omega, deq := fun h => by simp only at h; omega }, noA_ok⟩
theorem si_delW {s M f} {at_ : Int} {v : Nat} {l : List It} (hM : MI 1 s M) (hF : FI 1 s f) (hs : s ≤ 5000) (h1 : f.o.k = 2) (hl : l.length ≤ 62 ∧ ∀ x ∈ l, x.ok) (h0 : l ≠ []) : SI 1 (s + 1) (delW M f at_ v l) := by
 unfold delW
 have hne : newH l ≠ [] := by
  intro h
  have := newH_len l
  rw [h] at this
  exact h0 (List.length_eq_zero_iff.1 this.symm)
 have hk := popH_ok hne (newH_ok hl.2)
 have hpl := popH_len hne
 have hnl := newH_len l
 have hal := (allH_perm (popH (newH l)).2).length_eq
 split
 ·exact ⟨hM.wr hs ⟨by omega, (nb_le 1 (s + 1)).1⟩ ⟨by omega, fun y hy => hk.2 y ((allH_perm _).mem_iff.1 hy)⟩ (fun h => by omega), fun h => by simp at h, hk.1⟩
 ·exact ⟨hM.mono, fun _ => { hF.mono with ins := fun h => by simp only at h; omega, del := fun _ => .inl rfl, enq := fun h => by simp only at h; omega, deq := fun h => by simp only at h; omega }, noA_ok⟩
theorem betP_ok (a b : List It) (h : (betP a b).2 = true) : ((betP a b).1 = 0 ∧ a ≠ []) ∨ ((betP a b).1 = 1 ∧ b ≠ []) := by
 cases a with
 | nil => cases b with
  | nil => simp [betP] at h
  | cons y t => simp [betP]
 | cons x s => cases b with
  | nil => simp [betP]
  | cons y t => simp only [betP]; split <;> simp
theorem si_del {p s M f} (hM : MI 1 s M) (hF : FI 1 s f) (hs : s ≤ 5000) (h1 : f.o.k = 2) : SI 1 (s + 1) (delP p M f) := by
 unfold delP
 rcases hF.del h1 with hc | hc | ⟨hc, hd⟩
 ·rw [if_pos hc]
  exact ⟨hM.mono, fun _ => { hF.mono with n0 := rd_n hM _, l0 := rd_l hM _, ins := fun h => by simp only at h; omega, del := fun _ => .inr (.inl rfl), enq := fun h => by simp only at h; omega, deq := fun h => by simp only at h; omega }, noA_ok⟩
 ·rw [if_neg (by omega), if_pos hc]
  refine ⟨hM.mono, fun hd => ?_, noA_ok⟩
  simp only [Bool.not_eq_false'] at hd
  have hb := betP_ok _ _ hd
  exact { hF.mono with n1 := rd_n hM _, l1 := rd_l hM _, at_ := (by rcases hb with h | h <;> (simp only; omega)), ins := fun h => by simp only at h; omega, del := fun _ => .inr (.inr ⟨rfl, hb⟩), enq := fun h => by simp only at h; omega, deq := fun h => by simp only at h; omega }
 ·rw [if_neg (by omega), if_neg (by omega)]
  rcases hd with ⟨ha, hl⟩ | ⟨ha, hl⟩
  ·rw [if_pos ha]; exact si_delW hM hF hs h1 hF.l0 hl
  ·rw [if_neg (by omega)]; exact si_delW hM hF hs h1 hF.l1 hl
theorem si_tally {p s M f} (hM : MI 3 s M) (hF : FI 3 s f) (hs : s ≤ 5000) : SI 3 (s + 1) (tallyP p M f) := by
 have hk := hF.kd
 unfold tallyP
 have hnb := nb_small (k := 3) hs
 split
 ·rename_i h6
  have hn := hM.num f.at_
  split
  ·exact ⟨hM.mono, fun _ => { hF.mono with at_ := (by have := hF.at_; simp only; omega), tot := (by have := hF.tot; simp only; omega), ins := fun h => by simp only at h; omega, del := fun h => by simp only at h; omega, enq := fun h => by simp only at h; omega, deq := fun h => by simp only at h; omega }, noA_ok⟩
  ·exact ⟨hM.mono, fun h => by simp at h, ok0⟩
 ·rename_i h6
  split
  ·exact ⟨hM.mono, fun _ => { hF.mono with n0 := rd_n hM _, l0 := rd_l hM _, ins := fun h => by simp only at h; omega, del := fun h => by simp only at h; omega, enq := fun h => by simp only at h; omega, deq := fun h => by simp only at h; omega }, noA_ok⟩
  ·split
   ·have h0 := hF.n0
    refine ⟨hM.wr hs ⟨by omega, ?_⟩ ⟨by simp, by simp⟩ (fun h => by omega), fun h => by simp at h, ok0⟩
    unfold nb at h0 ⊢
    simp at h0 ⊢
    omega
   ·exact ⟨hM.mono, fun _ => { hF.mono with ins := fun h => by simp only at h; omega, del := fun h => by simp only at h; omega, enq := fun h => by simp only at h; omega, deq := fun h => by simp only at h; omega }, noA_ok⟩
theorem bump_num {s M} (hM : MI 4 s M) (hs : s ≤ 5000) (i : Nat) : MI 4 (s + 1) (bumpM M i) := by
 unfold bumpM
 have h := hM.num i
 refine hM.wr hs ⟨by omega, ?_⟩ ⟨by simp, by simp⟩ (fun h => by omega)
 unfold nb at h ⊢
 simp at h ⊢
 omega
theorem si_net {p s M f} (hw : widthN p) (hM : MI 4 s M) (hF : FI 4 s f) (hs : s ≤ 5000) : SI 4 (s + 1) (netP p M f) := by
 have hk := hF.kd
 obtain ⟨g1, g2, g3, g4⟩ := widthN_facts p hw
 have hp16 : 1 ≤ p ∧ p ≤ 16 := by unfold widthN at hw; omega
 have hin := into_rng f.o.a p (by omega)
 unfold netP
 obtain ⟨g, hg⟩ : ∃ g, g = if f.pc = 0 then { f with pc := 1, at_ := into f.o.a p } else f := ⟨_, rfl⟩
 rw [← hg]
 have hG : FI 4 (s + 1) g ∧ g.o = f.o := by
  rw [hg]
  split
  ·exact ⟨{ hF.mono with at_ := (by simp only; omega), ins := fun h => by simp only at h; omega, del := fun h => by simp only at h; omega, enq := fun h => by simp only at h; omega, deq := fun h => by simp only at h; omega }, rfl⟩
  ·exact ⟨hF.mono, rfl⟩
 have hgk : g.o.k = 7 := by rw [hG.2]; omega
 simp only
 cases hq : gateF g.at_ ((gatesN p).drop g.seen.toNat) g.seen.toNat with
 | some i =>
  have hi := gateF_get _ _ _ _ hq
  have hm := g1 (gatesN p)[i] (List.getElem_mem hi.2)
  have hB := bump_num hM hs i
  obtain ⟨at_, hat⟩ : ∃ at_ : Int, at_ = if (rdM M i).n.tmod 2 = 1 then ((gatesN p)[i]!.2 : Int) else (gatesN p)[i]!.1 := ⟨_, rfl⟩
  have har : 0 ≤ at_ ∧ at_ ≤ 16 := by
   rw [hat, getElem!_pos (gatesN p) i hi.2]
   split <;> omega
  have hi80 : i < 80 := by omega
  dsimp only
  rw [← hat]
  clear hat hm hi hq g1 g2 g3 g4 hg
  have hG1 := hG.1
  have hx : FI 4 (s + 1) { g with seen := i + 1, at_ := at_ } := { hG1 with seen := (by simp only; omega), at_ := (by simp only; omega), ins := fun h => by simp only at h; omega, del := fun h => by simp only at h; omega, enq := fun h => by simp only at h; omega, deq := fun h => by simp only at h; omega }
  constructor
  ·dsimp only; exact hB
  ·intro _; exact hx
  ·exact noA_ok
 | none =>
  have hB := bump_num hM hs ((gatesN p).length + placeF g.at_ (outsN p) 0)
  constructor
  ·dsimp only; exact hB
  ·intro h; cases h
  ·exact ok0
theorem slotK_ge {p f} (hp : 1 ≤ p) (hs : 0 ≤ f.seg) : 2 ≤ slotK p f := by
 have h1 : 0 ≤ f.seg * (p : Int) := Int.mul_nonneg hs (by omega)
 have h2 := Int.emod_nonneg (f.at_ + f.seen) (show (p : Int) ≠ 0 by omega)
 unfold slotK; omega
theorem nb2 (s : Nat) : nb 2 s = s + 2 := by simp [nb]
theorem si_enq {p s M f} (hp : 1 ≤ p ∧ p ≤ 16) (hM : MI 2 s M) (hF : FI 2 s f) (hs : s ≤ 5000) (h1 : f.o.k = 3) : SI 2 (s + 1) (enqP p M f) := by
 unfold enqP
 have hsg := slotK_ge (p := p) (f := f) hp.1 hF.seg.1
 have hin := into_rng f.o.a p (by omega)
 have c1 := hM.num 1
 rw [nb2] at c1
 have hseg := hF.seg
 have hseen := hF.seen
 split
 ·exact ⟨hM.mono, fun _ => { hF.mono with n0 := rd_n hM _, l0 := rd_l hM _, seg := (by simp only [begK, FrR.c0]; omega), at_ := (by simp only [begK, FrR.c0]; omega), seen := (by simp only [begK]; omega), ins := fun h => by simp only [begK, FrR.c0] at h; omega, del := fun h => by simp only [begK, FrR.c0] at h; omega, enq := fun _ => (by simp only [begK, FrR.c0]; omega), deq := fun h => by simp only [begK, FrR.c0] at h; omega }, noA_ok⟩
 ·split
  ·split
   ·exact ⟨hM.mono, fun _ => { hF.mono with n1 := rd_n hM _, l1 := rd_l hM _, ins := fun h => by simp only [FrR.c1] at h; omega, del := fun h => by simp only [FrR.c1] at h; omega, enq := fun _ => .inr (.inr (.inl rfl)), deq := fun h => by simp only [FrR.c1] at h; omega }, noA_ok⟩
   ·exact ⟨hM.mono, fun _ => { hF.mono with n1 := rd_n hM _, l1 := rd_l hM _, seen := (by simp only [FrR.c1]; omega), ins := fun h => by simp only [FrR.c1] at h; omega, del := fun h => by simp only [FrR.c1] at h; omega, enq := fun _ => (by simp only [FrR.c1]; split <;> omega), deq := fun h => by simp only [FrR.c1] at h; omega }, noA_ok⟩
  ·split
   ·split
    ·exact ⟨hM.wr hs ⟨by omega, by have := nb_le 2 s; rw [nb2]; omega⟩ ⟨by simp, by simpa using canon_okI hF.it⟩ (fun _ _ _ => by simp), fun h => by simp at h, canon_okI hF.it⟩
    ·exact ⟨hM.mono, fun _ => { hF.mono with ins := fun h => by simp only at h; omega, del := fun h => by simp only at h; omega, enq := fun _ => .inl rfl, deq := fun h => by simp only at h; omega }, noA_ok⟩
   ·exact ⟨hM.wr hs ⟨by omega, by rw [nb2]; omega⟩ ⟨by simp, by simp⟩ (fun _ h => by omega), fun _ => { hF.mono with ins := fun h => by simp only at h; omega, del := fun h => by simp only at h; omega, enq := fun _ => .inl rfl, deq := fun h => by simp only at h; omega }, noA_ok⟩
theorem si_deq {p s M f} (hp : 1 ≤ p ∧ p ≤ 16) (hM : MI 2 s M) (hF : FI 2 s f) (hs : s ≤ 5000) (h1 : f.o.k = 4) : SI 2 (s + 1) (deqP p M f) := by
 have hsg := slotK_ge (p := p) (f := f) hp.1 hF.seg.1
 have hin := into_rng f.o.a p (by omega)
 have c0 := hM.num 0
 rw [nb2] at c0
 have hseg := hF.seg
 have hseen := hF.seen
 have hdq := hF.deq h1
 unfold deqP
 split
 ·exact ⟨hM.mono, fun _ => { hF.mono with n0 := rd_n hM _, l0 := rd_l hM _, seg := (by simp only [FrR.c0]; omega), ins := fun h => by simp only [FrR.c0] at h; omega, del := fun h => by simp only [FrR.c0] at h; omega, enq := fun h => by simp only [FrR.c0] at h; omega, deq := fun _ => .inr (.inl rfl) }, noA_ok⟩
 ·split
  ·rename_i hc
   exact ⟨hM.mono, fun _ => { hF.mono with n1 := rd_n hM _, l1 := rd_l hM _, at_ := (by simp only [begK, FrR.c1]; omega), seen := (by simp only [begK]; omega), ins := fun h => by simp only [begK, FrR.c1] at h; omega, del := fun h => by simp only [begK, FrR.c1] at h; omega, enq := fun h => by simp only [begK, FrR.c1] at h; omega, deq := fun _ => .inr (.inr (.inl (by simp only [begK, FrR.c1]; omega))) }, noA_ok⟩
  ·split
   ·rename_i hc
    unfold lookP
    split
    ·rename_i hn
     have hf := hM.full rfl _ hsg hn
     exact ⟨hM.mono, fun _ => { hF.mono with n1 := rd_n hM _, l1 := rd_l hM _, ins := fun h => by simp only [FrR.c1] at h; omega, del := fun h => by simp only [FrR.c1] at h; omega, enq := fun h => by simp only [FrR.c1] at h; omega, deq := fun _ => .inr (.inr (.inr (.inl ⟨rfl, hf⟩))) }, noA_ok⟩
    ·split
     ·exact ⟨hM.mono, fun _ => { hF.mono with seen := (by simp only; omega), ins := fun h => by simp only at h; omega, del := fun h => by simp only at h; omega, enq := fun h => by simp only at h; omega, deq := fun _ => .inr (.inr (.inl hc)) }, noA_ok⟩
     ·exact ⟨hM.mono, fun _ => { hF.mono with seen := (by simp only; omega), ins := fun h => by simp only at h; omega, del := fun h => by simp only at h; omega, enq := fun h => by simp only at h; omega, deq := fun _ => (by simp only; split <;> simp) }, noA_ok⟩
   ·split
    ·rename_i hc
     have hl : f.l1 ≠ [] := by rcases hdq with h | h | h | ⟨_, h⟩ | h | h <;> first | exact h | omega
     split
     ·refine ⟨hM.wr hs ⟨by omega, by rw [nb2]; omega⟩ ⟨by simp, by simp⟩ (fun _ _ h => by omega), fun h => by simp at h, ?_⟩
      cases h : f.l1 with
      | nil => exact absurd h hl
      | cons x t => simp only [h, List.headD_cons]; exact hF.l1.2 x (by rw [h]; simp)
     ·exact ⟨hM.mono, fun _ => { hF.mono with ins := fun h => by simp only at h; omega, del := fun h => by simp only at h; omega, enq := fun h => by simp only at h; omega, deq := fun _ => .inl rfl }, noA_ok⟩
    ·split
     ·exact ⟨hM.wr hs ⟨by omega, by rw [nb2]; omega⟩ ⟨by simp, by simp⟩ (fun _ h => by omega), fun _ => { hF.mono with ins := fun h => by simp only at h; omega, del := fun h => by simp only at h; omega, enq := fun h => by simp only at h; omega, deq := fun _ => .inl rfl }, noA_ok⟩
     ·exact ⟨hM.wr hs ⟨by omega, by rw [nb2]; omega⟩ ⟨by simp, by simp⟩ (fun _ h => by omega), fun _ => { hF.mono with ins := fun h => by simp only at h; omega, del := fun h => by simp only at h; omega, enq := fun h => by simp only at h; omega, deq := fun _ => .inl rfl }, noA_ok⟩
theorem si_step {k : Int} {p s : Nat} {M f} (hl : legal k p = 0) (hM : MI k s M) (hF : FI k s f) (hs : s ≤ 5000) : SI k (s + 1) (stepP k p M f) := by
 have hp : 1 ≤ p ∧ p ≤ 16 := by have := legal_p hl; omega
 unfold stepP
 rcases hF.kd with ⟨rfl, h⟩ | ⟨rfl, h⟩ | ⟨rfl, h⟩ | ⟨rfl, h⟩
 ·rw [if_pos rfl]
  unfold multiP
  rcases h with h | h
  ·rw [if_pos h]; exact si_ins hM hF hs h
  ·rw [if_neg (by omega)]; exact si_del hM hF hs h
 ·rw [if_neg (by omega), if_pos rfl]
  unfold kfifoP
  rcases h with h | h
  ·rw [if_pos h]; exact si_enq hp hM hF hs h
  ·rw [if_neg (by omega)]; exact si_deq hp hM hF hs h
 ·rw [if_neg (by omega), if_neg (by omega), if_pos rfl]
  exact si_tally hM hF hs
 ·rw [if_neg (by omega), if_neg (by omega), if_neg (by omega)]
  exact si_net (legal_width hl) hM hF hs
end Go.AM

namespace Go.AM
def rStep (k : Int) (p : Nat) (ps : List Pt) (g : FrR) : RSo := if k = 1 then rMulti p ps g else if k = 2 then rKfifo p ps g else if k = 3 then rTally p ps g else rNet p ps g
structure GI (k : Int) (g : FrR) : Prop where
 sm : g.small
 kd : (k = 1 ∧ (g.o.k = 1 ∨ g.o.k = 2)) ∨ (k = 2 ∧ (g.o.k = 3 ∨ g.o.k = 4)) ∨ (k = 3 ∧ (g.o.k = 6 ∨ (g.o.k = 5 ∧ 0 ≤ g.o.x.v ∧ g.o.x.v ≤ 4294967296))) ∨ (k = 4 ∧ g.o.k = 7)
 seg : 0 ≤ g.seg ∧ g.seg ≤ 1000000
 del : g.o.k = 2 → g.pc = 0 ∨ g.pc = 1 ∨ (g.pc = 2 ∧ (g.l0 ≠ [] ∨ g.l1 ≠ []))
 enq : g.o.k = 3 → g.pc = 0 ∨ g.pc = 1 ∨ g.pc = 2 ∨ g.pc = 3
 deq : g.o.k = 4 → g.pc = 0 ∨ g.pc = 1 ∨ g.pc = 2 ∨ (g.pc = 3 ∧ g.l1 ≠ []) ∨ g.pc = 4 ∨ g.pc = 5
set_option maxRecDepth 20000 in
theorem c_ref12_Step (k : Int) (p s : Nat) (hl : legal k p = 0) (hs : s ≤ 5000) (ps : List Pt) (hn : ps.length ≤ 1000000) (g : FrR) (hG : GI k g)
    (hr : ∀ i, 0 ≤ (rdP ps 0 i zC).n ∧ (rdP ps 0 i zC).n ≤ nb k s ∧ (rdP ps 0 i zC).l.length ≤ 62) (sg) :
    LL.call n_c_ref12_Step [.i .i64 k, .i .i64 p, eMr .z ps, eFr g] sg sg.length = some (eRSo (rStep k p ps g), sg, sg.length) := by
 have hp : 1 ≤ p ∧ p ≤ 16 := by have := legal_p hl; omega
 unfold rStep
 refine wp_call e_c_ref12_Step rfl ?_
 rcases hG.kd with ⟨rfl, h⟩ | ⟨rfl, h⟩ | ⟨rfl, h⟩ | ⟨rfl, h⟩
 ·rw [if_pos rfl]
  have S := c_ref08_Step p hp ps hn g hG.sm (fun h1 => hG.del (by omega)) (fun i => (hr i).2.2) sg
  simp [eMr, eFr, eFrK, eRSo, eAr] at S
  simp [F_c_ref12_Step, eMr, eFr, eFrK, S, eRSo, eAr]
 ·rw [if_neg (by omega), if_pos rfl]
  have S := c_ref09_Step p hp ps hn g hG.sm hG.seg (fun i => by have := hr i; rw [nb2] at this; omega) sg h hG.enq hG.deq
  simp [eMr, eFr, eFrK, eRSo, eAr] at S
  simp [F_c_ref12_Step, eMr, eFr, eFrK, S, eRSo, eAr]
 ·rw [if_neg (by omega), if_neg (by omega), if_pos rfl]
  have S := c_ref07_Step p hp ps hn g hG.sm (fun h1 => by omega) (fun i => by have := hr i; have := nb_small (k := 3) hs; omega) sg
  simp [eMr, eFr, eFrK, eRSo, eAr] at S
  simp [F_c_ref12_Step, eMr, eFr, eFrK, S, eRSo, eAr]
 ·rw [if_neg (by omega), if_neg (by omega), if_neg (by omega)]
  have hw := legal_width hl
  have C := p_count p hw
  have S := c_ref11_Step p hw ps hn g hG.sm (fun i => by have := hr i; simp [nb] at this; omega) sg
  simp [eMr, eFr, eFrK, eRSo, eAr, eNetR] at S C
  have hkw : kW p = .o ∨ kW p = .z := by unfold kW; split <;> simp
  rcases hkw with h | h
  all_goals
   rw [h] at C
   simp [F_c_ref12_Step, eMr, eFr, eFrK, C, S, eRSo, eAr]
end Go.AM

namespace Go.AM
def UpH (h : List It) (j n : Nat) : Prop := (∀ i, 1 ≤ i → i < n → i ≠ j → leI h[(i - 1) / 2]! h[i]!) ∧ (1 ≤ j → ∀ c, 1 ≤ c → c < n → (c - 1) / 2 = j → leI h[(j - 1) / 2]! h[c]!)
theorem upH_hp (h : List It) (j : Nat) (hj : j < h.length) (hu : UpH h j h.length) : HP (upH h j) 0 h.length := by
 rw [upH]
 split
 ·rename_i h0
  intro i i1 i2 _
  exact hu.1 i i1 i2 (by omega)
 ·rename_i h0
  obtain ⟨q, hq⟩ : ∃ q, q = (j - 1) / 2 := ⟨_, rfl⟩
  rw [← hq]
  have hqj : q < j := by omega
  have hql : q < h.length := by omega
  split
  ·rename_i hc
   have hlt : ltI h[j]! h[q]! := (cmpI_lt _ _).1 hc
   have hl := swp_len h q j
   have := upH_hp (swp h q j) q (by rw [hl]; omega) (by
    rw [hl]
    refine ⟨fun i i1 i2 i3 => ?_, fun q1 c c1 c2 c3 => ?_⟩
    ·rw [swp_get hql hj, swp_get hql hj]
     by_cases e1 : i = j
     ·rw [if_pos e1, e1, ← hq, if_neg (by omega), if_pos rfl]
      exact leI_of_lt hlt
     ·rw [if_neg e1, if_neg i3]
      by_cases e2 : (i - 1) / 2 = j
      ·rw [if_pos e2]
       have := hu.2 (by omega) i i1 i2 e2
       rw [← hq] at this; exact this
      ·rw [if_neg e2]
       by_cases e3 : (i - 1) / 2 = q
       ·rw [if_pos e3]
        have := hu.1 i i1 i2 e1
        rw [e3] at this
        exact leI_trans (leI_of_lt hlt) this
       ·rw [if_neg e3]
        exact hu.1 i i1 i2 e1
    ·rw [swp_get hql hj, swp_get hql hj, if_neg (by omega), if_neg (by omega)]
     have hg := hu.1 q q1 (by omega) (by omega)
     by_cases e1 : c = j
     ·rw [if_pos e1]; exact hg
     ·rw [if_neg e1, if_neg (by omega)]
      have := hu.1 c c1 c2 e1
      rw [c3] at this
      exact leI_trans hg this)
   rw [hl] at this
   exact this
  ·rename_i hc
   have hge : leI h[q]! h[j]! := (cmpI_ge _ _).1 (by omega)
   intro i i1 i2 _
   by_cases e : i = j
   ·rw [e, ← hq]; exact hge
   ·exact hu.1 i i1 i2 e
termination_by j
theorem putH_hp (h : List It) (x : It) (hp : HP h 0 h.length) : HP (putH h x) 0 (putH h x).length := by
 have hl : (putH h x).length = h.length + 1 := by have := (putH_perm h x).length_eq; simpa using this
 rw [hl]
 unfold putH
 have := upH_hp (h ++ [x.canon]) h.length (by simp) (by
  refine ⟨fun i i1 i2 i3 => ?_, fun _ c c1 c2 c3 => ?_⟩
  ·simp at i2
   have hi : i < h.length := by omega
   have := hp i i1 hi (Nat.zero_le _)
   have e1 : (h ++ [x.canon])[i]! = h[i]! := by simp [List.getElem!_eq_getElem?_getD, List.getElem?_append_left hi]
   have e2 : (h ++ [x.canon])[(i - 1) / 2]! = h[(i - 1) / 2]! := by simp [List.getElem!_eq_getElem?_getD, List.getElem?_append_left (show (i - 1) / 2 < h.length by omega)]
   rw [e1, e2]; exact this
  ·simp at c2; omega)
 simpa using this
theorem put_with (l : List It) (x : It) (hx : x.ok) (hl : ∀ y ∈ l, y.ok ∧ y.canon = y) (hs : l.Pairwise leI) : allH (putH (newH l) x) = withI x.canon l := by
 have hxc : x.canon.ok ∧ x.canon.canon = x.canon := ⟨canon_okI hx, by simp [It.canon, canon_canon]⟩
 have hm : l.map It.canon = l := map_canon_id l (fun y hy => (hl y hy).2)
 have hp : (allH (putH (newH l) x)).Perm (x.canon :: l) := (allH_perm _).trans ((putH_perm _ _).trans (by
  have := newH_perm l
  rw [hm] at this
  exact this.cons _))
 refine ordered_unique (fun y hy => ?_) (allH_ordered _ (putH_hp _ _ (newH_hp l))) (withI_ordered x.canon l hs) (hp.trans (withI_perm _ _).symm)
 rcases List.mem_cons.1 (hp.mem_iff.1 hy) with rfl | hy
 ·exact hxc
 ·exact hl y hy
theorem pop_tail (x : It) (t : List It) (hl : ∀ y ∈ x :: t, y.ok ∧ y.canon = y) (hs : (x :: t).Pairwise leI) : (popH (newH (x :: t))).1 = x ∧ allH (popH (newH (x :: t))).2 = t := by
 have h1 := allH_sort (x :: t) (fun y hy => (hl y hy).1)
 have h2 : sortI ((x :: t).map It.canon) = x :: t := by
  rw [map_canon_id _ (fun y hy => (hl y hy).2)]
  exact (ordered_unique hl hs ((ordered_pw _).1 (sortI_ordered _)) (sortI_perm _).symm).symm
 have hne : newH (x :: t) ≠ [] := by
  intro h
  have := newH_len (x :: t)
  rw [h] at this
  simp at this
 rw [h2, allH, dif_neg hne] at h1
 injection h1 with a b
 exact ⟨a, b⟩
end Go.AM

namespace Go.AM
def gOf (k : Int) (f : FrR) : FrR := { f with o := { f.o with x := f.o.x.canon }, at_ := if k = 1 then 0 else f.at_ }
def kept (k : Int) (l : List It) : Prop := (∀ x ∈ l, x.ok ∧ x.canon = x) ∧ (k = 1 → l.Pairwise leI)
theorem kept_nil (k : Int) : kept k [] := ⟨by simp, fun _ => .nil⟩
theorem memOf_wr (ps : List Pt) (h : ∀ q ∈ ps, q.ok) (i : Int) (v : Nat) (n : Int) (l : List It) : wrM (memOf ps) i v n l = memOf (wrP ps i v n l) := by
 unfold wrM wrP wrB wrQ
 rw [memOf_rd _ _ h]
 split
 ·rw [memOf_snoc]
 ·rfl
theorem memOf_wb (ps : List Pt) (h : ∀ q ∈ ps, q.ok) (i : Int) (v : Nat) : wrB (memOf ps) i v = wrQ ps i v := by
 unfold wrB wrQ
 rw [memOf_rd _ _ h]
structure PI (k : Int) (ps : List Pt) : Prop where
 ok : ∀ q ∈ ps, q.ok
 kp : ∀ i, kept k (rdP ps 0 i zC).l
 one : k = 2 → ∀ i, 2 ≤ i → (rdP ps 0 i zC).n = 1 → (rdP ps 0 i zC).l.length = 1
theorem rdP_snoc (ps : List Pt) (q : Pt) (i : Int) : rdP (ps ++ [q]) 0 i zC = if q.at_ = i then ⟨ps.length + 1, q.n, q.l⟩ else rdP ps 0 i zC := by
 rw [rdP_app]; simp [rdP]
theorem PI.wr {k ps} (h : PI k ps) {i : Int} {v : Nat} {n : Int} {l : List It} (hl : kept k l) (h2 : l.length ≤ 1000000) (h3 : k = 2 → 2 ≤ i → n = 1 → l.length = 1) : PI k (wrP ps i v n l) := by
 unfold wrP
 split
 ·rename_i hw
  simp [wrQ] at hw
  refine ⟨fun q hq => ?_, fun j => ?_, fun hk j hj => ?_⟩
  ·rcases List.mem_append.1 hq with hq | hq
   ·exact h.ok q hq
   ·simp at hq; subst hq; exact ⟨hw.1, hw.2.1, h2⟩
  ·rw [rdP_snoc]
   split
   ·exact hl
   ·exact h.kp j
  ·rw [rdP_snoc]
   split
   ·rename_i e
    simp only at e
    subst e
    exact h3 hk hj
   ·exact h.one hk j hj
 ·exact h
structure KI (k : Int) (p : Nat) (f : FrR) : Prop where
 l0 : kept k f.l0
 l1 : kept k f.l1
 bet : k = 1 → f.o.k = 2 → f.pc = 2 → f.at_ = (betP f.l0 f.l1).1
 sum : f.o.k = 6 → f.at_ < p
 em : f.o.k = 3 → f.em = false
structure Rl (k : Int) (p : Nat) (so : So) (ro : RSo) : Prop where
 m : so.m = memOf ro.ps
 pi : PI k ro.ps
 a : so.a = ro.a
 d : so.d = ro.d
 f : so.d = false → ro.f = gOf k so.f
 ki : so.d = false → KI k p so.f
theorem rel_tally {p : Nat} {ps : List Pt} {f : FrR} (hP : PI 3 ps) (hK : KI 3 p f) : Rl 3 p (tallyP p (memOf ps) f) (rTally p ps (gOf 3 f)) := by
 unfold tallyP rTally
 have hgk : (gOf 3 f).o.k = f.o.k := rfl
 have hga : (gOf 3 f).at_ = f.at_ := by simp [gOf]
 have hgo : (gOf 3 f).o.a = f.o.a := rfl
 have hgp : (gOf 3 f).pc = f.pc := rfl
 rw [hgk, hga, hgo, hgp]
 simp only [memOf_rd _ _ hP.ok, memOf_wb _ hP.ok, memOf_wr _ hP.ok]
 by_cases h6 : f.o.k = 6
 ·rw [if_pos h6, if_pos h6]
  have hs := hK.sum h6
  by_cases hc : f.at_ + 1 < p
  ·rw [if_pos hc, if_neg (by omega)]
   exact ⟨rfl, hP, rfl, rfl, fun _ => by simp [gOf], fun _ => ⟨hK.l0, hK.l1, fun h => by omega, fun _ => hc, fun h => by simp only at h; omega⟩⟩
  ·rw [if_neg hc, if_pos (by omega)]
   exact ⟨rfl, hP, rfl, rfl, fun h => by simp at h, fun h => by simp at h⟩
 ·rw [if_neg h6, if_neg h6]
  by_cases hc : f.pc = 0
  ·rw [if_pos hc, if_pos hc]
   exact ⟨rfl, hP, rfl, rfl, fun _ => by simp [gOf], fun _ => ⟨hP.kp _, hK.l1, fun h => by omega, fun h => absurd h h6, hK.em⟩⟩
  ·rw [if_neg hc, if_neg hc]
   cases hw : wrQ ps (into f.o.a p) f.v0 with
   | true =>
    rw [if_pos rfl]
    exact ⟨by simp [gOf, It.canon], hP.wr (kept_nil _) (by simp) (fun h => by omega), by simp [gOf, hw], by simp [gOf, hw], fun h => by simp at h, fun h => by simp at h⟩
   | false =>
    rw [if_neg (by simp)]
    have hwp : wrP ps (into f.o.a p) f.v0 ((gOf 3 f).n0 + (gOf 3 f).o.x.v) [] = ps := by unfold wrP; rw [hw]; rfl
    have hv : (gOf 3 f).v0 = f.v0 := rfl
    rw [hv, hwp, hw]
    exact ⟨rfl, hP, rfl, rfl, fun _ => by simp [gOf], fun _ => ⟨hK.l0, hK.l1, fun h => by omega, fun h => absurd h h6, hK.em⟩⟩
theorem kept_with (x : It) (l : List It) (hx : x.ok ∧ x.canon = x) (h : kept 1 l) : kept 1 (withI x l) :=
 ⟨fun y hy => by
  rcases List.mem_cons.1 ((withI_perm x l).mem_iff.1 hy) with rfl | hy
  ·exact hx
  ·exact h.1 y hy, fun _ => withI_ordered x l (h.2 rfl)⟩
theorem rel_ins {p : Nat} {ps : List Pt} {f : FrR} (hP : PI 1 ps) (hK : KI 1 p f) (hx : f.o.x.ok) (h1 : f.o.k = 1) (hl : f.l0.length ≤ 62) : Rl 1 p (insP p (memOf ps) f) (rIns p ps (gOf 1 f)) := by
 unfold insP rIns
 have hgo : (gOf 1 f).o.a = f.o.a := rfl
 have hgp : (gOf 1 f).pc = f.pc := rfl
 have hv : (gOf 1 f).v0 = f.v0 := rfl
 have hg0 : (gOf 1 f).l0 = f.l0 := rfl
 have hgx : (gOf 1 f).o.x = f.o.x.canon := rfl
 rw [hgo, hgp, hv, hg0, hgx]
 have hxc : f.o.x.canon.ok ∧ f.o.x.canon.canon = f.o.x.canon := ⟨canon_okI hx, by simp [It.canon, canon_canon]⟩
 simp only [memOf_rd _ _ hP.ok, memOf_wb _ hP.ok, memOf_wr _ hP.ok, put_with f.l0 f.o.x hx hK.l0.1 (hK.l0.2 rfl)]
 by_cases hc : f.pc = 0
 ·rw [if_pos hc, if_pos hc]
  exact ⟨rfl, hP, rfl, rfl, fun _ => by simp [gOf], fun _ => ⟨hP.kp _, hK.l1, fun _ h => by simp only at h; omega, fun h => by simp only at h; omega, fun h => by simp only at h; omega⟩⟩
 ·rw [if_neg hc, if_neg hc]
  cases hw : wrQ ps (into f.o.a p) f.v0 with
  | true =>
   rw [if_pos rfl, if_pos rfl]
   exact ⟨rfl, hP.wr (kept_with _ _ hxc hK.l0) (by rw [withI_len]; omega) (fun h => by omega), rfl, rfl, fun h => by simp at h, fun h => by simp at h⟩
  | false =>
   rw [if_neg (by simp), if_neg (by simp)]
   exact ⟨rfl, hP, rfl, rfl, fun _ => by simp [gOf], fun _ => ⟨hK.l0, hK.l1, fun _ h => by simp only at h; omega, fun h => by simp only at h; omega, fun h => by simp only at h; omega⟩⟩
theorem betP_no (a b : List It) : (!(betP a b).2) = decide (a.length + b.length = 0) := by
 cases a with
 | nil => cases b <;> simp [betP]
 | cons x s => cases b with
  | nil => simp [betP]
  | cons y t => simp only [betP]; split <;> simp
theorem rel_delW {p : Nat} {ps : List Pt} {f : FrR} {at_ : Int} {v : Nat} {l : List It} (hP : PI 1 ps) (hK : KI 1 p f) (h1 : f.o.k = 2) (hl : kept 1 l) (h0 : l ≠ []) (h62 : l.length ≤ 62) :
    Rl 1 p (delW (memOf ps) f at_ v l) (rDelW ps (gOf 1 f) at_ v l) := by
 unfold delW rDelW
 obtain ⟨x, t, rfl⟩ : ∃ x t, l = x :: t := by
  cases l with
  | nil => exact absurd rfl h0
  | cons x t => exact ⟨x, t, rfl⟩
 obtain ⟨e1, e2⟩ := pop_tail x t hl.1 (hl.2 rfl)
 simp only [memOf_wb _ hP.ok, memOf_wr _ hP.ok, e1, e2, List.tail_cons, List.headD_cons]
 cases hw : wrQ ps at_ v with
 | true =>
  rw [if_pos rfl, if_pos rfl]
  exact ⟨rfl, hP.wr ⟨fun y hy => hl.1 y (by simp [hy]), fun _ => (List.pairwise_cons.1 (hl.2 rfl)).2⟩ (by simp at h62; omega) (fun h => by omega), rfl, rfl, fun h => by simp at h, fun h => by simp at h⟩
 | false =>
  rw [if_neg (by simp), if_neg (by simp)]
  exact ⟨rfl, hP, rfl, rfl, fun _ => by simp [gOf], fun _ => ⟨hK.l0, hK.l1, fun _ _ h => by simp only at h; omega, fun h => by simp only at h; omega, fun h => by simp only at h; omega⟩⟩
theorem rel_del {p : Nat} {ps : List Pt} {f : FrR} (hP : PI 1 ps) (hK : KI 1 p f) (h1 : f.o.k = 2) (hd : delOK f) (l0 : f.l0.length ≤ 62) (l1 : f.l1.length ≤ 62) : Rl 1 p (delP p (memOf ps) f) (rDel p ps (gOf 1 f)) := by
 unfold delP rDel
 have hgo : (gOf 1 f).o.a = f.o.a := rfl
 have hgb : (gOf 1 f).o.b = f.o.b := rfl
 have hgp : (gOf 1 f).pc = f.pc := rfl
 have hv : (gOf 1 f).v0 = f.v0 := rfl
 have hv1 : (gOf 1 f).v1 = f.v1 := rfl
 have hg0 : (gOf 1 f).l0 = f.l0 := rfl
 have hg1 : (gOf 1 f).l1 = f.l1 := rfl
 rw [hgo, hgp, hgb, hv, hv1, hg0, hg1]
 simp only [memOf_rd _ _ hP.ok]
 rcases hd with hc | hc | ⟨hc, hd⟩
 ·rw [if_pos hc, if_pos hc]
  exact ⟨rfl, hP, rfl, rfl, fun _ => by simp [gOf], fun _ => ⟨hP.kp _, hK.l1, fun _ _ h => by simp only at h; omega, fun h => by simp only at h; omega, fun h => by simp only at h; omega⟩⟩
 ·have h0 : ¬ f.pc = 0 := by omega
  simp only [h0, hc, if_false, if_true, show ¬ (1 : Int) = 0 by decide]
  exact ⟨rfl, hP, rfl, betP_no _ _, fun _ => by simp [gOf], fun _ => ⟨hK.l0, hP.kp _, fun _ _ _ => rfl, fun h => by simp only at h; omega, fun h => by simp only at h; omega⟩⟩
 ·have h0 : ¬ f.pc = 0 := by omega
  have h1' : ¬ f.pc = 1 := by omega
  have hb := hK.bet rfl h1 hc
  rcases hd with ⟨ha, hl⟩ | ⟨ha, hl⟩
  ·have hb0 : ¬ (betP f.l0 f.l1).1 = 1 := by omega
   simp only [h0, h1', ha, hb0, if_false, if_true]
   exact rel_delW hP hK h1 hK.l0 hl l0
  ·have hb1 : (betP f.l0 f.l1).1 = 1 := by omega
   have ha0 : ¬ f.at_ = 0 := by omega
   simp only [h0, h1', ha0, hb1, if_false, if_true]
   exact rel_delW hP hK h1 hK.l1 hl l1
theorem rel_net {p : Nat} {ps : List Pt} {f : FrR} (hP : PI 4 ps) (hK : KI 4 p f) (h7 : f.o.k = 7) : Rl 4 p (netP p (memOf ps) f) (rNet p ps (gOf 4 f)) := by
 unfold netP rNet bumpM moreP
 have hgp : (gOf 4 f).pc = f.pc := rfl
 have hgo : (gOf 4 f).o.a = f.o.a := rfl
 rw [hgp, hgo]
 obtain ⟨h, hh⟩ : ∃ h, h = if f.pc = 0 then { f with pc := 1, at_ := into f.o.a p } else f := ⟨_, rfl⟩
 have hg : (if f.pc = 0 then { gOf 4 f with pc := 1, at_ := into f.o.a p } else gOf 4 f) = gOf 4 h := by
  rw [hh]
  split <;> simp [gOf]
 have hho : h.o = f.o ∧ h.l0 = f.l0 ∧ h.l1 = f.l1 ∧ h.em = f.em := by rw [hh]; split <;> exact ⟨rfl, rfl, rfl, rfl⟩
 rw [← hh, hg]
 have a1 : (gOf 4 h).at_ = h.at_ := by simp [gOf]
 have a2 : (gOf 4 h).seen = h.seen := rfl
 simp only [a1, a2, memOf_rd _ _ hP.ok, memOf_wr _ hP.ok]
 cases hq : gateF h.at_ ((gatesN p).drop h.seen.toNat) h.seen.toNat with
 | some i =>
  have hx := hP.wr (i := i) (v := (rdP ps 0 (i : Int) zC).v) (n := (rdP ps 0 (i : Int) zC).n + 1) (kept_nil 4) (by simp) (fun h => by omega)
  refine ⟨?_, ?_, ?_, ?_, ?_, ?_⟩ <;> dsimp only
  ·exact hx
  ·intro _; simp [gOf]
  ·intro _
   exact ⟨by simp only [hho.2.1]; exact hK.l0, by simp only [hho.2.2.1]; exact hK.l1, fun e => by omega, fun e => by simp only [hho.1] at e; omega, fun e => by simp only [hho.1] at e; omega⟩
 | none =>
  have hx := hP.wr (i := (((gatesN p).length + placeF h.at_ (outsN p) 0 : Nat) : Int)) (v := (rdP ps 0 (((gatesN p).length + placeF h.at_ (outsN p) 0 : Nat) : Int) zC).v) (n := (rdP ps 0 (((gatesN p).length + placeF h.at_ (outsN p) 0 : Nat) : Int) zC).n + 1) (kept_nil 4) (by simp) (fun h => by omega)
  refine ⟨?_, ?_, ?_, ?_, ?_, ?_⟩ <;> dsimp only
  ·exact hx
  ·intro e; cases e
  ·intro e; cases e
theorem kept_one (x : It) (h : x.ok) : kept 2 [x.canon] := ⟨fun y hy => by simp at hy; subst hy; exact ⟨canon_okI h, by simp [It.canon, canon_canon]⟩, fun e => by omega⟩
theorem ki2 {p : Nat} {f : FrR} (h0 : kept 2 f.l0) (h1 : kept 2 f.l1) (hk : f.o.k = 3 ∨ f.o.k = 4) (he : f.o.k = 3 → f.em = false) : KI 2 p f := ⟨h0, h1, fun e => by omega, fun e => by omega, he⟩
theorem fits_eq {p : Nat} (hp : 1 ≤ p ∧ p ≤ 16) {n : Int} (hn : 0 ≤ n) : (!fitsK p n) = decide (1000 < 2 + (n + 1) * (p : Int)) := by
 have h1 : (n + 1) * (p : Int) = n * p + p := by rw [Int.add_mul, Int.one_mul]
 have h2 : n ≤ n * (p : Int) := by
  have := Int.mul_le_mul_of_nonneg_left (show (1 : Int) ≤ p by omega) hn
  simpa using this
 rw [h1]
 unfold fitsK
 generalize n * (p : Int) = m at *
 rw [Bool.eq_iff_iff]
 simp only [Bool.not_eq_true', decide_eq_false_iff_not, decide_eq_true_eq]
 omega
theorem rel_enq {p : Nat} {ps : List Pt} {f : FrR} (hp : 1 ≤ p ∧ p ≤ 16) (hP : PI 2 ps) (hK : KI 2 p f) (hx : f.o.x.ok) (h3 : f.o.k = 3) (h0 : 0 ≤ (rdP ps 0 1 zC).n) (hpc : f.pc = 0 ∨ f.pc = 1 ∨ f.pc = 2 ∨ f.pc = 3) :
    Rl 2 p (enqP p (memOf ps) f) (rEnq p ps (gOf 2 f)) := by
 have he := hK.em h3
 unfold enqP rEnq
 have hsl : slotK p (gOf 2 f) = slotK p f := by simp [slotK, gOf]
 have hgp : (gOf 2 f).pc = f.pc := rfl
 have hgs : (gOf 2 f).seen = f.seen := rfl
 have hgo : (gOf 2 f).o.a = f.o.a := rfl
 have hv0 : (gOf 2 f).v0 = f.v0 := rfl
 have hv1 : (gOf 2 f).v1 = f.v1 := rfl
 have hsg : (gOf 2 f).seg = f.seg := rfl
 have hgx : (gOf 2 f).o.x = f.o.x.canon := rfl
 rw [hsl, hgp, hgs, hgo, hv0, hv1, hsg, hgx]
 simp only [memOf_rd _ _ hP.ok, memOf_wb _ hP.ok, memOf_wr _ hP.ok]
 rcases hpc with hc | hc | hc | hc
 ·simp only [hc, if_true]
  refine ⟨rfl, hP, rfl, fits_eq hp h0, fun _ => ?_, fun _ => ki2 (hP.kp _) hK.l1 (.inl h3) (fun _ => rfl)⟩
  simp [gOf, begK, FrR.c0, hc, he]
 ·simp only [hc, if_true, if_false, show ¬ (1 : Int) = 0 by decide]
  by_cases hn : (rdP ps 0 (slotK p f) zC).n = 0
  ·rw [if_pos hn, if_pos hn]
   exact ⟨rfl, hP, rfl, rfl, fun _ => by simp [gOf, FrR.c1], fun _ => ki2 hK.l0 (hP.kp _) (.inl h3) (fun _ => he)⟩
  ·rw [if_neg hn, if_neg hn]
   exact ⟨rfl, hP, rfl, rfl, fun _ => by simp [gOf, FrR.c1], fun _ => ki2 hK.l0 (hP.kp _) (.inl h3) (fun _ => he)⟩
 ·simp only [hc, if_true, if_false, show ¬ (2 : Int) = 0 by decide, show ¬ (2 : Int) = 1 by decide]
  cases hw : wrQ ps (slotK p f) f.v1 with
  | true =>
   rw [if_pos rfl, if_pos rfl]
   exact ⟨rfl, hP.wr (kept_one _ hx) (by simp) (fun _ _ _ => rfl), rfl, rfl, fun h => by simp at h, fun h => by simp at h⟩
  | false =>
   rw [if_neg (by simp), if_neg (by simp)]
   exact ⟨rfl, hP, rfl, rfl, fun _ => by simp [gOf], fun _ => ki2 hK.l0 hK.l1 (.inl h3) (fun _ => he)⟩
 ·simp only [hc, if_false, show ¬ (3 : Int) = 0 by decide, show ¬ (3 : Int) = 1 by decide, show ¬ (3 : Int) = 2 by decide]
  exact ⟨rfl, hP.wr (kept_nil _) (by simp) (fun _ h => by omega), rfl, rfl, fun _ => by simp [gOf], fun _ => ki2 hK.l0 hK.l1 (.inl h3) (fun _ => he)⟩
theorem rel_deq {p : Nat} {ps : List Pt} {f : FrR} (hP : PI 2 ps) (hK : KI 2 p f) (h4 : f.o.k = 4) (hpc : f.pc = 0 ∨ f.pc = 1 ∨ f.pc = 2 ∨ (f.pc = 3 ∧ f.l1 ≠ []) ∨ f.pc = 4 ∨ f.pc = 5) :
    Rl 2 p (deqP p (memOf ps) f) (rDeq p ps (gOf 2 f)) := by
 have n3 : ∀ b : Bool, f.o.k = 3 → b = false := fun _ h => by omega
 unfold deqP rDeq lookP rLook
 have hsl : slotK p (gOf 2 f) = slotK p f := by simp [slotK, gOf]
 have hgp : (gOf 2 f).pc = f.pc := rfl
 have hgs : (gOf 2 f).seen = f.seen := rfl
 have hgo : (gOf 2 f).o.a = f.o.a := rfl
 have hv0 : (gOf 2 f).v0 = f.v0 := rfl
 have hv1 : (gOf 2 f).v1 = f.v1 := rfl
 have hsg : (gOf 2 f).seg = f.seg := rfl
 have hn1 : (gOf 2 f).n1 = f.n1 := rfl
 have hem : (gOf 2 f).em = f.em := rfl
 have hl1 : (gOf 2 f).l1 = f.l1 := rfl
 rw [hsl, hgp, hgs, hgo, hv0, hv1, hsg, hn1, hem, hl1]
 simp only [memOf_rd _ _ hP.ok, memOf_wb _ hP.ok, memOf_wr _ hP.ok]
 rcases hpc with hc | hc | hc | ⟨hc, hl⟩ | hc | hc
 ·simp only [hc, if_true]
  exact ⟨rfl, hP, rfl, rfl, fun _ => by simp [gOf, FrR.c0], fun _ => ki2 (hP.kp _) hK.l1 (.inr h4) (n3 _)⟩
 ·simp only [hc, if_true, if_false, show ¬ (1 : Int) = 0 by decide]
  exact ⟨rfl, hP, rfl, rfl, fun _ => by simp [gOf, begK, FrR.c1, hc], fun _ => ki2 hK.l0 (hP.kp _) (.inr h4) (n3 _)⟩
 ·simp only [hc, if_true, if_false, show ¬ (2 : Int) = 0 by decide, show ¬ (2 : Int) = 1 by decide]
  generalize hcc : rdP ps 0 (slotK p f) zC = c
  have hkc : kept 2 c.l := hcc ▸ hP.kp _
  by_cases hn : c.n = 1
  ·rw [if_pos hn, if_pos hn]
   exact ⟨rfl, hP, rfl, rfl, fun _ => by simp [gOf, FrR.c1], fun _ => ki2 hK.l0 hkc (.inr h4) (n3 _)⟩
  ·rw [if_neg hn, if_neg hn]
   by_cases hs : f.seen + 1 < p
   ·rw [if_pos hs, if_pos hs]
    exact ⟨rfl, hP, rfl, rfl, fun _ => by simp [gOf], fun _ => ki2 hK.l0 hK.l1 (.inr h4) (n3 _)⟩
   ·rw [if_neg hs, if_neg hs]
    cases hem : (f.em || c.n == 0) with
    | true =>
     rw [if_pos rfl]
     exact ⟨rfl, hP, rfl, rfl, fun h => by simp at h, fun h => by simp at h⟩
    | false =>
     simp only [if_false, Bool.false_eq_true]
     exact ⟨rfl, hP, rfl, rfl, fun _ => by simp [gOf], fun _ => ki2 hK.l0 hK.l1 (.inr h4) (n3 _)⟩
 ·simp only [hc, if_true, if_false, show ¬ (3 : Int) = 0 by decide, show ¬ (3 : Int) = 1 by decide, show ¬ (3 : Int) = 2 by decide]
  cases hw : wrQ ps (slotK p f) f.v1 with
  | true =>
   rw [if_pos rfl, if_pos rfl]
   exact ⟨rfl, hP.wr (kept_nil _) (by simp) (fun _ _ h => by omega), rfl, rfl, fun h => by simp at h, fun h => by simp at h⟩
  | false =>
   rw [if_neg (by simp), if_neg (by simp)]
   exact ⟨rfl, hP, rfl, rfl, fun _ => by simp [gOf], fun _ => ki2 hK.l0 hK.l1 (.inr h4) (n3 _)⟩
 ·simp only [hc, if_true, if_false, show ¬ (4 : Int) = 0 by decide, show ¬ (4 : Int) = 1 by decide, show ¬ (4 : Int) = 2 by decide, show ¬ (4 : Int) = 3 by decide]
  exact ⟨rfl, hP.wr (kept_nil _) (by simp) (fun _ h => by omega), rfl, rfl, fun _ => by simp [gOf], fun _ => ki2 hK.l0 hK.l1 (.inr h4) (n3 _)⟩
 ·simp only [hc, if_false, show ¬ (5 : Int) = 0 by decide, show ¬ (5 : Int) = 1 by decide, show ¬ (5 : Int) = 2 by decide, show ¬ (5 : Int) = 3 by decide, show ¬ (5 : Int) = 4 by decide]
  exact ⟨rfl, hP.wr (kept_nil _) (by simp) (fun _ h => by omega), rfl, rfl, fun _ => by simp [gOf], fun _ => ki2 hK.l0 hK.l1 (.inr h4) (n3 _)⟩
theorem rel_step {k : Int} {p s : Nat} {ps : List Pt} {f : FrR} (hl : legal k p = 0) (hM : MI k s (memOf ps)) (hF : FI k s f) (hP : PI k ps) (hK : KI k p f) : Rl k p (stepP k p (memOf ps) f) (rStep k p ps (gOf k f)) := by
 have hp : 1 ≤ p ∧ p ≤ 16 := by have := legal_p hl; omega
 unfold stepP rStep
 rcases hF.kd with ⟨rfl, h⟩ | ⟨rfl, h⟩ | ⟨rfl, h⟩ | ⟨rfl, h⟩
 ·rw [if_pos rfl, if_pos rfl]
  unfold multiP rMulti
  have hgk : (gOf 1 f).o.k = f.o.k := rfl
  rw [hgk]
  rcases h with h | h
  ·rw [if_pos h, if_pos h]; exact rel_ins hP hK hF.it h hF.l0.1
  ·rw [if_neg (by omega), if_neg (by omega)]; exact rel_del hP hK h (hF.del h) hF.l0.1 hF.l1.1
 ·rw [if_neg (by omega), if_pos rfl, if_neg (by omega), if_pos rfl]
  unfold kfifoP rKfifo
  have hgk : (gOf 2 f).o.k = f.o.k := rfl
  rw [hgk]
  rcases h with h | h
  ·rw [if_pos h, if_pos h]
   have := hM.num 1
   rw [memOf_rd _ _ hP.ok] at this
   exact rel_enq hp hP hK hF.it h this.1 (hF.enq h)
  ·rw [if_neg (by omega), if_neg (by omega)]; exact rel_deq hP hK h (hF.deq h)
 ·rw [if_neg (by omega), if_neg (by omega), if_pos rfl, if_neg (by omega), if_neg (by omega), if_pos rfl]
  exact rel_tally hP hK
 ·rw [if_neg (by omega), if_neg (by omega), if_neg (by omega), if_neg (by omega), if_neg (by omega), if_neg (by omega)]
  exact rel_net hP hK h
end Go.AM

namespace Go.AM
def eEv (k : Nat) (o : Rw) (a : An) (d : Bool) : D := .a [.i .i64 k, .i .i64 o.k, .f .f64 o.x.p, .i .i64 o.x.v, .i .i64 o.a, .i .i64 o.b, .b d, .b a.ok, .f .f64 a.x.p, .i .i64 a.x.v, .i .i64 a.n]
def pickL (l : List Nat) (pick : Int) : Option Nat := if l = [] then none else l[(into pick l.length).toNat]?
end Go.AM

namespace Go.AM
def zF : FrR := ⟨⟨0, ⟨0, 0⟩, 0, 0⟩, 0, 0, 0, 0, 0, false, 0, 0, 0, [], 0, []⟩
def eEr (KM KF : K) (k : Int) (p : Nat) (ps : List Pt) (fs : List D) (cl : Bool) : D := .a [.i .i64 k, .i .i64 p, .l KM 3 (ps.map ePt), .l KF 17 fs, .b cl]
instance : Flat eFr := ⟨fun _ => rfl, fun g => by simp [eFr, eFrK], fun n g => by simp [eFr, eFrK]⟩
def busyR : List FrR → Nat → List Nat
 | [], _ => []
 | g :: r, i => if g.o.k = 0 then busyR r (i + 1) else i :: busyR r (i + 1)
def begR (k : Int) (cl : Bool) (gs : List FrR) (t : Int) (g : FrR) : Int := if t < 0 ∨ 6 ≤ t then 4 else if cl then 12 else if checkO k g.o.k g.o.x.v ≠ 0 then checkO k g.o.k g.o.x.v else if ((gs[t.toNat]?).getD zF).o.k ≠ 0 then 11 else 0
end Go.AM

namespace Go.AM
theorem c_law06_IsAnswer (a b : An) (sg) : LL.call n_c_law06_IsAnswer [eAn a, eAr b] sg sg.length = some (.i .i64 (if a = b then 0 else -1), sg, sg.length) := by
 generalize hr : (if a = b then (0 : Int) else -1) = r
 have I := c_law04_Is a.x b.x sg
 refine wp_call e_c_law06_IsAnswer rfl ?_
 obtain ⟨ok, x, n⟩ := a
 obtain ⟨ok', x', n'⟩ := b
 simp only [An.mk.injEq] at hr I
 simp at I
 by_cases h1 : ok = ok'
 ·by_cases h2 : n = n'
  ·subst h1 h2
   simp at hr
   subst hr
   simp [F_c_law06_IsAnswer, eAn, eAr, I]
  ·have h2' : (n != n') = true := by simp [h2]
   simp [h2] at hr
   subst hr
   simp [F_c_law06_IsAnswer, eAn, eAr, h1, h2']
 ·simp [h1] at hr
  subst hr
  have h1' : (ok != ok') = true := by simp [h1]
  have h1'' : (ok == ok') = false := by simp [h1]
  simp [F_c_law06_IsAnswer, eAn, eAr, h1, h1', h1'']
theorem c_ref07_Sum (p : Nat) (hp : p ≤ 16) (ps : List Pt) (hn : ps.length ≤ 1000000) (hok : ∀ q ∈ ps, q.ok) (hg : (memOf ps).good) (sg) :
    LL.call n_c_ref07_Sum [eMr .z ps, .i .i64 p] sg sg.length = some (.i .i64 (sumM (memOf ps) 0 p), sg, sg.length) := by
 refine wp_call e_c_ref07_Sum rfl ?_
 simp [F_c_ref07_Sum, eMr]
 refine wc_up p (fun i => ⟨[(1, .v (.i .i64 p)), (2, .q (.ptr 2 0)), (5, .v (.i .i64 (sumM (memOf ps) 0 i))), (6, .v (.i .i64 i))], [(2, [.l .z 3 (ps.map ePt)])], sg, sg.length⟩) (fun _ => True) ?_ ?_ 0 (by omega) trivial
 ·intro i hi _ ih
  have ih := ih trivial
  have R := c_ref05_Read ps i hn sg
  have e : rdP ps 0 (i : Int) zC = rdM (memOf ps) (i : Int) := (memOf_rd ps i hok).symm
  have l1 := sumM_rng hg 0 i
  have l2 := (hg.rd (i : Int)).2.2.1
  rw [e] at R
  have w1 : IntKind.i64.wrap ((i : Int) + 1) = i + 1 := wrap64 (by omega)
  have w2 : IntKind.i64.wrap (sumM (memOf ps) 0 i + (rdM (memOf ps) i).n) = sumM (memOf ps) 0 i + (rdM (memOf ps) i).n := wrap64 (by omega)
  simp [sumM] at ih
  simp [hi, R, w1, w2]
  simpa using ih
 ·intro _
  simp
theorem c_ref11_Total (p : Nat) (hw : widthN p) (ps : List Pt) (hn : ps.length ≤ 1000000) (hok : ∀ q ∈ ps, q.ok) (hg : (memOf ps).good) (sg) :
    LL.call n_c_ref11_Total [eMr .z ps, eNetR .z .z p] sg sg.length = some (.i .i64 (sumM (memOf ps) (gatesN p).length p), sg, sg.length) := by
 have hol := outs_len p hw
 have hgl := gates_len p hw
 have hpl := pairs_lenN (gatesN p)
 have hp16 : 1 ≤ p ∧ p ≤ 16 := by unfold widthN at hw; omega
 refine wp_call e_c_ref11_Total rfl ?_
 have e0 : eNetR .z .z p = .a [.l .z 1 (((gatesN p).flatMap fun g => [g.1, g.2]).map eN), .l .z 1 ((outsN p).map eN)] := rfl
 rw [e0]
 generalize gatesN p = gs at *
 generalize outsN p = os at *
 generalize hpr : (gs.flatMap fun g => [g.1, g.2]) = prs at *
 have hd : (prs.length : Int).tdiv 2 = gs.length := by rw [Int.tdiv_eq_ediv_of_nonneg (by omega)]; omega
 have wq : IntKind.i64.wrap (gs.length : Int) = gs.length := wrap64 (by omega)
 simp [F_c_ref11_Total, eMr]
 subst hol
 refine wc_up os.length (fun i => ⟨[(2, .q (.ptr 2 0)), (3, .q (.ptr 3 0)), (5, .v (.i .i64 (sumM (memOf ps) gs.length i))), (11, .v (.i .i64 os.length)), (12, .v (.i .i64 i))], [(2, [.l .z 3 (ps.map ePt)]), (3, [.l .z 1 (prs.map eN), .l .z 1 (os.map eN)])], sg, sg.length⟩) (fun _ => True) ?_ ?_ 0 (by omega) trivial
 ·intro i hi _ ih
  have ih := ih trivial
  have R := c_ref05_Read ps ((gs.length + i : Nat) : Int) hn sg
  have e : rdP ps 0 ((gs.length + i : Nat) : Int) zC = rdM (memOf ps) ((gs.length + i : Nat) : Int) := (memOf_rd ps _ hok).symm
  have l1 := sumM_rng hg gs.length i
  have l2 := (hg.rd ((gs.length + i : Nat) : Int)).2.2.1
  rw [e] at R
  have w0 : IntKind.i64.wrap ((gs.length : Int) + i) = (gs.length : Int) + i := wrap64 (by omega)
  have w1 : IntKind.i64.wrap ((i : Int) + 1) = i + 1 := wrap64 (by omega)
  simp [sumM] at ih
  simp at R l2
  have w2 : IntKind.i64.wrap (sumM (memOf ps) gs.length i + (rdM (memOf ps) ((gs.length : Int) + i)).n) = sumM (memOf ps) gs.length i + (rdM (memOf ps) ((gs.length : Int) + i)).n := wrap64 (by omega)
  simp [hi, R, hd, wq, w0, w1, w2]
  simpa using ih
 ·intro _
  simp
def wAll (l : List It) (o : List It) : List It := l.foldl (fun o x => withI x o) o
theorem wAll_perm : ∀ (l o : List It), (wAll l o).Perm (l ++ o)
 | [], o => .refl _
 | x :: l, o => by
  have := wAll_perm l (withI x o)
  exact this.trans (((withI_perm x o).append_left l).trans (by simpa using List.perm_middle))
theorem wAll_ordered : ∀ (l o : List It), o.Pairwise leI → (wAll l o).Pairwise leI
 | [], o, h => h
 | x :: l, o, h => wAll_ordered l _ (withI_ordered x o h)
theorem wAll_sort (l : List It) (h : ∀ y ∈ l, y.ok ∧ y.canon = y) : wAll l [] = sortI (l.map It.canon) := by
 have hm := map_canon_id l (fun y hy => (h y hy).2)
 rw [hm]
 have hp : (wAll l []).Perm l := by simpa using wAll_perm l []
 exact ordered_unique (fun y hy => h y (hp.mem_iff.1 hy)) (wAll_ordered l [] .nil) ((ordered_pw _).1 (sortI_ordered _)) (hp.trans (sortI_perm _).symm)
theorem c_ref08_All (p : Nat) (hp : p ≤ 16) (ps : List Pt) (hn : ps.length ≤ 1000000) (hok : ∀ q ∈ ps, q.ok) (hg : (memOf ps).good) (sg) :
    LL.call n_c_ref08_All [eMr .z ps, .i .i64 p] sg sg.length = some (.l .o 2 ((wAll (bagM (memOf ps) p) []).map eR), sg, sg.length) := by
 refine wp_call e_c_ref08_All rfl ?_
 simp [F_c_ref08_All, eMr]
 refine wc_up p (fun i => ⟨[(1, .v (.i .i64 p)), (2, .q (.ptr 2 0)), (5, .v (.l .o 2 ((wAll (bagM (memOf ps) i) []).map eR))), (6, .v (.i .i64 i))], [(2, [.l .z 3 (ps.map ePt)])], sg, sg.length⟩) (fun _ => True) ?_ ?_ 0 (by omega) trivial
 ·intro i hi _ ih
  have ih := ih trivial
  have R := c_ref05_Read ps i hn sg
  have e : rdP ps 0 (i : Int) zC = rdM (memOf ps) (i : Int) := (memOf_rd ps i hok).symm
  have l1 := bagM_len hg i
  have l2 := hg.rd (i : Int)
  have l3 := bagM_ok hg i
  rw [e] at R
  have hb : bagM (memOf ps) (i + 1) = bagM (memOf ps) i ++ (rdM (memOf ps) (i : Int)).l := rfl
  have hfin : wAll (bagM (memOf ps) (i + 1)) [] = wAll (rdM (memOf ps) (i : Int)).l (wAll (bagM (memOf ps) i) []) := by rw [hb]; unfold wAll; rw [List.foldl_append]
  rw [hfin] at ih
  have hp0 := wAll_perm (bagM (memOf ps) i) []
  generalize hO : wAll (bagM (memOf ps) i) [] = O at *
  have hOok : ∀ y ∈ O, y.ok := fun y hy => l3 y (by simpa using hp0.mem_iff.1 hy)
  have hOl : O.length ≤ 62 * i := by have := hp0.length_eq; simp at this; omega
  generalize rdM (memOf ps) (i : Int) = c at *
  generalize hF : wAll c.l O = F at *
  have w1 : IntKind.i64.wrap ((i : Int) + 1) = i + 1 := wrap64 (by omega)
  have hi' : (i : Int) < p := by omega
  simp [hi, hi', R]
  refine wc_lst c.l (fun j (out : List It) => ⟨[(1, .v (.i .i64 p)), (2, .q (.ptr 2 0)), (5, .v (.l .o 2 (out.map eR))), (6, .v (.i .i64 i)), (24, .v (.l .z 2 (c.l.map eR))), (25, .v (.i .i64 c.l.length)), (26, .v (.i .i64 j))], [(2, [.l .z 3 (ps.map ePt)])], sg, sg.length⟩)
   (fun j rest out => wAll rest out = F ∧ (∀ y ∈ out, y.ok) ∧ (∀ y ∈ rest, y.ok) ∧ out.length ≤ 62 * i + j) O (by simp) ⟨hF, hOok, l2.2.1, by omega⟩ ?_ ?_
  ·rintro j x rest out hj hx ⟨h1, h2, h3, h4⟩ ih2
   have hxo := h3 x (by simp)
   have W := c_ref04_With x out hxo h2 (by omega) sg
   have w2 : IntKind.i64.wrap ((j : Int) + 1) = j + 1 := wrap64 (by omega)
   have ih2 := ih2 (withI x out) ⟨h1, fun y hy => by
    rcases List.mem_cons.1 ((withI_perm x out).mem_iff.1 hy) with rfl | hy
    ·exact hxo
    ·exact h2 y hy, fun y hy => h3 y (by simp [hy]), by have := (withI_perm x out).length_eq; simp at this; omega⟩
   simp at W ih2
   simp [hj, hx, W, w2]
   simpa using ih2
  ·rintro out ⟨h1, _, _, _⟩
   have h1 : out = F := h1
   subst h1
   simp at ih
   simp [w1]
   simpa using ih
 ·intro _
  simp
end Go.AM

namespace Go.AM
def eldR (ps : List Pt) : List Pt → Nat → List It
 | [], _ => []
 | q :: r, i => (if 1 < q.at_ ∧ (rdP ps 0 q.at_ zC).v = i + 1 ∧ (rdP ps 0 q.at_ zC).n = 1 then [(rdP ps 0 q.at_ zC).l.headD ⟨0, 0⟩] else []) ++ eldR ps r (i + 1)
theorem c_ref09_All (ps : List Pt) (hn : ps.length ≤ 1000000) (h1 : ∀ i, 2 ≤ i → (rdP ps 0 i zC).n = 1 → (rdP ps 0 i zC).l.length = 1) (sg) :
    LL.call n_c_ref09_All [eMr .z ps] sg sg.length = some (.l .o 2 ((eldR ps ps 0).map eR), sg, sg.length) := by
 generalize hT : eldR ps ps 0 = T
 refine wp_call e_c_ref09_All rfl ?_
 simp [F_c_ref09_All, eMr]
 refine wc_lst ps (fun i (out : List It) => ⟨[(1, .q (.ptr 1 0)), (3, .v (.l .o 2 (out.map eR))), (10, .v (.l .z 3 (ps.map ePt))), (11, .v (.i .i64 ps.length)), (12, .v (.i .i64 i))], [(1, [.l .z 3 (ps.map ePt)])], sg, sg.length⟩)
  (fun i rest out => out ++ eldR ps rest i = T ∧ out.length ≤ i) [] (by simp) ⟨hT, by simp⟩ ?_ ?_
 ·rintro i q rest out hi hx ⟨p1, p2⟩ ih
  have R := c_ref05_Read ps q.at_ hn sg
  have hone := h1 q.at_
  rw [eldR] at p1
  generalize rdP ps 0 q.at_ zC = c at *
  have w1 : IntKind.i64.wrap ((i : Int) + 1) = i + 1 := wrap64 (by omega)
  have hap : (out.length + 1) * 16 ≤ 140737488355328 := by omega
  by_cases c1 : 1 < q.at_
  ·by_cases c2 : c.v = i + 1
   ·by_cases c3 : c.n = 1
    ·have hl := hone (by omega) c3
     obtain ⟨x, hxl⟩ : ∃ x, c.l = [x] := by
      match h : c.l, hl with
      | [x], _ => exact ⟨x, rfl⟩
     rw [if_pos ⟨c1, c2, c3⟩, hxl] at p1
     have ih := ih (out ++ [x]) ⟨by simpa using p1, by simp; omega⟩
     simp at ih
     simp [hxl] at R
     simp [hi, hx, ePt, R, c1, c2, c3, w1, hap]
     simpa [ePt] using ih
    ·rw [if_neg (by simp [c3])] at p1
     have c3' : (c.n == 1) = false := by simp [c3]
     have ih := ih out ⟨by simpa using p1, by omega⟩
     simp at ih
     simp [hi, hx, ePt, R, c1, c2, c3', w1]
     simpa [ePt] using ih
   ·rw [if_neg (by simp [c2])] at p1
    have c2' : ((c.v : Int) == (i : Int) + 1) = false := by rw [beq_eq_false_iff_ne]; omega
    have ih := ih out ⟨by simpa using p1, by omega⟩
    simp at ih
    simp [hi, hx, ePt, R, c1, c2', w1]
    simpa [ePt] using ih
  ·rw [if_neg (by simp [c1])] at p1
   have ih := ih out ⟨by simpa using p1, by omega⟩
   simp at ih
   simp [hi, hx, ePt, R, c1, w1]
   simpa [ePt] using ih
 ·rintro out ⟨p1, p2⟩
  simp [eldR] at p1
  subst p1
  simp
end Go.AM

namespace Go.AM
def eldC (ps : List Pt) : List Pt → Nat → List Cl
 | [], _ => []
 | q :: r, i => (if 1 < q.at_ ∧ (rdP ps 0 q.at_ zC).v = i + 1 ∧ (rdP ps 0 q.at_ zC).n = 1 then [rdP ps 0 q.at_ zC] else []) ++ eldC ps r (i + 1)
theorem eldR_C (ps : List Pt) (h1 : ∀ i, 2 ≤ i → (rdP ps 0 i zC).n = 1 → (rdP ps 0 i zC).l.length = 1) : ∀ (l : List Pt) (i : Nat), eldR ps l i = (eldC ps l i).flatMap (·.l)
 | [], i => rfl
 | q :: r, i => by
  rw [eldR, eldC, eldR_C ps h1 r (i + 1), List.flatMap_append]
  congr 1
  split
  ·rename_i h
   have := h1 q.at_ (by omega) h.2.2
   generalize rdP ps 0 q.at_ zC = c at *
   match hc : c.l, this with
   | [x], _ => simp [hc]
  ·rfl
theorem eldC_mem (ps : List Pt) (c : Cl) : ∀ (l : List Pt) (i : Nat), c ∈ eldC ps l i ↔ ∃ (m : Nat) (q : Pt), l[m]? = some q ∧ 1 < q.at_ ∧ (rdP ps 0 q.at_ zC).v = i + m + 1 ∧ (rdP ps 0 q.at_ zC).n = 1 ∧ c = rdP ps 0 q.at_ zC
 | [], i => by simp [eldC]
 | q :: r, i => by
  rw [eldC, List.mem_append, eldC_mem ps c r (i + 1)]
  constructor
  ·rintro (h | ⟨m, q', a, b, d, e, f⟩)
   ·split at h
    ·rename_i hh
     simp at h
     exact ⟨0, q, rfl, hh.1, hh.2.1, hh.2.2, h⟩
    ·cases h
   ·exact ⟨m + 1, q', a, b, by omega, e, f⟩
  ·rintro ⟨m, q', a, b, d, e, f⟩
   cases m with
   | zero =>
    simp at a
    subst a
    left
    rw [if_pos ⟨b, by omega, e⟩]
    simp [f]
   | succ m => exact .inr ⟨m, q', a, b, by omega, e, f⟩
theorem eldC_v (ps : List Pt) : ∀ (l : List Pt) (i : Nat), (eldC ps l i).Pairwise (fun a b => a.v < b.v) ∧ ∀ c ∈ eldC ps l i, i < c.v
 | [], i => ⟨.nil, by simp [eldC]⟩
 | q :: r, i => by
  obtain ⟨h1, h2⟩ := eldC_v ps r (i + 1)
  rw [eldC]
  split
  ·rename_i hh
   refine ⟨List.pairwise_cons.2 ⟨fun b hb => ?_, h1⟩, fun c hc => ?_⟩
   ·have := h2 b hb; omega
   ·rcases List.mem_cons.1 hc with rfl | hc
    ·omega
    ·have := h2 c hc; omega
  ·exact ⟨h1, fun c hc => by have := h2 c hc; omega⟩
theorem rdP_which : ∀ (l : List Pt) (k : Nat) (i : Int) (c : Cl), rdP l k i c = c ∨ ∃ (m : Nat) (q : Pt), l[m]? = some q ∧ q.at_ = i ∧ (rdP l k i c).v = k + m + 1
 | [], k, i, c => .inl rfl
 | q :: r, k, i, c => by
  rw [rdP]
  rcases rdP_which r (k + 1) i (if q.at_ = i then ⟨k + 1, q.n, q.l⟩ else c) with h | ⟨m, q', a, b, d⟩
  ·rw [h]
   split
   ·rename_i e
    exact .inr ⟨0, q, rfl, e, rfl⟩
   ·exact .inl rfl
  ·exact .inr ⟨m + 1, q', a, b, by rw [d]; omega⟩
theorem line_eld (ps : List Pt) (hok : ∀ q ∈ ps, q.ok) (hg : (memOf ps).good) (h1 : ∀ i, 2 ≤ i → (rdP ps 0 i zC).n = 1 → (rdP ps 0 i zC).l.length = 1) : lineM (memOf ps) = eldR ps ps 0 := by
 rw [eldR_C ps h1]
 unfold lineM
 congr 1
 have hrd := fun i => memOf_rd ps i hok
 obtain ⟨e1, e2⟩ := eldC_v ps ps 0
 have hmem : ∀ c, c ∈ eldC ps ps 0 ↔ c ∈ fullM (memOf ps) := by
  intro c
  rw [eldC_mem]
  unfold fullM
  rw [List.mem_filter]
  constructor
  ·rintro ⟨m, q, a, b, d, e, f⟩
   subst f
   refine ⟨?_, by simpa using e⟩
   have hr := hrd q.at_
   unfold rdM at hr
   rw [if_pos (by omega)] at hr
   cases hc : (memOf ps).cs[q.at_.toNat]? with
   | none => rw [hc] at hr; simp at hr; rw [← hr] at e; simp [zC] at e
   | some c' =>
    rw [hc] at hr
    simp at hr
    rw [← hr]
    refine List.mem_of_getElem? (i := q.at_.toNat - 2) ?_
    rw [List.getElem?_drop, show 2 + (q.at_.toNat - 2) = q.at_.toNat by omega]
    exact hc
  ·rintro ⟨hc, hn⟩
   have hn : c.n = 1 := by simpa using hn
   obtain ⟨j, hj⟩ := List.mem_iff_getElem?.1 hc
   rw [List.getElem?_drop] at hj
   have hcs := List.mem_of_getElem? hj
   have hv := (hg.ver c hcs).2 (by omega)
   have hr := hrd ((2 + j : Nat) : Int)
   unfold rdM at hr
   rw [if_pos (by omega), show ((2 + j : Nat) : Int).toNat = 2 + j by omega, hj] at hr
   simp only [Option.getD_some] at hr
   rcases rdP_which ps 0 ((2 + j : Nat) : Int) zC with h | ⟨m, q, a, b, d⟩
   ·rw [← hr] at h; rw [h] at hn; simp [zC] at hn
   ·exact ⟨m, q, a, by omega, by rw [b]; exact d, by rw [b, ← hr]; exact hn, by rw [b]; exact hr⟩
 have nd1 : (eldC ps ps 0).Nodup := e1.imp (fun h he => by rw [he] at h; omega)
 have nd2 : (fullM (memOf ps)).Nodup := by
  have h := fullM_nodup hg
  rw [List.Nodup, List.pairwise_map] at h
  exact h.imp (fun h he => h (by rw [he]))
 have hperm : (eldC ps ps 0).Perm (fullM (memOf ps)) := (List.perm_ext_iff_of_nodup nd1 nd2).2 hmem
 have hsp := List.mergeSort_perm (fullM (memOf ps)) (fun a b => decide (a.v ≤ b.v))
 have hs1 : ((fullM (memOf ps)).mergeSort (fun a b => decide (a.v ≤ b.v))).Pairwise (fun a b => decide (a.v ≤ b.v) = true) :=
  List.pairwise_mergeSort (by intro a b c; simp; omega) (by intro a b; simp; omega) _
 refine List.Perm.eq_of_pairwise (le := fun a b : Cl => decide (a.v ≤ b.v) = true) (fun a b ha hb h1 h2 => ?_) hs1 (e1.imp (fun h => by simp; omega)) (hsp.trans hperm.symm)
 have hab : a.v = b.v := by simp at h1 h2; omega
 have ha' := (hmem a).2 (hsp.mem_iff.1 ha)
 have hlt : ∀ (l : List Cl), l.Pairwise (fun a b => a.v < b.v) → a ∈ l → b ∈ l → a = b := by
  intro l hl
  induction l with
  | nil => intro h; cases h
  | cons x t ih =>
   intro h1 h2
   obtain ⟨p1, p2⟩ := List.pairwise_cons.1 hl
   rcases List.mem_cons.1 h1 with h3 | h3
   ·rcases List.mem_cons.1 h2 with h4 | h4
    ·rw [h3, h4]
    ·have := p1 b h4; rw [← h3] at this; omega
   ·rcases List.mem_cons.1 h2 with h4 | h4
    ·have := p1 a h3; rw [← h4] at this; omega
    ·exact ih p2 h3 h4
 exact hlt _ e1 ha' hb
end Go.AM

namespace Go.AM
theorem bagM_kept {k : Int} {ps : List Pt} (hP : PI k ps) : ∀ p, ∀ y ∈ bagM (memOf ps) p, y.ok ∧ y.canon = y
 | 0, y, h => by simp [bagM] at h
 | p + 1, y, h => by
  rw [bagM, List.mem_append] at h
  rcases h with h | h
  ·exact bagM_kept hP p y h
  ·rw [memOf_rd _ _ hP.ok] at h
   exact (hP.kp _).1 y h
theorem c_ref12_Of (k : Int) (p : Nat) (hl : legal k p = 0) (ps : List Pt) (hn : ps.length ≤ 1000000) (hP : PI k ps) (hg : (memOf ps).good) (sg) :
    LL.call n_c_ref12_Of [.i .i64 k, .i .i64 p, eMr .z ps] sg sg.length = some (eVr .o (ofM k p (memOf ps)), sg, sg.length) := by
 have hp : 1 ≤ p ∧ p ≤ 16 := by have := legal_p hl; omega
 have hk := legal_k hl
 have hc : k = 1 ∨ k = 2 ∨ k = 3 ∨ k = 4 := by omega
 refine wp_call e_c_ref12_Of rfl ?_
 rcases hc with rfl | rfl | rfl | rfl
 ·have A := c_ref08_All p hp.2 ps hn hP.ok hg sg
  rw [wAll_sort _ (bagM_kept hP p)] at A
  simp [eMr] at A
  simp [F_c_ref12_Of, eMr, A, ofM, eVr]
 ·have A := c_ref09_All ps hn (hP.one rfl) sg
  rw [← line_eld ps hP.ok hg (hP.one rfl)] at A
  simp [eMr] at A
  simp [F_c_ref12_Of, eMr, A, ofM, eVr]
 ·have A := c_ref07_Sum p hp.2 ps hn hP.ok hg sg
  simp [eMr] at A
  simp [F_c_ref12_Of, eMr, A, ofM, eVr]
 ·have hw := legal_width hl
  have C := p_count p hw
  have A := c_ref11_Total p hw ps hn hP.ok hg sg
  simp [eMr, eNetR] at A C
  have hkw : kW p = .o ∨ kW p = .z := by unfold kW; split <;> simp
  rcases hkw with h | h
  all_goals
   rw [h] at C
   simp [F_c_ref12_Of, eMr, C, A, ofM, eVr]
end Go.AM

namespace Go.AM
theorem wf_i64 {n : Int} (h : (Lit.int .i64 n).wf = true) : -9223372036854775808 ≤ n ∧ n ≤ 9223372036854775807 := by
 simpa [Lit.wf, IntKind.min, IntKind.max, IntKind.signed, IntKind.bits] using h
theorem wf_u64 {n : Int} (h : (Lit.int .u64 n).wf = true) : 0 ≤ n ∧ n < 18446744073709551616 := by
 have : 0 ≤ n ∧ n ≤ 18446744073709551615 := by simpa [Lit.wf, IntKind.min, IntKind.max, IntKind.signed, IntKind.bits] using h
 omega
theorem fits_i {k : IntKind} {d : D} (h : Fits (.i k) [d]) : ∃ n, d = .i k n ∧ (Lit.int k n).wf = true := by
 cases h with | i k n h => exact ⟨n, rfl, h⟩
theorem fits_ints {k : IntKind} : ∀ xs : List D, (∀ x ∈ xs, Fits (.i k) x.cells) → (∀ x ∈ xs, ∃ c, x = c ∧ c.cells = [c]) → ∃ ns : List Int, xs = ns.map (.i k) ∧ ∀ n ∈ ns, (Lit.int k n).wf = true
 | [], _, _ => ⟨[], rfl, by simp⟩
 | x :: xs, h, hc => by
  obtain ⟨ns, e, hn⟩ := fits_ints xs (fun y hy => h y (by simp [hy])) (fun y hy => hc y (by simp [hy]))
  obtain ⟨c, rfl, h2⟩ := hc x (by simp)
  have := h x (by simp)
  rw [h2] at this
  obtain ⟨n, rfl, hw⟩ := fits_i this
  exact ⟨n :: ns, by simp [e], by simpa [hw] using hn⟩
abbrev tItem : Ty := .st [.i .u64, .i .i64]
abbrev tRaw : Ty := .st [.i .i64, .i .i64, .i .u64, .l 2 true tItem, .l 1 false (.i .i64), .i .i64]
theorem fitss_cons1 {f : Ty} {fs : List Ty} {cs : List D} (h : Fitss (f :: fs) cs) (hf : ∀ c, Fits f c → ∃ d, c = [d]) : ∃ d r, cs = d :: r ∧ Fits f [d] ∧ Fitss fs r := by
 cases h with
 | cons h k => obtain ⟨d, rfl⟩ := hf _ h; exact ⟨d, _, rfl, h, k⟩
theorem one_i (k : IntKind) (c : List D) (h : Fits (.i k) c) : ∃ d, c = [d] := by cases h; exact ⟨_, rfl⟩
theorem fitss_nil {cs : List D} (h : Fitss [] cs) : cs = [] := by cases h; rfl
theorem fits_item {cs : List D} (h : Fits tItem cs) : ∃ x : It, D.a cs = eR x ∧ x.ok := by
 cases h with
 | st h =>
  obtain ⟨d1, r, rfl, h1, h⟩ := fitss_cons1 h (one_i _)
  obtain ⟨d2, r, rfl, h2, h⟩ := fitss_cons1 h (one_i _)
  have := fitss_nil h; subst this
  obtain ⟨n1, rfl, w1⟩ := fits_i h1
  obtain ⟨n2, rfl, w2⟩ := fits_i h2
  have := wf_u64 w1
  have := wf_i64 w2
  refine ⟨⟨n1.toNat, n2⟩, ?_, ?_, ?_⟩
  ·have : ((n1.toNat : Nat) : Int) = n1 := by omega
   simp [this]
  ·simp; omega
  ·simpa using this
end Go.AM

namespace Go.AM
abbrev tRw : Ty := .st [.i .i64, tItem, .i .i64, .i .i64]
theorem fits_rw {cs : List D} (h : Fits tRw cs) : ∃ r : Rw, D.a cs = eRw r ∧ r.ok := by
 cases h with
 | st h =>
  cases h with
  | cons h1 h =>
   cases h with
   | cons h2 h =>
    cases h with
    | cons h3 h =>
     cases h with
     | cons h4 h =>
      cases h
      obtain ⟨x, ex, hx⟩ := fits_item h2
      cases h1 with
      | i _ n1 w1 =>
       cases h3 with
       | i _ n3 w3 =>
        cases h4 with
        | i _ n4 w4 =>
         cases ex
         exact ⟨⟨n1, x, n3, n4⟩, rfl, hx, wf_i64 w1, wf_i64 w3, wf_i64 w4⟩
theorem fits_rws : ∀ xs : List D, (∀ x ∈ xs, Fits tRw x.cells) → (∀ x ∈ xs, ∃ cs, x = .a cs) → ∃ ns : List Rw, xs = ns.map eRw ∧ ∀ n ∈ ns, n.ok
 | [], _, _ => ⟨[], rfl, by simp⟩
 | x :: xs, h, hc => by
  obtain ⟨ns, e, hn⟩ := fits_rws xs (fun y hy => h y (by simp [hy])) (fun y hy => hc y (by simp [hy]))
  obtain ⟨cs, rfl⟩ := hc x (by simp)
  obtain ⟨y, e2, hy⟩ := fits_rw (h _ (by simp : D.a cs ∈ D.a cs :: xs))
  exact ⟨y :: ns, by rw [e, List.map_cons, ← e2]; rfl, by simpa [hy] using hn⟩
end Go.AM

namespace Go.AM
theorem mt_multi : EE.meth t_multi_Multi "Step" = some n_multi_Multi_Step := by kernel_rfl
theorem mt_kfifo : EE.meth t_kfifo_Queue "Step" = some n_kfifo_Queue_Step := by kernel_rfl
theorem mt_tally : EE.meth t_tally_Tally "Step" = some n_tally_Tally_Step := by kernel_rfl
theorem mt_net : EE.meth t_net_Net "Step" = some n_net_Net_Step := by kernel_rfl
theorem delW_o (M : Mem) (f : FrR) (a v l) : (delW M f a v l).f.o = f.o := by unfold delW; split <;> rfl
theorem netP_o (p : Nat) (M : Mem) (f : FrR) : (netP p M f).f.o = f.o := by
 unfold netP
 simp only
 split <;> (dsimp only; split <;> rfl)
theorem stepP_o (k : Int) (p : Nat) (M : Mem) (f : FrR) : (stepP k p M f).f.o = f.o := by
 unfold stepP
 split
 ·unfold multiP insP delP
  repeat' split
  all_goals first | rfl | exact delW_o _ _ _ _ _
 ·split
  ·unfold kfifoP enqP deqP lookP
   repeat' split
   all_goals rfl
  ·split
   ·unfold tallyP
    repeat' split
    all_goals rfl
   ·exact netP_o p M f
def kOK (K : K) (f : FrR) : Prop := K = .o ∨ (K = .z ∧ f.o.k = 4)
theorem c_kfifo_Step (p : Nat) (hp : 1 ≤ p ∧ p ≤ 16) (M : Mem) (hM : M.good) (f : FrR) (hs : f.small) (KK : K) (hK : kOK KK f) (sg : List (List D)) (m fr : Nat) (hm : sg[m]? = some (eMem M)) (hf : sg[fr]? = some (eFrPK KK f)) (hne : m ≠ fr) (hseg : 0 ≤ f.seg ∧ f.seg ≤ 1000000)
    (hk : f.o.k = 3 ∨ f.o.k = 4) (henq : f.o.k = 3 → f.pc = 0 ∨ f.pc = 1 ∨ f.pc = 2 ∨ f.pc = 3) (hdeq : f.o.k = 4 → f.pc = 0 ∨ f.pc = 1 ∨ f.pc = 2 ∨ (f.pc = 3 ∧ f.l1 ≠ []) ∨ f.pc = 4 ∨ f.pc = 5) :
    ∃ K', (K' = .o ∨ (K' = .z ∧ f.o.k = 4)) ∧ LL.call n_kfifo_Queue_Step [.a [.i .i64 p], .p m 0, .p fr 0] sg sg.length =
     some (.t [eAn (kfifoP p M f).a, .b (kfifoP p M f).d], (sg.set m (eMem (kfifoP p M f).m)).set fr (eFrPK K' (kfifoP p M f).f), sg.length) := by
 unfold kfifoP
 by_cases h3 : f.o.k = 3
 ·rw [if_pos h3]
  have hKo : KK = .o := by rcases hK with h | ⟨_, h⟩; exact h; omega
  subst hKo
  refine ⟨.o, .inl rfl, ?_⟩
  have E := c_kfifo_enq p hp M hM f hs sg m fr hm hf hne hseg (henq h3)
  have hf' := hf
  simp [eFrPK, h3] at hf'
  have hl : (after sg m fr (enqP p M f)).length = sg.length := by simp [after]
  have he : (sg.set m (eMem (enqP p M f).m)).set fr (eFrPK .o (enqP p M f).f) = after sg m fr (enqP p M f) := rfl
  rw [he]
  refine wp_call e_kfifo_Queue_Step rfl ?_
  simp [eAn] at E
  simp [F_kfifo_Queue_Step, hf', E, eAn]
  exact List.take_of_length_le (by omega)
 ·rw [if_neg h3]
  have h4 : f.o.k = 4 := by omega
  have hKz : KK = .o ∨ KK = .z := by rcases hK with h | ⟨h, _⟩; exact .inl h; exact .inr h
  have E := c_kfifo_deq p hp M hM f hs KK hKz sg m fr hm hf hne hseg (hdeq h4)
  obtain ⟨K', hK'⟩ : ∃ K', K' = (if f.pc = 1 then K.o else if f.pc = 2 ∧ (rdM M (slotK p f)).n = 1 then K.z else KK) := ⟨_, rfl⟩
  rw [← hK'] at E
  refine ⟨K', ?_, ?_⟩
  ·rw [hK']
   split
   ·exact .inl rfl
   ·split
    ·exact .inr ⟨rfl, h4⟩
    ·rcases hKz with h | h
     ·exact .inl h
     ·exact .inr ⟨h, h4⟩
  have hf' := hf
  simp [eFrPK, h4] at hf'
  have hl : (afterK K' sg m fr (deqP p M f)).length = sg.length := by simp [afterK]
  have he : (sg.set m (eMem (deqP p M f).m)).set fr (eFrPK K' (deqP p M f).f) = afterK K' sg m fr (deqP p M f) := rfl
  rw [he]
  refine wp_call e_kfifo_Queue_Step rfl ?_
  simp [eAn] at E
  simp [F_kfifo_Queue_Step, hf', E, eAn]
  exact List.take_of_length_le (by omega)
theorem c_step (k : Int) (p s : Nat) (hl : legal k p = 0) (hs : s ≤ 5000) (M : Mem) (hM : MI k s M) (f : FrR) (hF : FI k s f) (KK : K) (hK : kOK KK f) (sg : List (List D)) (m fr : Nat) (hm : sg[m]? = some (eMem M)) (hf : sg[fr]? = some (eFrPK KK f)) (hne : m ≠ fr) :
    ∃ ty d fn K', eMach k p = .ic ty d ∧ EE.meth ty "Step" = some fn ∧ kOK K' (stepP k p M f).f ∧
     LL.call fn [d, .p m 0, .p fr 0] sg sg.length = some (.t [eAn (stepP k p M f).a, .b (stepP k p M f).d], (sg.set m (eMem (stepP k p M f).m)).set fr (eFrPK K' (stepP k p M f).f), sg.length) := by
 have hp : 1 ≤ p ∧ p ≤ 16 := by have := legal_p hl; omega
 have hsm := hF.small hs
 have ho := stepP_o k p M f
 unfold kOK
 rw [ho]
 unfold stepP
 rcases hF.kd with ⟨rfl, h⟩ | ⟨rfl, h⟩ | ⟨rfl, h⟩ | ⟨rfl, h⟩
 ·have hKo : KK = .o := by rcases hK with h' | ⟨_, h'⟩; exact h'; omega
  subst hKo
  rw [if_pos rfl]
  exact ⟨t_multi_Multi, _, n_multi_Multi_Step, .o, rfl, mt_multi, .inl rfl, c_multi_Step p hp M hM.good f hsm sg m fr hm hf hne (fun h1 => hF.del (by omega))⟩
 ·rw [if_neg (by omega), if_pos rfl]
  obtain ⟨K', h1, h2⟩ := c_kfifo_Step p hp M hM.good f hsm KK hK sg m fr hm hf hne (by have := hF.seg; omega) h hF.enq hF.deq
  exact ⟨t_kfifo_Queue, _, n_kfifo_Queue_Step, K', rfl, mt_kfifo, h1, h2⟩
 ·have hKo : KK = .o := by rcases hK with h' | ⟨_, h'⟩; exact h'; omega
  subst hKo
  rw [if_neg (by omega), if_neg (by omega), if_pos rfl]
  exact ⟨t_tally_Tally, _, n_tally_Tally_Step, .o, rfl, mt_tally, .inl rfl, c_tally_Step p hp M hM.good f hsm sg m fr hm hf hne (fun h1 => by omega)⟩
 ·have hKo : KK = .o := by rcases hK with h' | ⟨_, h'⟩; exact h'; omega
  subst hKo
  rw [if_neg (by omega), if_neg (by omega), if_neg (by omega)]
  exact ⟨t_net_Net, _, n_net_Net_Step, .o, rfl, mt_net, .inl rfl, c_net_Step p (legal_width hl) M hM.good f hsm sg m fr hm hf hne⟩
def busyO {α : Type} : List (Option α) → Nat → List Nat
 | [], _ => []
 | none :: r, i => busyO r (i + 1)
 | some _ :: r, i => i :: busyO r (i + 1)
structure Rep (sg : List (List D)) (r : Nat) (e : Eng) (M : Mem) (fs : List (Option FrR)) : Prop where
 hr : sg[r]? = some (eEng e)
 hm : sg[e.m]? = some (eMem M)
 h6 : e.th.length = 6
 f6 : fs.length = 6
 fr : ∀ (i q : Nat), e.th[i]? = some (some q) → ∃ f K, fs[i]? = some (some f) ∧ kOK K f ∧ sg[q]? = some (eFrPK K f)
 nn : ∀ i : Nat, e.th[i]? = some none → fs[i]? = some none
 rm : e.m ≠ r
 qr : ∀ (i q : Nat), e.th[i]? = some (some q) → q ≠ r ∧ q ≠ e.m
 qq : ∀ (i j q : Nat), e.th[i]? = some (some q) → e.th[j]? = some (some q) → i = j
def own (r : Nat) (e : Eng) (x : Nat) : Prop := x = r ∨ x = e.m ∨ ∃ i : Nat, e.th[i]? = some (some x)
theorem Rep.keep {sg sg' r e M fs} (h : Rep sg r e M fs) (hk : ∀ x, own r e x → sg'[x]? = sg[x]?) : Rep sg' r e M fs :=
 ⟨by rw [hk r (.inl rfl)]; exact h.hr, by rw [hk e.m (.inr (.inl rfl))]; exact h.hm, h.h6, h.f6, fun i q hq => by
  obtain ⟨f, K, a, b, c⟩ := h.fr i q hq
  exact ⟨f, K, a, b, by rw [hk q (.inr (.inr ⟨i, hq⟩))]; exact c⟩, h.nn, h.rm, h.qr, h.qq⟩
theorem Rep.lt {sg r e M fs} (h : Rep sg r e M fs) {x : Nat} (hx : own r e x) : x < sg.length := by
 rcases hx with rfl | rfl | ⟨i, hi⟩
 ·exact get_lt h.hr
 ·exact get_lt h.hm
 ·obtain ⟨f, K, a, b, c⟩ := h.fr i x hi
  exact get_lt c
theorem Rep.get {sg r e M fs} (h : Rep sg r e M fs) {k : Nat} {f : FrR} (hf : fs[k]? = some (some f)) : ∃ q K, e.th[k]? = some (some q) ∧ kOK K f ∧ sg[q]? = some (eFrPK K f) := by
 have hk : k < e.th.length := by rw [h.h6, ← h.f6]; exact (List.getElem?_eq_some_iff.1 hf).1
 cases ht : e.th[k] with
 | none =>
  have := h.nn k (by rw [List.getElem?_eq_getElem hk, ht])
  rw [this] at hf; cases hf
 | some q =>
  have hq : e.th[k]? = some (some q) := by rw [List.getElem?_eq_getElem hk, ht]
  obtain ⟨f', K, a, b, c⟩ := h.fr k q hq
  rw [a] at hf
  injection hf with hf; injection hf with hf; subst hf
  exact ⟨q, K, hq, b, c⟩
end Go.AM

namespace Go.AM
def begO (k : Int) (cl : Bool) (fs : List (Option FrR)) (t : Int) (o : Rw) : Int := if t < 0 ∨ 6 ≤ t then 4 else if cl then 12 else if checkO k o.k o.x.v ≠ 0 then checkO k o.k o.x.v else if (fs[t.toNat]?).join.isSome then 11 else 0
end Go.AM

namespace Go.AM
structure Act where
 k : Int
 t : Int
 p : Int
 o : Rw
def eAct (a : Act) : D := .a [.i .i64 a.k, .i .i64 a.t, .i .i64 a.p, .i .i64 a.o.k, .i .u64 a.o.x.p, .i .i64 a.o.x.v, .i .i64 a.o.a, .i .i64 a.o.b]
instance : Flat eAct := ⟨fun _ => rfl, fun _ => rfl, fun _ _ => rfl⟩
abbrev tAct : Ty := .st [.i .i64, .i .i64, .i .i64, tRw]
theorem fi_begin {k : Int} (hk : 1 ≤ k ∧ k ≤ 4) (s : Nat) {r : Rw} (hr : r.ok) : FI k s (begF (ownO k r)) := by
 have h1 := ownO_rng k hk r
 have h2 := ownO_ok hk hr
 have h3 := (nb_le k s).1
 have hc : k = 1 ∨ k = 2 ∨ k = 3 ∨ k = 4 := by omega
 refine ⟨h2.1.1, ?_, by simp [begF]; omega, by simp [begF]; omega, by simp [begF]; omega, by simp [begF]; omega, by simp [begF]; exact h3, by simp [begF]; exact h3, by simp [begF], by simp [begF], fun _ => .inl rfl, fun _ => .inl rfl, fun _ => .inl rfl, fun _ => .inl rfl⟩
 simp only [begF]
 rcases hc with rfl | rfl | rfl | rfl
 ·simp at h1; left; omega
 ·simp at h1; right; left; omega
 ·simp at h1; right; right; left
  refine ⟨rfl, ?_⟩
  by_cases h5 : (ownO 3 r).k = 5
  ·exact .inr ⟨h5, h2.2 h5⟩
  ·left; omega
 ·simp at h1; right; right; right; omega
end Go.AM

namespace Go.AM
def eBo (r : Nat) (K1 K2 : K) (k : Int) (p : Nat) (ps : List Pt) (gs : List FrR) (cl : Bool) : List D := [.p r 0, .i .i64 k, .i .i64 p, .l K1 3 (ps.map ePt), .l K2 17 (gs.map eFr), .b cl]
end Go.AM

namespace Go.AM
def gsOf (k : Int) (fs : List (Option FrR)) : List FrR := fs.map fun o => match o with | none => zF | some f => gOf k f
theorem newF_g (k : Int) (o : Rw) : newF o = gOf k (begF o) := by
 unfold newF gOf begF
 simp
theorem gi_of {k : Int} {p s : Nat} {f : FrR} (hF : FI k s f) (hs : s ≤ 5000) : GI k (gOf k f) := by
 have sm := hF.small hs
 refine ⟨{ sm with it := canon_okI hF.it, at_ := ?_ }, hF.kd, by have := hF.seg; simp only [gOf]; omega, fun h2 => ?_, hF.enq, hF.deq⟩
 ·have := sm.at_
  simp only [gOf]
  split <;> omega
 ·rcases hF.del h2 with h | h | ⟨h, h' | h'⟩
  ·exact .inl h
  ·exact .inr (.inl h)
  ·exact .inr (.inr ⟨h, .inl h'.2⟩)
  ·exact .inr (.inr ⟨h, .inr h'.2⟩)
end Go.AM

namespace Go.AM
structure Duo (k : Int) (p i q : Nat) (sg : List (List D)) (e : Eng) (M : Mem) (fs : List (Option FrR)) (ps : List Pt) (K1 K2 : K) : Prop where
 R : Rep sg 1 e M fs
 ek : e.k = k
 ep : e.p = p
 st : e.st ≤ i
 mi : MI k i M
 fi : ∀ (j : Nat) f, fs[j]? = some (some f) → FI k i f
 ki : ∀ (j : Nat) f, fs[j]? = some (some f) → KI k p f
 pi : PI k ps
 mm : M = memOf ps
 hq : sg[q]? = some (eBo 1 K1 K2 k p ps (gsOf k fs) e.cl)
 z1 : zo K1
 z2 : zo K2
 nq : ¬ own 1 e q
theorem Duo.pl {k p i q sg e M fs ps K1 K2} (h : Duo k p i q sg e M fs ps K1 K2) : ps.length ≤ i := by
 have := h.mi.ck
 rw [h.mm, memOf_ck] at this
 exact this
theorem setD {k : Int} {i : Nat} {P : FrR → Prop} {fs : List (Option FrR)} {n : Nat} {o : Option FrR} (h : ∀ (j : Nat) f, fs[j]? = some (some f) → P f) (ho : ∀ f, o = some f → P f) : ∀ (j : Nat) f, (fs.set n o)[j]? = some (some f) → P f := by
 intro j f hf
 rw [List.getElem?_set] at hf
 split at hf
 ·split at hf
  ·injection hf with hf; exact ho f hf
  ·cases hf
 ·exact h j f hf
theorem ki_begin (k : Int) {p : Nat} (hp : 1 ≤ p) (o : Rw) : KI k p (begF o) := by
 refine ⟨kept_nil k, kept_nil k, fun _ _ h => ?_, fun _ => ?_, fun _ => rfl⟩
 ·simp [begF] at h
 ·show (0 : Int) < p
  omega
end Go.AM

namespace Go.AM
theorem c_law12_Machine (k : Int) (p : Nat) (hl : legal k p = 0) (sg : List (List D)) :
    LL.call n_c_law12_Machine [.i .i64 k, .i .i64 p] sg sg.length = some (eMach k p, sg, sg.length) := by
 have hk := legal_k hl
 have hc : k = 1 ∨ k = 2 ∨ k = 3 ∨ k = 4 := by omega
 refine wp_call e_c_law12_Machine rfl ?_
 rcases hc with rfl | rfl | rfl | rfl
 ·have N := c_multi_New p sg
  rw [if_pos hl, hl] at N
  simp [F_c_law12_Machine, N, eMach]
 ·have N := c_kfifo_NewG p sg
  rw [if_pos hl, hl] at N
  simp [F_c_law12_Machine, N, eMach]
 ·have N := c_tally_New p sg
  rw [if_pos hl, hl] at N
  simp [F_c_law12_Machine, N, eMach]
 ·have N := p_net_New p (legal_width hl)
  simp [ePlan] at N
  simp [F_c_law12_Machine, N, eMach, ePlan]
theorem c_law12_Drive_1 (k : Int) (p s : Nat) (hl : legal k p = 0) (hs : s ≤ 5000) (ps : List Pt) (hn : ps.length ≤ 1000000) (g : FrR) (hG : GI k g)
    (hr : ∀ i, 0 ≤ (rdP ps 0 i zC).n ∧ (rdP ps 0 i zC).n ≤ nb k s ∧ (rdP ps 0 i zC).l.length ≤ 62) (sg : List (List D)) (kb pb : Nat) (h1 : sg[kb]? = some [.i .i64 k]) (h2 : sg[pb]? = some [.i .i64 p]) :
    LL.call n_c_law12_Drive_1 [eMr .z ps, eFr g, .p kb 0, .p pb 0] sg sg.length = some (eRSo (rStep k p ps g), sg, sg.length) := by
 have S := c_ref12_Step k p s hl hs ps hn g hG hr sg
 generalize rStep k p ps g = so at *
 have eg : eFr g = .a [.i .i64 g.o.k, .i .u64 g.o.x.p, .i .i64 g.o.x.v, .i .i64 g.o.a, .i .i64 g.o.b, .i .i64 g.pc, .i .i64 g.at_, .i .i64 g.seen, .i .i64 g.seg, .i .i64 g.tot, .b g.em, .i .i64 g.v0, .i .i64 g.v1, .i .i64 g.n0, .l .z 2 (g.l0.map eR), .i .i64 g.n1, .l .z 2 (g.l1.map eR)] := rfl
 have es : eFr so.f = .a [.i .i64 so.f.o.k, .i .u64 so.f.o.x.p, .i .i64 so.f.o.x.v, .i .i64 so.f.o.a, .i .i64 so.f.o.b, .i .i64 so.f.pc, .i .i64 so.f.at_, .i .i64 so.f.seen, .i .i64 so.f.seg, .i .i64 so.f.tot, .b so.f.em, .i .i64 so.f.v0, .i .i64 so.f.v1, .i .i64 so.f.n0, .l .z 2 (so.f.l0.map eR), .i .i64 so.f.n1, .l .z 2 (so.f.l1.map eR)] := rfl
 have z1 : D.zzs (g.l0.map eR) = g.l0.map eR := zzs_flat eR _
 have z2 : D.zzs (g.l1.map eR) = g.l1.map eR := zzs_flat eR _
 have z3 : D.zzs (ps.map ePt) = ps.map ePt := zzs_flat ePt _
 simp only [eRSo, es, eMr, eAr] at S ⊢
 rw [eg] at S ⊢
 refine wp_call e_c_law12_Drive_1 rfl ?_
 simp [F_c_law12_Drive_1, h1, h2, S, z1, z2, z3]
theorem ofM_okd {M : Mem} (hM : M.good) (k : Int) (p : Nat) (hp : p ≤ 16) : (∀ y ∈ (ofM k p M).is, y.ok) ∧ (ofM k p M).is.length ≤ 1000000 := by
 unfold ofM
 split
 ·refine ⟨fun y hy => ?_, ?_⟩
  ·simp only at hy
   have := (sortI_perm _).mem_iff.1 hy
   obtain ⟨z, hz, rfl⟩ := List.mem_map.1 this
   exact canon_okI (bagM_ok hM p z hz)
  ·have := bagM_len hM p
   simp only [sortI_len, List.length_map]; omega
 ·split
  ·have hp := List.mergeSort_perm (fullM M) (fun a b => decide (a.v ≤ b.v))
   have hmem : ∀ c ∈ (fullM M).mergeSort (fun a b => decide (a.v ≤ b.v)), c ∈ M.cs := fun c hc => List.mem_of_mem_drop (List.mem_filter.1 (hp.mem_iff.1 hc)).1
   refine ⟨fun y hy => ?_, ?_⟩
   ·simp only [lineM, List.mem_flatMap] at hy
    obtain ⟨c, hc, hyc⟩ := hy
    exact (hM.it c (hmem c hc)).2 y hyc
   ·have h1 := flat_len62 _ (fun c hc => (hM.it c (hmem c hc)).1)
    have h2 := hp.length_eq
    have h3 : (fullM M).length ≤ 1000 := by
     have h1 := List.length_filter_le (fun c : Cl => c.n == 1) (M.cs.drop 2)
     have h2 : (M.cs.drop 2).length ≤ 1000 := by have := hM.len; simp; omega
     unfold fullM; omega
    simp only [lineM]
    omega
  ·split <;> simp
theorem c_law12_ValueOf_1 (k : Int) (p : Nat) (hl : legal k p = 0) (ps : List Pt) (hn : ps.length ≤ 1000000) (hP : PI k ps) (hg : (memOf ps).good) (sg : List (List D)) (m sa sb : Nat) (hm : sg[m]? = some (eMem (memOf ps))) (h1 : sg[sa]? = some [.i .i64 k]) (h2 : sg[sb]? = some [.i .i64 p]) (st : Int) (d : Bool) :
    LL.call n_c_law12_ValueOf_1 [.a [.p m 0, .l .z 3 (ps.map ePt), .w, .i .i64 st], .b d, .p sa 0, .p sb 0] sg sg.length = some (.b true, sg, sg.length) := by
 have V := c_value_Of k p (memOf ps) hg sg m hm
 have ht : ((p : Int)).toNat = p := by omega
 rw [if_pos hl, hl, ht] at V
 have OF := c_ref12_Of k p hl ps hn hP hg sg
 have hp := legal_p hl
 have IS := c_law12_Is (ofM k p (memOf ps)) (ofM k p (memOf ps)) (by have := (ofM_okd hg k p (by omega)).2; omega) sg
 rw [if_pos rfl] at IS
 generalize ofM k p (memOf ps) = vv at *
 simp [eVl] at V IS
 simp [eMr] at OF
 simp [eVr] at OF IS
 have z3 : D.zzs (ps.map ePt) = ps.map ePt := zzs_flat ePt _
 refine wp_call e_c_law12_ValueOf_1 rfl ?_
 simp [F_c_law12_ValueOf_1, h1, h2, V, OF, IS, z3]
end Go.AM

namespace Go.AM
theorem wp_call_e2 {f : FuncId} {F : F} {ds : List D} {sg : List (List D)} {Q : D × List (List D) × Nat → Prop} (hF : EE.fn f = some F) (hn : ds.length = F.np)
    (h : @WC F.body ⟨ini 0 ds, [], sg, sg.length⟩ ⟨fun r => ∃ x, FnQ F.res sg.length x r ∧ Q x⟩ trivial) (hq : decide (f < Q0) = true := by exact rfl) : ∃ x, LL.call f ds sg sg.length = some x ∧ Q x := by
 obtain ⟨r, h1, x, h2, h3⟩ := h
 exact ⟨x, wp_call hF hn ⟨r, h1, h2⟩ hq, h3⟩
structure Cll where
 t : Nat
 o : Rw
 b : Int
 e : Int
 a : An
def eCll (c : Cll) : D := .a [.i .i64 c.t, .i .i64 c.o.k, .f .f64 c.o.x.p, .i .i64 c.o.x.v, .i .i64 c.o.a, .i .i64 c.o.b, .i .i64 c.b, .i .i64 c.e, .b c.a.ok, .f .f64 c.a.x.p, .i .i64 c.a.x.v, .i .i64 c.a.n]
instance : Flat eCll := ⟨fun _ => rfl, fun _ => rfl, fun _ _ => rfl⟩
def eOl (l : List Rw) : D := .l .z 5 (l.map eRw)
instance : Flat eOl := ⟨fun _ => rfl, fun g => by simp [eOl], fun n g => by simp [eOl]⟩
theorem mach_ic (k : Int) (p : Nat) : ∃ ty dm, eMach k p = .ic ty dm ∧ bmOK EE.meth "Step" (.ic ty dm) = true := by
 have q1 : decide (n_multi_Multi_Step < Q0) = true := by decide
 have q2 : decide (n_kfifo_Queue_Step < Q0) = true := by decide
 have q3 : decide (n_tally_Tally_Step < Q0) = true := by decide
 have q4 : decide (n_net_Net_Step < Q0) = true := by decide
 unfold eMach
 by_cases h1 : k = 1
 ·rw [if_pos h1]; exact ⟨_, _, rfl, by simp only [bmOK, mt_multi]; exact q1⟩
 ·rw [if_neg h1]
  by_cases h2 : k = 2
  ·rw [if_pos h2]; exact ⟨_, _, rfl, by simp only [bmOK, mt_kfifo]; exact q2⟩
  ·rw [if_neg h2]
   by_cases h3 : k = 3
   ·rw [if_pos h3]; exact ⟨_, _, rfl, by simp only [bmOK, mt_tally]; exact q3⟩
   ·rw [if_neg h3]; exact ⟨_, _, rfl, by simp only [bmOK, mt_net]; exact q4⟩
structure DS where
 sg : List (List D)
 ats : List Nat
 owns : List (Option Nat)
 tds : List D
 cix : List Nat
 cds : List Cll
 ps : List Pt
 st : Nat
 K : K
structure Drv (k : Int) (p i n m bx : Nat) (sg0 : List (List D)) (a : DS) (fs : List (Option FrR)) : Prop where
 mm : a.sg[m]? = some (eMem (memOf a.ps))
 old : ∀ x, x < bx → a.sg[x]? = sg0[x]?
 bm : bx ≤ m
 l1 : a.ats.length = n
 l2 : a.owns.length = n
 l3 : a.tds.length = n
 l4 : a.cix.length = n
 l5 : fs.length = n
 fr : ∀ (j q : Nat), a.owns[j]? = some (some q) → m < q ∧ ∃ f K c, fs[j]? = some (some f) ∧ kOK K f ∧ a.sg[q]? = some (eFrPK K f) ∧ a.tds[j]? = some (eFr (gOf k f)) ∧ a.cix[j]? = some c ∧ c < a.cds.length
 nn : ∀ j : Nat, a.owns[j]? = some none → fs[j]? = some none
 qq : ∀ (i j q : Nat), a.owns[i]? = some (some q) → a.owns[j]? = some (some q) → i = j
 mi : MI k i (memOf a.ps)
 fi : ∀ (j : Nat) f, fs[j]? = some (some f) → FI k i f
 ki : ∀ (j : Nat) f, fs[j]? = some (some f) → KI k p f
 pi : PI k a.ps
 cl : a.cds.length ≤ i
 st : a.st ≤ i
 at8 : ∀ (j x : Nat), a.ats[j]? = some x → x ≤ 8
 zK : zo a.K
 td : ∀ (j : Nat) d, a.tds[j]? = some d → ∃ l, d = .a l ∧ l.length = 17
theorem Drv.mono {k p i n m bx sg0 a fs} (h : Drv k p i n m bx sg0 a fs) : Drv k p (i + 1) n m bx sg0 a fs :=
 {h with mi := h.mi.mono, fi := fun j f hf => (h.fi j f hf).mono, cl := by have := h.cl; omega, st := by have := h.st; omega }
theorem td_set {L : List D} {j : Nat} {g : FrR} (h : ∀ (j : Nat) d, L[j]? = some d → ∃ l, d = .a l ∧ l.length = 17) : ∀ (i : Nat) d, (L.set j (eFr g))[i]? = some d → ∃ l, d = .a l ∧ l.length = 17 := by
 intro i d hz
 rw [List.getElem?_set] at hz
 split at hz
 ·split at hz
  ·injection hz with hz; subst hz; exact ⟨_, rfl, rfl⟩
  ·cases hz
 ·exact h i d hz
theorem Drv.pl {k p i n m bx sg0 a fs} (h : Drv k p i n m bx sg0 a fs) : a.ps.length ≤ i := by
 have := h.mi.ck
 rw [memOf_ck] at this
 exact this
theorem Drv.stepD {k : Int} {p i n m bx : Nat} {sg0 : List (List D)} {a : DS} {fs : List (Option FrR)} (hl : legal k p = 0) (hi : i ≤ 1000) (h : Drv k p i n m bx sg0 a fs) {j q : Nat} (hq : a.owns[j]? = some (some q)) :
    ∃ (ty : TypeId) (dm : D) (fn : FuncId) (K' : K) (f : FrR) (c : Nat) (so : So) (ro : RSo), eMach k p = .ic ty dm ∧ EE.meth ty "Step" = some fn ∧ a.tds[j]? = some (eFr (gOf k f)) ∧ a.cix[j]? = some c ∧ c < a.cds.length ∧ so.m = memOf ro.ps ∧ so.a = ro.a ∧ so.d = ro.d ∧
     LL.call fn [dm, .p m 0, .p q 0] a.sg a.sg.length = some (.t [eAn so.a, .b so.d], (a.sg.set m (eMem (memOf ro.ps))).set q (eFrPK K' so.f), a.sg.length) ∧
     (∀ sg1 : List (List D), (∀ kb pb : Nat, sg1[kb]? = some [.i .i64 k] → sg1[pb]? = some [.i .i64 p] → LL.call n_c_law12_Drive_1 [eMr .z a.ps, eFr (gOf k f), .p kb 0, .p pb 0] sg1 sg1.length = some (eRSo ro, sg1, sg1.length))) ∧
     ro.ps.length ≤ i + 1 ∧
     ∀ cds : List Cll, cds.length = a.cds.length → Drv k p (i + 1) n m bx sg0 ⟨(a.sg.set m (eMem (memOf ro.ps))).set q (eFrPK K' so.f), a.ats, a.owns.set j (if so.d then none else some q), a.tds.set j (eFr ro.f), a.cix, cds, ro.ps, a.st + 1, .z⟩ (fs.set j (if so.d then none else some so.f)) := by
 obtain ⟨hmq, f, K, c, h1, h2, h3, h4, h5, h6⟩ := h.fr j q hq
 have hF := h.fi j f h1
 have hS := si_step hl h.mi hF (by omega)
 have hG := gi_of (p := p) hF (by omega)
 have hpl := h.pl
 have rl := rel_step hl h.mi hF h.pi (h.ki j f h1)
 obtain ⟨ty, dm, fn, K', a1, a2, a3, a4⟩ := c_step k p i hl (by omega) (memOf a.ps) h.mi f hF K h2 a.sg m q h.mm h3 (by omega)
 have hR := fun i' => show 0 ≤ (rdP a.ps 0 i' zC).n ∧ (rdP a.ps 0 i' zC).n ≤ nb k i ∧ (rdP a.ps 0 i' zC).l.length ≤ 62 from by
  have h1 := h.mi.num i'
  have h2 := (h.mi.good.rd i').1
  rw [memOf_rd _ _ h.pi.ok] at h1 h2
  exact ⟨h1.1, h1.2, h2⟩
 have Rn := fun (sg1 : List (List D)) (kb pb : Nat) (e1 : sg1[kb]? = some [.i .i64 k]) (e2 : sg1[pb]? = some [.i .i64 p]) => c_law12_Drive_1 k p i hl (by omega) a.ps (by omega) (gOf k f) hG hR sg1 kb pb e1 e2
 have ho := stepP_o k p (memOf a.ps) f
 generalize hso : stepP k p (memOf a.ps) f = so at *
 generalize hro : rStep k p a.ps (gOf k f) = ro at *
 obtain ⟨r1, r2, r3, r4, r5, r6⟩ := rl
 rw [r1] at a4
 have hql := get_lt h3
 have hml := get_lt h.mm
 have hjl : j < n := by have := (List.getElem?_eq_some_iff.1 hq).1; have := h.l2; omega
 have hpl' : ro.ps.length ≤ i + 1 := by
  have := hS.m.ck
  rw [r1, memOf_ck] at this
  exact this
 refine ⟨ty, dm, fn, K', f, c, so, ro, a1, a2, h4, h5, h6, r1, r3, r4, a4, Rn, hpl', fun cds hcd => ?_⟩
 have hs : ∀ (j2 q2 : Nat), (a.owns.set j (if so.d then none else some q))[j2]? = some (some q2) → (j2 ≠ j ∧ a.owns[j2]? = some (some q2)) ∨ (j2 = j ∧ q2 = q ∧ so.d = false) := by
  intro j2 q2 hz
  rw [List.getElem?_set] at hz
  split at hz
  ·rename_i e
   split at hz
   ·injection hz with hz
    cases hd : so.d with
    | true => rw [hd] at hz; cases hz
    | false => rw [hd] at hz; injection hz with hz; exact .inr ⟨e.symm, hz.symm, rfl⟩
   ·cases hz
  ·rename_i e; exact .inl ⟨fun e' => e e'.symm, hz⟩
 refine ⟨?_, fun x hx => ?_, h.bm, h.l1, by simp [h.l2], by simp [h.l3], h.l4, by simp [h.l5], fun j2 q2 hz => ?_, fun j2 hz => ?_, fun i2 j2 q2 hz1 hz2 => ?_, ?_, ?_, ?_, r2, ?_, ?_, h.at8, .inl rfl, td_set h.td⟩
 ·show ((a.sg.set m _).set q _)[m]? = _
  rw [List.getElem?_set_ne (by omega), List.getElem?_set_self hml]
 ·show ((a.sg.set m _).set q _)[x]? = _
  have := h.bm
  rw [List.getElem?_set_ne (by omega), List.getElem?_set_ne (by omega)]; exact h.old x hx
 ·rcases hs j2 q2 hz with ⟨hne, hz⟩ | ⟨rfl, rfl, hd⟩
  ·obtain ⟨g0, f2, K2, c2, g1, g2, g3, g4, g5, g6⟩ := h.fr j2 q2 hz
   have hqq : q2 ≠ q := fun e => hne (h.qq j2 j q (by rw [← e]; exact hz) hq)
   refine ⟨g0, f2, K2, c2, by rw [List.getElem?_set_ne (Ne.symm hne)]; exact g1, g2, ?_, by show (a.tds.set j _)[j2]? = _; rw [List.getElem?_set_ne (Ne.symm hne)]; exact g4, g5, by rw [hcd]; exact g6⟩
   show ((a.sg.set m _).set q _)[q2]? = _
   rw [List.getElem?_set_ne (Ne.symm hqq), List.getElem?_set_ne (by omega)]; exact g3
  ·refine ⟨hmq, so.f, K', c, by rw [hd, List.getElem?_set_self (by rw [h.l5]; exact hjl)]; rfl, a3, ?_, ?_, h5, by rw [hcd]; exact h6⟩
   ·show ((a.sg.set m _).set q2 _)[q2]? = _
    rw [List.getElem?_set_self (by simpa using hql)]
   ·show (a.tds.set j2 _)[j2]? = _
    rw [List.getElem?_set_self (by rw [h.l3]; exact hjl), r5 hd]
 ·rw [List.getElem?_set] at hz ⊢
  split at hz
  ·rename_i e
   rw [if_pos e]
   split at hz
   ·injection hz with hz
    cases hd : so.d with
    | true => rw [if_pos (by rw [h.l5]; exact e ▸ hjl)]; rfl
    | false => rw [hd] at hz; cases hz
   ·cases hz
  ·rename_i e
   rw [if_neg e]
   exact h.nn j2 hz
 ·rcases hs i2 q2 hz1 with ⟨hne, hy1⟩ | ⟨hi, hqe, hd⟩ <;> rcases hs j2 q2 hz2 with ⟨hne2, hy2⟩ | ⟨hj, e2, hd2⟩
  ·exact h.qq i2 j2 q2 hy1 hy2
  ·exact absurd (h.qq i2 j _ hy1 (by rw [e2]; exact hq)) hne
  ·exact absurd (h.qq j2 j _ hy2 (by rw [hqe]; exact hq)) hne2
  ·omega
 ·show MI k (i + 1) (memOf ro.ps)
  rw [← r1]; exact hS.m
 ·refine setD (k := k) (i := i) (P := fun f => FI k (i + 1) f) (fun j f hf => (h.fi j f hf).mono) (fun g hg => ?_)
  split at hg
  ·cases hg
  ·rename_i hd
   injection hg with hg
   subst hg
   exact hS.f (by simpa using hd)
 ·refine setD (k := k) (i := i) (P := fun f => KI k p f) h.ki (fun g hg => ?_)
  split at hg
  ·cases hg
  ·rename_i hd
   injection hg with hg
   subst hg
   exact r6 (by simpa using hd)
 ·show cds.length ≤ i + 1
  rw [hcd]; have := h.cl; omega
 ·show a.st + 1 ≤ i + 1
  have := h.st; omega
theorem Drv.bgnD {k : Int} {p i n m bx : Nat} {sg0 : List (List D)} {a : DS} {fs : List (Option FrR)} (hk : 1 ≤ k ∧ k ≤ 4) (hp : 1 ≤ p) (h : Drv k p i n m bx sg0 a fs) {j x : Nat} (hq : a.owns[j]? = some none) (hx : a.ats[j]? = some x) (hx8 : x < 8) {r : Rw} (hr : r.ok) (c : Cll) :
    Drv k p (i + 1) n m bx sg0 ⟨a.sg ++ [eFrP (begF (ownO k r))], a.ats.set j (x + 1), a.owns.set j (some a.sg.length), a.tds.set j (eFr (gOf k (begF (ownO k r)))), a.cix.set j a.cds.length, a.cds ++ [c], a.ps, a.st, a.K⟩ (fs.set j (some (begF (ownO k r)))) := by
 have hml := get_lt h.mm
 have hjl : j < n := by have := (List.getElem?_eq_some_iff.1 hq).1; have := h.l2; omega
 have hs : ∀ (j2 q2 : Nat), (a.owns.set j (some a.sg.length))[j2]? = some (some q2) → (j2 ≠ j ∧ a.owns[j2]? = some (some q2)) ∨ (j2 = j ∧ q2 = a.sg.length) := by
  intro j2 q2 hz
  rw [List.getElem?_set] at hz
  split at hz
  ·rename_i e
   split at hz
   ·injection hz with hz; injection hz with hz; exact .inr ⟨e.symm, hz.symm⟩
   ·cases hz
  ·rename_i e; exact .inl ⟨fun e' => e e'.symm, hz⟩
 have hlt : ∀ (j2 q2 : Nat), a.owns[j2]? = some (some q2) → q2 < a.sg.length := fun j2 q2 hz => by
  obtain ⟨_, f2, K2, c2, g1, g2, g3, _⟩ := h.fr j2 q2 hz
  exact get_lt g3
 refine ⟨?_, fun x hx => ?_, h.bm, by simp [h.l1], by simp [h.l2], by simp [h.l3], by simp [h.l4], by simp [h.l5], fun j2 q2 hz => ?_, fun j2 hz => ?_, fun i2 j2 q2 hz1 hz2 => ?_, h.mi.mono, ?_, ?_, h.pi, ?_, ?_, fun j2 x2 hz => ?_, h.zK, td_set h.td⟩
 ·show (a.sg ++ _)[m]? = _
  rw [List.getElem?_append_left hml]; exact h.mm
 ·show (a.sg ++ _)[x]? = _
  have := h.bm
  rw [List.getElem?_append_left (by omega)]; exact h.old x hx
 ·rcases hs j2 q2 hz with ⟨hne, hz⟩ | ⟨rfl, rfl⟩
  ·obtain ⟨g0, f2, K2, c2, g1, g2, g3, g4, g5, g6⟩ := h.fr j2 q2 hz
   refine ⟨g0, f2, K2, c2, by rw [List.getElem?_set_ne (Ne.symm hne)]; exact g1, g2, ?_, by show (a.tds.set j _)[j2]? = _; rw [List.getElem?_set_ne (Ne.symm hne)]; exact g4, by show (a.cix.set j _)[j2]? = _; rw [List.getElem?_set_ne (Ne.symm hne)]; exact g5, by simp; omega⟩
   show (a.sg ++ _)[q2]? = _
   rw [List.getElem?_append_left (hlt j2 q2 hz)]; exact g3
  ·refine ⟨hml, begF (ownO k r), .o, a.cds.length, by rw [List.getElem?_set_self (by rw [h.l5]; exact hjl)], .inl rfl, ?_, ?_, ?_, by simp⟩
   ·show (a.sg ++ _)[a.sg.length]? = _
    rw [List.getElem?_append_right (Nat.le_refl _)]; simp; rfl
   ·show (a.tds.set j2 _)[j2]? = _
    rw [List.getElem?_set_self (by rw [h.l3]; exact hjl)]
   ·show (a.cix.set j2 _)[j2]? = _
    rw [List.getElem?_set_self (by rw [h.l4]; exact hjl)]
 ·rw [List.getElem?_set] at hz ⊢
  split at hz
  ·split at hz
   ·cases hz
   ·cases hz
  ·rename_i e
   rw [if_neg e]
   exact h.nn j2 hz
 ·rcases hs i2 q2 hz1 with ⟨hne, hy1⟩ | ⟨hi, hqe⟩ <;> rcases hs j2 q2 hz2 with ⟨hne2, hy2⟩ | ⟨hj, e2⟩
  ·exact h.qq i2 j2 q2 hy1 hy2
  ·have := hlt _ _ hy1; omega
  ·have := hlt _ _ hy2; omega
  ·omega
 ·exact setD (k := k) (i := i) (P := fun f => FI k (i + 1) f) (fun j f hf => (h.fi j f hf).mono) (fun f hf => by injection hf with hf; subst hf; exact fi_begin hk _ hr)
 ·exact setD (k := k) (i := i) (P := fun f => KI k p f) h.ki (fun f hf => by injection hf with hf; subst hf; exact ki_begin k hp _)
 ·have := h.cl; show (a.cds ++ [c]).length ≤ i + 1; simp; omega
 ·have := h.st; show a.st ≤ i + 1; omega
 ·have hz : (a.ats.set j (x + 1))[j2]? = some x2 := hz
  rw [List.getElem?_set] at hz
  split at hz
  ·split at hz
   ·injection hz with hz; omega
   ·cases hz
  ·exact h.at8 j2 x2 hz
theorem drv0 {k : Int} {p n bx : Nat} {sg0 : List (List D)} (hbx : bx ≤ sg0.length) : Drv k p 0 n sg0.length bx sg0 ⟨sg0 ++ [eMem ⟨[], 0⟩], List.replicate n 0, List.replicate n none, List.replicate n (eFrK .o .o zF), List.replicate n 0, [], [], 0, .o⟩ (List.replicate n none) := by
 have rn : ∀ {α : Type} (j : Nat) (q : α), (List.replicate n (none : Option α))[j]? ≠ some (some q) := by
  intro α j q h
  have := List.mem_of_getElem? h
  simp at this
 have z : ∀ i : Int, rdM ⟨[], 0⟩ i = zC := by intro i; simp [rdM]
 refine ⟨by simp; rfl, fun x hx => ?_, hbx, by simp, by simp, by simp, by simp, by simp, fun j q h => absurd h (rn j q), fun j h => ?_, fun i j q h => absurd h (rn i q), ⟨good_nil, Nat.zero_le _, fun i => ?_, fun _ i _ h => ?_⟩, fun j f h => absurd h (rn j f), fun j f h => absurd h (rn j f), ⟨by simp, fun i => kept_nil k, fun _ i _ h => by simp [rdP, zC] at h⟩, Nat.le_refl _, Nat.le_refl _, fun j x h => ?_, .inr rfl, fun j d h => ?_⟩
 ·show (sg0 ++ _)[x]? = _
  rw [List.getElem?_append_left (by omega)]
 ·have h : (List.replicate n (none : Option Nat))[j]? = some none := h
  rw [List.getElem?_replicate] at h ⊢
  split at h
  ·rw [if_pos ‹_›]
  ·cases h
 ·show 0 ≤ (rdM ⟨[], 0⟩ i).n ∧ (rdM ⟨[], 0⟩ i).n ≤ nb k 0
  rw [z]; simp [zC]; exact (nb_le k 0).1
 ·have h : (rdM ⟨[], 0⟩ i).n = 1 := h
  rw [z] at h; simp [zC] at h
 ·have := List.mem_of_getElem? h
  simp at this; omega
 ·have := List.mem_of_getElem? h
  simp at this
  exact ⟨_, this.2, rfl⟩
set_option maxRecDepth 20000 in
set_option maxHeartbeats 8000000 in
theorem c_law06_Drive (k : Int) (p : Nat) (hl : legal k p = 0) (ops : List (List Rw)) (hops : ∀ l ∈ ops, ∀ r ∈ l, r.ok) (picks : List Int) (see : FuncId) (caps : List D) (sg0 : List (List D)) (bx kb pb : Nat) (hbx : bx ≤ sg0.length) (hkb' : kb < bx) (hpb' : pb < bx) (hkb : sg0[kb]? = some [.i .i64 k]) (hpb : sg0[pb]? = some [.i .i64 p])
    (hsee : ∀ (sg : List (List D)) (ps : List Pt) (m : Nat) (st : Int) (d : Bool), (∀ x, x < bx → sg[x]? = sg0[x]?) → sg[m]? = some (eMem (memOf ps)) → PI k ps → (memOf ps).good → ps.length ≤ 1000 → LL.call see (.a [.p m 0, .l .z 3 (ps.map ePt), .w, .i .i64 st] :: .b d :: caps) sg sg.length = some (.b true, sg, sg.length)) :
    ∃ x, LL.call n_c_law06_Drive [.i .i64 k, eMach k p, .fn n_c_law12_Drive_1 [.p kb 0, .p pb 0], .l .z 1 (ops.map eOl), .l .z 1 (picks.map (.i .i64)), .fn see caps] sg0 sg0.length = some x ∧ ∃ m xs ys st sg', x = (.t [.a [.p m 0, .l .z 3 xs, .l .z 12 ys, .i .i64 st], .b true], sg', sg0.length) := by
 have hk := legal_k hl
 have hp := legal_p hl
 obtain ⟨ty, dm, hme, hbm⟩ := mach_ic k p
 have N := c_cell_New sg0
 have z3 : D.zzs (picks.map (.i .i64)) = picks.map (.i .i64) := zzs_flat (D.i .i64) _
 have z4 : D.zzs (ops.map eOl) = ops.map eOl := zzs_flat eOl _
 rw [hme]
 obtain ⟨n, hn⟩ : ∃ n, n = min ops.length 4 := ⟨_, rfl⟩
 have e1 : min (ops.length : Int) 4 = n := by omega
 have hn4 : n ≤ 4 := by omega
 have hnl : n ≤ ops.length := by omega
 have ie : (if (4 : Int) < ops.length then (4 : Int) else ops.length) = n := by split <;> omega
 have mn : min n ops.length = n := by omega
 have q1 : (n : Int) ≤ 9223372036854775807 := by omega
 have q2 : n * 8 ≤ 140737488355328 := by omega
 have q3 : n * 168 ≤ 140737488355328 := by omega
 have q0 : (n : Int) ≤ ops.length := by omega
 have qc : 0 ≤ (n : Int) := by omega
 obtain ⟨on, hon⟩ : ∃ on, on = ops.take n := ⟨_, rfl⟩
 have onl : on.length = n := by rw [hon]; simp; omega
 have onr : ∀ l ∈ on, ∀ r ∈ l, r.ok := fun l hl => hops l (by rw [hon] at hl; exact List.mem_of_mem_take hl)
 refine wp_call_e2 e_c_law06_Drive rfl ?_
 simp [F_c_law06_Drive, N, z3, z4, ie, mn, q0, q1, q2, q3, qc]
 rw [← List.map_take, ← hon]
 refine wc_lst (picks.take 200) (fun i (a : DS) => ⟨[(0, .v (.i .i64 k)), (1, .v (.ic ty dm)), (2, .v (.fn n_c_law12_Drive_1 [.p kb 0, .p pb 0])), (3, .v (.l .z 1 (on.map eOl))), (4, .v (.l .z 1 (picks.map (.i .i64)))), (5, .v (.fn see caps)), (12, .q (.ptr 12 0)), (14, .q (.ptr 14 0)), (15, .q (.hdr 15)), (16, .q (.hdr 16)), (17, .q (.hdr 17)), (18, .q (.hdr 18)), (19, .v (.i .i64 i))],
     [(12, [.nilp, .l .o 3 [], .l .o 12 [], .i .i64 0]), (14, [.p sg0.length 0, .l a.K 3 (a.ps.map ePt), .l .x 12 (a.cds.map eCll), .i .i64 a.st]), (15, [.l .x 1 (a.ats.map eN)]), (16, [.l .x 1 (a.owns.map eFp)]), (17, [.l .x 17 a.tds]), (18, [.l .x 1 (a.cix.map eN)])], a.sg, sg0.length⟩)
  (fun i rest a => ∃ fs, Drv k p (2 * i) n sg0.length bx sg0 a fs)
  ⟨sg0 ++ [eMem ⟨[], 0⟩], List.replicate n 0, List.replicate n none, List.replicate n (eFrK .o .o zF), List.replicate n 0, [], [], 0, .o⟩ (by simp [eN, eFp, eFrK, zF]) ⟨List.replicate n none, drv0 hbx⟩ ?_ ?_
 ·rintro i pk rest a hi hx ⟨fs, T⟩ ih
  have hi200 : i < 200 := by simp at hi; omega
  have hia : i < picks.length := by simp at hi; omega
  have hx' : picks[i] = pk := by rw [← hx]; simp
  have hii : (i : Int) < picks.length := by omega
  have hi20 : (i : Int) < 200 := by omega
  have w1 : IntKind.i64.wrap ((i : Int) + 1) = i + 1 := wrap64 (by omega)
  have I := c_ref06_Into pk n (by omega) a.sg
  have hml := get_lt T.mm
  have hmin : min sg0.length a.sg.length = sg0.length := by omega
  by_cases hn0 : n = 0
  ·have e0 : into pk n = 0 := by unfold into; rw [if_pos (by omega)]
   rw [e0, hn0] at I
   simp at I
   have ih := ih a ⟨fs, T.mono.mono⟩
   simp at ih
   simp [hii, hi20, hia, hx', onl, I, w1, hn0, hmin]
   simpa using ih
  ·have hin := into_rng pk n (by omega)
   obtain ⟨j, hj⟩ : ∃ j : Nat, into pk n = j := ⟨(into pk n).toNat, by omega⟩
   rw [hj] at I hin
   have hjn : j < n := by omega
   have hnj : ¬ ((n : Int) ≤ j) := by omega
   have j1 : j < a.ats.length := by rw [T.l1]; exact hjn
   have j2 : j < a.owns.length := by rw [T.l2]; exact hjn
   have j3 : j < a.tds.length := by rw [T.l3]; exact hjn
   have j4 : j < a.cix.length := by rw [T.l4]; exact hjn
   have j5 : j < on.length := by rw [onl]; exact hjn
   obtain ⟨ow, how⟩ : ∃ ow, a.owns[j] = ow := ⟨_, rfl⟩
   have how? : a.owns[j]? = some ow := by rw [List.getElem?_eq_getElem j2, how]
   cases ow with
   | none =>
    obtain ⟨x, hxx⟩ : ∃ x, a.ats[j] = x := ⟨_, rfl⟩
    have hx? : a.ats[j]? = some x := by rw [List.getElem?_eq_getElem j1, hxx]
    have hx8 := T.at8 j x hx?
    obtain ⟨l, hol⟩ : ∃ l, on[j] = l := ⟨_, rfl⟩
    have hol? : on[j]? = some l := by rw [List.getElem?_eq_getElem j5, hol]
    have hlm : l ∈ on := by rw [← hol]; exact List.getElem_mem j5
    obtain ⟨mm, hmm⟩ : ∃ mm, mm = min l.length 8 := ⟨_, rfl⟩
    have im : (if (8 : Int) < l.length then (8 : Int) else l.length) = mm := by split <;> omega
    by_cases hlt : x < mm
    ·have hx8' : x < 8 := by omega
     have hxl : x < l.length := by omega
     obtain ⟨r, hr⟩ : ∃ r, l[x] = r := ⟨_, rfl⟩
     have hr? : l[x]? = some r := by rw [List.getElem?_eq_getElem hxl, hr]
     have hrok : r.ok := onr l hlm r (by rw [← hr]; exact List.getElem_mem hxl)
     have hlt' : ¬ ((mm : Int) ≤ x) := by omega
     have T1 := T.bgnD hk (by omega) how? hx? hx8' hrok ⟨j, ownO k r, a.st, -1, noA⟩
     obtain ⟨o, ho⟩ : ∃ o, o = ownO k r := ⟨_, rfl⟩
     have O1 : callpv LL n_c_law06_Own [.i .i64 k, eRw r] = some (eOp (ownO k r)) := callpv_of (by simp [eRw]) (c_law06_Own k hk r [])
     have To : callpv LL n_c_law06_Told [.i .i64 k, eRw r] = some (eFrK .o .o (newF (ownO k r))) := callpv_of (by simp [eRw]) (c_law06_Told k hk r hrok [])
     rw [← ho] at T1 O1 To
     obtain ⟨s1, hs1⟩ : ∃ s1, s1 = a.sg ++ [eFrP (begF o)] := ⟨_, rfl⟩
     rw [← hs1] at T1
     have hl1 : s1.length = a.sg.length + 1 := by rw [hs1]; simp
     have hmin1 : min sg0.length (a.sg.length + 1) = sg0.length := by omega
     have hq1 : (a.owns.set j (some a.sg.length))[j]? = some (some a.sg.length) := by rw [List.getElem?_set_self j2]
     obtain ⟨ty', dm', fn, K', f, c, so, ro, b1, b2, b3, b4, b5, b6, b7, b8, B, Rn, hpl, T2⟩ := T1.stepD hl (by omega) hq1
     rw [hme] at b1
     injection b1 with b1 b1'
     subst b1 b1'
     have hc : c = a.cds.length := by
      have : (a.cix.set j a.cds.length)[j]? = some c := b4
      rw [List.getElem?_set_self j4] at this
      exact (Option.some.inj this).symm
     have b3x : eFr (gOf k (begF o)) = eFr (gOf k f) := by
      have : (a.tds.set j (eFr (gOf k (begF o))))[j]? = some (eFr (gOf k f)) := b3
      rw [List.getElem?_set_self j3] at this
      exact Option.some.inj this
     simp only at B Rn T2 hpl
     have hst := T.st
     obtain ⟨s2, hs2⟩ : ∃ s2, s2 = (s1.set sg0.length (eMem (memOf ro.ps))).set a.sg.length (eFrPK K' so.f) := ⟨_, rfl⟩
     rw [← hs2] at B T2
     have hl2 : s2.length = a.sg.length + 1 := by rw [hs2]; simp [hl1]
     have T2' := T2 (a.cds ++ [⟨j, o, a.st, -1, noA⟩]) rfl
     have R := Rn s2 kb pb (by rw [T2'.old kb hkb']; exact hkb) (by rw [T2'.old pb hpb']; exact hpb)
     have C := c_cell_Memory_Clock (memOf ro.ps) s2 sg0.length T2'.mm
     have Ia := c_law06_IsAnswer so.a ro.a s2
     rw [if_pos b7] at Ia
     have SE := hsee s2 ro.ps sg0.length (a.st + 1) so.d T2'.old T2'.mm T2'.pi T2'.mi.good (by omega)
     rw [memOf_ck] at C
     rw [hl2] at R C Ia SE
     rw [hl1] at B
     have ws : IntKind.i64.wrap ((a.st : Int) + 1) = a.st + 1 := wrap64 (by omega)
     have wn : IntKind.u64.wrap ((ro.ps.length : Nat) : Int) = ro.ps.length := wrapu64 (by omega)
     have wx : IntKind.i64.wrap ((x : Int) + 1) = ((x + 1 : Nat) : Int) := wrap64 (by omega)
     have hap : (a.cds.length + 1) * 96 ≤ 140737488355328 := by have := T.cl; omega
     have zK := T.zK
     have es : eFr ro.f = .a [.i .i64 ro.f.o.k, .i .u64 ro.f.o.x.p, .i .i64 ro.f.o.x.v, .i .i64 ro.f.o.a, .i .i64 ro.f.o.b, .i .i64 ro.f.pc, .i .i64 ro.f.at_, .i .i64 ro.f.seen, .i .i64 ro.f.seg, .i .i64 ro.f.tot, .b ro.f.em, .i .i64 ro.f.v0, .i .i64 ro.f.v1, .i .i64 ro.f.n0, .l .z 2 (ro.f.l0.map eR), .i .i64 ro.f.n1, .l .z 2 (ro.f.l1.map eR)] := rfl
     have en : eFr (newF o) = .a [.i .i64 o.k, .i .u64 o.x.canon.p, .i .i64 o.x.canon.v, .i .i64 o.a, .i .i64 o.b, .i .i64 0, .i .i64 0, .i .i64 0, .i .i64 0, .i .i64 0, .b false, .i .i64 0, .i .i64 0, .i .i64 0, .l .z 2 [], .i .i64 0, .l .z 2 []] := rfl
     rw [← b3x, ← newF_g] at R
     simp only [eRSo, es, eMr] at R
     rw [en] at R
     simp [eFrP, begF] at hs1
     simp [eRw, eOp, eFrK, newF] at O1 To
     simp [eAn, eAr] at B R Ia
     obtain ⟨tl, htl, htl2⟩ := T.td j _ (List.getElem?_eq_getElem j3)
     have htl3 : tl.drop 17 = [] := List.drop_eq_nil_of_le (by omega)
     have htl4 : 17 ≤ tl.length := by omega
     have hset : ∀ X Y : D, ((a.cds.map eCll) ++ [X]).set a.cds.length Y = a.cds.map eCll ++ [Y] := fun X Y => by rw [List.set_append_right _ _ (by simp)]; simp
     have hget : ∀ X : D, ((a.cds.map eCll) ++ [X])[a.cds.length]? = some X := fun X => by rw [List.getElem?_append_right (by simp)]; simp
     cases hd : so.d with
     | false =>
      have hd' : ro.d = false := by rw [← b8]; exact hd
      rw [hd] at SE B
      rw [hd'] at R
      have ih := ih _ ⟨_, T2'⟩
      simp [es, hd, eCll, noA] at ih
      simp [hii, hi20, hia, hx', onl, I, w1, hnj, j1, j2, j3, j4, j5, how, how?, hx?, hxx, hol, hol?, hr, hr?, hxl, hlt', eRw, eOl, im, eFp, eN, hmin, hmin1, hbm, b2, O1, To, ← hs1, B, R, C, Ia, SE, ws, wn, wx, hl1, hl2, hap, htl, htl2, htl3, htl4, ↓cp_zo zK, hd, hd']
      simpa [eN, eFp] using ih
     | true =>
      have hd' : ro.d = true := by rw [← b8]; exact hd
      rw [hd] at SE B
      rw [hd'] at R
      have ih := ih _ ⟨_, T2 (a.cds ++ [⟨j, o, a.st, a.st, so.a⟩]) (by simp)⟩
      simp [es, hd, eCll] at ih
      simp [hii, hi20, hia, hx', onl, I, w1, hnj, j1, j2, j3, j4, j5, how, how?, hx?, hxx, hol, hol?, hr, hr?, hxl, hlt', eRw, eOl, im, eFp, eN, hmin, hmin1, hbm, b2, O1, To, ← hs1, B, R, C, Ia, SE, ws, wn, wx, hl1, hl2, hap, hset, hget, htl, htl2, htl3, htl4, ↓cp_zo zK, hd, hd']
      simpa [eN, eFp] using ih
    ·have hge : (mm : Int) ≤ x := by omega
     have ih := ih a ⟨fs, T.mono.mono⟩
     simp at ih
     simp [hii, hi20, hia, hx', onl, I, w1, hnj, j1, j2, j5, how, how?, hx?, hxx, hol, hol?, eFp, eN, eOl, im, hge, hmin]
     simpa [eN, eOl] using ih
   | some q =>
    obtain ⟨ty', dm', fn, K', f, c, so, ro, b1, b2, b3, b4, b5, b6, b7, b8, B, Rn, hpl, T2⟩ := T.stepD hl (by omega) how?
    rw [hme] at b1
    injection b1 with b1 b1'
    subst b1 b1'
    obtain ⟨g, hg⟩ : ∃ g, g = gOf k f := ⟨_, rfl⟩
    rw [← hg] at b3 Rn
    have eg : eFr g = .a [.i .i64 g.o.k, .i .u64 g.o.x.p, .i .i64 g.o.x.v, .i .i64 g.o.a, .i .i64 g.o.b, .i .i64 g.pc, .i .i64 g.at_, .i .i64 g.seen, .i .i64 g.seg, .i .i64 g.tot, .b g.em, .i .i64 g.v0, .i .i64 g.v1, .i .i64 g.n0, .l .z 2 (g.l0.map eR), .i .i64 g.n1, .l .z 2 (g.l1.map eR)] := rfl
    have es : eFr ro.f = .a [.i .i64 ro.f.o.k, .i .u64 ro.f.o.x.p, .i .i64 ro.f.o.x.v, .i .i64 ro.f.o.a, .i .i64 ro.f.o.b, .i .i64 ro.f.pc, .i .i64 ro.f.at_, .i .i64 ro.f.seen, .i .i64 ro.f.seg, .i .i64 ro.f.tot, .b ro.f.em, .i .i64 ro.f.v0, .i .i64 ro.f.v1, .i .i64 ro.f.n0, .l .z 2 (ro.f.l0.map eR), .i .i64 ro.f.n1, .l .z 2 (ro.f.l1.map eR)] := rfl
    obtain ⟨s2, hs2⟩ : ∃ s2, s2 = (a.sg.set sg0.length (eMem (memOf ro.ps))).set q (eFrPK K' so.f) := ⟨_, rfl⟩
    rw [← hs2] at B T2
    have hl2 : s2.length = a.sg.length := by rw [hs2]; simp
    have T2' := T2 a.cds rfl
    have R := Rn s2 kb pb (by rw [T2'.old kb hkb']; exact hkb) (by rw [T2'.old pb hpb']; exact hpb)
    have C := c_cell_Memory_Clock (memOf ro.ps) s2 sg0.length T2'.mm
    have Ia := c_law06_IsAnswer so.a ro.a s2
    rw [if_pos b7] at Ia
    have SE := hsee s2 ro.ps sg0.length (a.st + 1) so.d T2'.old T2'.mm T2'.pi T2'.mi.good (by omega)
    rw [memOf_ck] at C
    rw [hl2] at R C Ia SE
    have hst := T.st
    have ws : IntKind.i64.wrap ((a.st : Int) + 1) = a.st + 1 := wrap64 (by omega)
    have wn : IntKind.u64.wrap ((ro.ps.length : Nat) : Int) = ro.ps.length := wrapu64 (by omega)
    have b3' : a.tds[j] = eFr g := by have := b3; rw [List.getElem?_eq_getElem j3] at this; exact Option.some.inj this
    have b4' : a.cix[j] = c := by have := b4; rw [List.getElem?_eq_getElem j4] at this; exact Option.some.inj this
    have eo : a.owns.set j (some q) = a.owns := set_same how?
    have zK := T.zK
    simp only [eRSo, es, eMr] at R
    rw [eg] at b3 b3' R
    simp [eAn, eAr] at B R Ia
    try simp at SE
    cases hd : so.d with
    | false =>
     have hd' : ro.d = false := by rw [← b8]; exact hd
     rw [hd] at SE B
     rw [hd'] at R
     have ih := ih _ ⟨_, T2'.mono⟩
     simp [eo, es, hd] at ih
     simp [hii, hi20, hia, hx', onl, I, w1, hnj, j1, j2, j3, j4, j5, how, how?, eFp, eN, hmin, hbm, b2, b3, b3', B, R, C, Ia, SE, ws, wn, hl2, ↓cp_zo zK, hd, hd']
     simpa [eN] using ih
    | true =>
     have hd' : ro.d = true := by rw [← b8]; exact hd
     rw [hd] at SE B
     rw [hd'] at R
     obtain ⟨cc, hcc⟩ : ∃ cc, a.cds[c] = cc := ⟨_, rfl⟩
     have hcc? : a.cds[c]? = some cc := by rw [List.getElem?_eq_getElem b5, hcc]
     have ih := ih _ ⟨_, (T2 (a.cds.set c { cc with e := a.st, a := so.a }) (by simp)).mono⟩
     simp [es, hd, eCll] at ih
     simp [hii, hi20, hia, hx', onl, I, w1, hnj, j1, j2, j3, j4, j5, how, how?, eFp, eN, hmin, hbm, b2, b3, b3', b4, b4', b5, hcc, hcc?, eCll, B, R, C, Ia, SE, ws, wn, hl2, ↓cp_zo zK, hd, hd']
     simpa [eN, eFp] using ih
 ·rintro a ⟨fs, T⟩
  obtain ⟨i1, hi1⟩ : ∃ i1, i1 = (picks.take 200).length := ⟨_, rfl⟩
  have hi200 : i1 ≤ 200 := by rw [hi1]; simp; omega
  rw [← hi1] at T
  have hpl := T.pl
  have RS := fun kk cs n' => c_law06_Run_Same a.ps T.pi.ok (by omega) kk cs n' a.sg sg0.length T.mm
  have hml := get_lt T.mm
  have hmin : min sg0.length a.sg.length = sg0.length := by omega
  have f1 : D.fzs (a.cds.map eCll) = a.cds.map eCll := fzs_flat eCll _
  have f2 : D.fzs (a.ps.map ePt) = a.ps.map ePt := fzs_flat ePt _
  have zK := T.zK
  by_cases h200 : picks.length ≤ 200
  ·have e1 : ((min 200 picks.length : Nat) : Int) = picks.length := by omega
   rcases zK with e | e <;> simp [e, e1, RS, f1, f2, hmin]
  ·have e1 : ((min 200 picks.length : Nat) : Int) = 200 := by omega
   have e2 : (200 : Int) < picks.length := by omega
   rcases zK with e | e <;> simp [e, e1, e2, RS, f1, f2, hmin]
end Go.AM

namespace Go.AM
def chkM (P : Program) (t : TypeId) (nm : String) (f : FuncId) : Bool := match P.info? t with
 | some i => match i.methods.find? (·.name == nm) with
  | some m => m.path.toList.isEmpty && (match m.func with
   | some (g, true) => (match P.underlying t with | some (.pointer _) => g == f && decide (f < Q0) | _ => false)
   | some (g, false) => (match P.underlying t with
    | some (.pointer e) => decide (Q0 ≤ f) && g == f - Q0 && aggT P e == some false && szT P e == some 1
    | some _ => g == f && decide (f < Q0)
    | none => false)
   | none => false)
  | none => false
 | none => false
theorem wrap_ok (ts : Array TypeId) (t : TypeId) (a : Addr) (s1 s2 : String) : Builtin.ssaWrapNilChk_ ts t #[.pointer (some a), strVal s1, strVal s2] = pure (.pointer (some a)) := rfl
theorem meth_one {P : Program} {t nm f} (h : chkM P t nm f = true) :
    (f < Q0 → ∀ v w, (method (P.types.size + Made.depth) t v nm).run P w = .ok (f, v) w) ∧
    (Q0 ≤ f → ∀ b off u w, World.cell? w ⟨b, off, none⟩ = some u → (method (P.types.size + Made.depth) t (.pointer (some ⟨b, off, none⟩)) nm).run P w = .ok (f - Q0, u) w) := by
 unfold chkM at h
 split at h
 ·rename_i i hi
  split at h
  ·rename_i m hm
   simp only [Bool.and_eq_true] at h
   obtain ⟨hp, h⟩ := h
   have hp' : m.path.toList = [] := List.isEmpty_iff.1 hp
   obtain ⟨n, hn⟩ : ∃ n, P.types.size + Made.depth = n + 1 := ⟨P.types.size + 99, rfl⟩
   rw [hn]
   split at h
   ·rename_i g hg
    split at h
    ·rename_i e hu
     simp only [Bool.and_eq_true, beq_iff_eq, decide_eq_true_eq] at h
     obtain ⟨rfl, hf⟩ := h
     refine ⟨fun _ v w => ?_, fun hq => absurd hf (Nat.not_lt.2 hq)⟩
     simp [method, typeInfo, hi, hm, hp', follow, hg, receiverAt, underlying, hu, Place.get]
    ·cases h
   ·rename_i g hg
    split at h
    ·rename_i e hu
     simp only [Bool.and_eq_true, beq_iff_eq, decide_eq_true_eq] at h
     obtain ⟨⟨⟨hf, hgf⟩, ha⟩, hs⟩ := h
     refine ⟨fun hq => absurd hq (Nat.not_lt.2 hf), fun _ b off u w hc => ?_⟩
     have hrun := run_load' (P := P) (w := w) (t := e) (b := b) (off := off) (us := [u]) ha hs (.inr rfl) rfl (fun j v hj => by
      cases j with
      | zero => simp at hj; subst hj; simpa using hc
      | succ j => simp at hj)
     simp only [Instr.loadAt, Instr.sureAddr] at hrun
     have hpe : m.path = #[] := by simpa using hp
     simp at hrun
     simp [method, typeInfo, hi, hm, hp', hpe, follow, hg, receiverAt, underlying, hu, Place.get, wrap_ok, asAddr, hrun, hgf]
    ·rename_i d hne hu
     simp only [Bool.and_eq_true, beq_iff_eq, decide_eq_true_eq] at h
     obtain ⟨rfl, hf⟩ := h
     refine ⟨fun _ v w => ?_, fun hq => absurd hf (Nat.not_lt.2 hq)⟩
     simp [method, typeInfo, hi, hm, hp', follow, hg, receiverAt, underlying, hu, Place.get]
    ·cases h
   ·cases h
  ·cases h
 ·cases h
theorem nil_one {P : Program} {t nm f} (h : chkM P t nm f = true) : NilOK P t nm f := by
 intro hf v w
 unfold chkM at h
 split at h
 ·rename_i i hi
  split at h
  ·rename_i m hm
   simp only [Bool.and_eq_true] at h
   obtain ⟨hp, h⟩ := h
   have hp' : m.path.toList = [] := List.isEmpty_iff.1 hp
   obtain ⟨n, hn⟩ : ∃ n, P.types.size + Made.depth = n + 1 := ⟨P.types.size + 99, rfl⟩
   rw [hn]
   split at h
   ·rename_i g hg
    simp [nilAhead, typeInfo, hi, hm, hp', followBlind, hg]
   ·rename_i g hg
    split at h
    ·rename_i e hu
     simp only [Bool.and_eq_true, beq_iff_eq, decide_eq_true_eq] at h
     exact absurd hf (Nat.not_lt.2 h.1.1.1)
    ·rename_i d hne hu
     simp [nilAhead, typeInfo, hi, hm, hp', followBlind, hg, underlying, hu]
     cases d <;> first | (exfalso; exact hne _ rfl) | rfl
    ·cases h
   ·cases h
  ·cases h
 ·cases h
theorem meth_all {P : Program} {T : List (TypeId × String × FuncId)} (h : T.all (fun p => chkM P p.1 p.2.1 p.2.2) = true) :
    MethOK P (fun t nm => (T.find? fun p => p.1 == t && p.2.1 == nm).map (·.2.2)) := by
 intro t nm f hf
 simp only [Option.map_eq_some_iff] at hf
 obtain ⟨⟨t', nm', f'⟩, h1, rfl⟩ := hf
 have h2 := List.find?_some h1
 simp only [Bool.and_eq_true, beq_iff_eq] at h2
 obtain ⟨rfl, rfl⟩ := h2
 have h3 := List.all_eq_true.1 h _ (List.mem_of_find?_eq_some h1)
 exact ⟨(meth_one h3).1, (meth_one h3).2, nil_one h3⟩
end Go.AM

namespace Go.AM
open Go.Proofs
set_option maxRecDepth 100000
theorem fol : Tryz.prog.follows .mixedOrders = true := by kernel_rfl
theorem tab_ok : tab.all (fun p => chkFn Tryz.prog EE.fbits EE.frb (rid p.1) p.2) = true := by kernel_rfl
theorem look_in {α : Type} {k : Nat} {x : α} : ∀ {l : List (Nat × α)}, look k l = some x → (k, x) ∈ l
 | (j, y) :: r, h => by
  simp only [look] at h
  split at h
  ·rename_i e; cases h; subst e; simp
  ·exact List.mem_cons_of_mem _ (look_in h)
theorem libF : LibF Tryz.prog EE := toldF fun f ds d h => by
 have h : libL f ds = some d := h
 unfold libL at h
 split at h
 ·rename_i e; exact .inl ⟨e, h⟩
 split at h
 ·rename_i e; exact .inr ⟨e, h⟩
 ·cases h
theorem env_ok : EnvOK Tryz.prog EE := ⟨fun f af h => List.all_eq_true.1 tab_ok (f, af) (look_in h), libF, srtF⟩
theorem meth_ok : methL.all (fun p => chkM Tryz.prog p.1 p.2.1 p.2.2) = true := by kernel_rfl
theorem lib_ok : Lib Tryz.prog EE.fbits EE.frb EE.meth where
 bits := fun f h n w => by cases h; rfl
 frb := fun f h n w => by cases h; rfl
 meth := meth_all meth_ok
end Go.AM

namespace Go.AM
open Go.Proofs
set_option maxRecDepth 100000 in
theorem c_law12_awake2 (a b : D) : LL.call n_c_law12_awake [] [[a], [b]] 2 = some (.b true, [[a], [b]], 2) := lim_call.2 ⟨60, by kernel_rfl⟩
theorem fits_opl {x : D} (h : Fits (.l 5 true tRw) x.cells) (hc : ∃ c, x = c ∧ c.cells = [c]) : ∃ l : List Rw, x = eOl l ∧ ∀ r ∈ l, r.ok := by
 obtain ⟨c, rfl, h2⟩ := hc
 rw [h2] at h
 cases h with
 | l sz agg e xs hl hx ha =>
 obtain ⟨ns, rfl, hn⟩ := fits_rws xs hx (by simpa using ha)
 exact ⟨ns, rfl, hn⟩
theorem fits_opls : ∀ xs : List D, (∀ x ∈ xs, Fits (.l 5 true tRw) x.cells) → (∀ x ∈ xs, ∃ c, x = c ∧ c.cells = [c]) → ∃ ns : List (List Rw), xs = ns.map eOl ∧ ∀ l ∈ ns, ∀ r ∈ l, r.ok
 | [], _, _ => ⟨[], rfl, by simp⟩
 | x :: xs, h, hc => by
  obtain ⟨ns, e, hn⟩ := fits_opls xs (fun y hy => h y (by simp [hy])) (fun y hy => hc y (by simp [hy]))
  obtain ⟨l, e1, hl⟩ := fits_opl (h x (by simp)) (hc x (by simp))
  exact ⟨l :: ns, by rw [e, e1]; rfl, by simpa using ⟨hl, hn⟩⟩
set_option maxHeartbeats 2000000 in
theorem c_law12_Drive (k : Int) (p : Nat) (hl : legal k p = 0) (ops : List (List Rw)) (hops : ∀ l ∈ ops, ∀ r ∈ l, r.ok) (picks : List Int) :
    ∃ x, LL.call n_c_law12_Drive [.i .i64 k, .i .i64 p, .l .z 1 (ops.map eOl), .l .z 1 (picks.map (.i .i64)), .fn n_c_law12_ValueOf_1 [.p 0 0, .p 1 0]] [[.i .i64 k], [.i .i64 p]] 2 = some x ∧ ∃ m xs ys st sg', x = (.t [.a [.p m 0, .l .z 3 xs, .l .z 12 ys, .i .i64 st], .b true], sg', 2) := by
 obtain ⟨sg, hsg⟩ : ∃ sg : List (List D), sg = [[.i .i64 k], [.i .i64 p], [.i .i64 k], [.i .i64 p]] := ⟨_, rfl⟩
 have M := c_law12_Machine k p hl sg
 obtain ⟨x, B, m, xs, ys, st, sg', hx⟩ := c_law06_Drive k p hl ops hops picks n_c_law12_ValueOf_1 [.p 0 0, .p 1 0] sg 4 2 3 (by rw [hsg]; simp) (by omega) (by omega) (by rw [hsg]; rfl) (by rw [hsg]; rfl)
  (fun sg1 ps m st d ho hm hP hg hn => c_law12_ValueOf_1 k p hl ps (by omega) hP hg sg1 m 0 1 hm (by rw [ho 0 (by omega), hsg]; rfl) (by rw [ho 1 (by omega), hsg]; rfl) st d)
 obtain ⟨ty, dm, hme, hbm⟩ := mach_ic k p
 have z3 : D.zzs (picks.map (.i .i64)) = picks.map (.i .i64) := zzs_flat (D.i .i64) _
 have z4 : D.zzs (ops.map eOl) = ops.map eOl := zzs_flat eOl _
 have hl4 : sg.length = 4 := by rw [hsg]; rfl
 subst hx
 rw [hme] at M B
 have hmn : min 2 sg.length = 2 := by omega
 have key := wp_call_e2 (ds := [.i .i64 k, .i .i64 p, .l .z 1 (ops.map eOl), .l .z 1 (picks.map (.i .i64)), .fn n_c_law12_ValueOf_1 [.p 0 0, .p 1 0]]) (sg := [[.i .i64 k], [.i .i64 p]])
  (Q := fun x => ∃ m xs ys st sg', x = (.t [.a [.p m 0, .l .z 3 xs, .l .z 12 ys, .i .i64 st], .b true], sg', 2)) e_c_law12_Drive rfl
 refine key ?_
 have g2 : sg[2]? = some [.i .i64 k] := by rw [hsg]; rfl
 have g3 : sg[3]? = some [.i .i64 p] := by rw [hsg]; rfl
 simp [F_c_law12_Drive, z3, z4, ← hsg, M, B, g2, g3, hmn]
 split <;> exact ⟨_, _, _, _, _, rfl⟩
set_option maxHeartbeats 2000000 in
theorem valueOf (kind param : Int) (ops : List (List Rw)) (hops : ∀ l ∈ ops, ∀ r ∈ l, r.ok) (picks : List Int) :
    LL.call n_c_law12_ValueOf [.i .i64 kind, .i .i64 param, .l .z 1 (ops.map eOl), .l .z 1 (picks.map (.i .i64))] [] 0 = some (.b true, [], 0) := by
 have hleg := legal_kind kind param
 have hkr := kindOf_le kind
 have hpr := paramOf_le kind param
 have K := c_law12_Kind kind param [[.i .i64 kind], [.i .i64 param]]
 have A := c_law12_awake2 (.i .i64 kind) (.i .i64 param)
 obtain ⟨k, hk⟩ : ∃ k, k = kindOf kind := ⟨_, rfl⟩
 obtain ⟨p, hp⟩ : ∃ p : Nat, paramOf kind param = p := ⟨(paramOf kind param).toNat, by omega⟩
 rw [← hk] at K hleg hkr
 rw [hp] at K hleg
 obtain ⟨x, B, m, xs, ys, st, sg', hx⟩ := c_law12_Drive k p hleg ops hops picks
 subst hx
 have z3 : D.zzs (picks.map (.i .i64)) = picks.map (.i .i64) := zzs_flat (D.i .i64) _
 have z4 : D.zzs (ops.map eOl) = ops.map eOl := zzs_flat eOl _
 simp at K
 refine wp_call e_c_law12_ValueOf rfl ?_
 simp [F_c_law12_ValueOf, A, K, z3, z4, B]
 done
def args_ValueOf : List (Bool × Ty) := [(false, .i .i64), (false, .i .i64), (false, .l 1 false (.l 5 true tRw)), (false, .l 1 false (.i .i64))]
theorem args_ValueOf_ok : tyA Tryz.prog [3, 3, 22, 23] = some args_ValueOf := by kernel_rfl
theorem law_ValueOf (ds : List D) (h : FitA args_ValueOf ds) : ∃ sg lo, (lim EE).call n_c_law12_ValueOf ds [] 0 = some (.b true, sg, lo) := by
 cases h with
 | c h1 k =>
 obtain ⟨n1, rfl, w1⟩ := fits_i h1
 cases k with
 | c h2 k =>
 obtain ⟨n2, rfl, w2⟩ := fits_i h2
 cases k with
 | c h3 k =>
 cases h3 with
 | l sz agg e xs hl hx ha =>
 obtain ⟨os, rfl, ho⟩ := fits_opls xs hx (by simpa using ha)
 cases k with
 | c h4 k =>
 cases h4 with
 | l sz agg e xs hl2 hx2 ha2 =>
 obtain ⟨ps, rfl, hp⟩ := fits_ints xs hx2 (by simpa using ha2)
 cases k
 exact ⟨[], 0, valueOf n1 n2 os ho ps⟩
end Go.AM
