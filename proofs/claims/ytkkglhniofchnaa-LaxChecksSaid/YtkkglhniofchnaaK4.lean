/- Lemmas: an abstract machine over the loaded program, proved sound against the model once; what the program's functions compute. -/
import Derived.Test.YtkkglhniofchnaaK2
import Derived.Test.YtkkglhniofchnaaK3
import Derived.Laws.BitsLemmas
import Derived.Test.YtkkglhniofchnaaK1
import Derived.Test.YtkkglhniofchnaaProg
set_option linter.all false
namespace Go.AM
noncomputable abbrev LL : Or := lim EE
class Kt (α : Type) where
 q : α → Prop
class K3 where
 q : R → St → Ac → Prop
class Pr where
 p : Prop
def WC (c : C) (s : St) [k : Kt Rs] (_ : True) : Prop := ∃ r, evC EE LL c s = some r ∧ k.q r
def WG (gs : List Gh) (s : St) [k : Kt St] (_ : True) : Prop := ∃ t, evGs gs s = some t ∧ k.q t
def WO (ops : List I) (s : St) [k : Kt St] (_ : True) : Prop := ∃ t, evOps EE LL ops s = some t ∧ k.q t
def WD (ops : List I) (acs : List Ac) (s : St) [k : Kt St] (_ : True) : Prop := ∃ t, evOpsD EE LL ops acs s = some t ∧ k.q t
def W1 (x : Option (R × St × Ac)) [k : K3] (_ : True) : Prop := ∃ r s ac, x = some (r, s, ac) ∧ k.q r s ac
def SqQ (b : C) [k : Kt Rs] (r : Rs) (_ : True) : Prop := match r with
 | .n s => @WC b s k trivial
 | .x i s => k.q (.x i s)
 | .r s => k.q (.r s)
def BkQ (n : Nat) [k : Kt Rs] (r : Rs) (_ : True) : Prop := match r with
 | .n s => k.q (.n s)
 | .x i s => if i = n then k.q (.n s) else k.q (.x i s)
 | .r s => k.q (.r s)
def CdQ (x : Option R) [A : Pr] [B : Pr] (_ : True) : Prop := match x with
 | some (.v (.b t)) => if t = true then A.p else B.p
 | _ => False
def GdQ (x : Option R) (b : Bool) [A : Pr] [B : Pr] (_ : True) : Prop := match x with
 | some (.v (.b t)) => if t = b then A.p else B.p
 | some (.v .u) => B.p
 | _ => False
def FnQ (res : List (Sum Nat (Nat × Bool × Nat))) (n : Nat) (x : D × List (List D) × Nat) (r : Rs) : Prop := fin ⟨0, res, .skip⟩ n (some r) = some x
theorem w1_some (r s ac Q) : @W1 (some (r, s, ac)) ⟨Q⟩ trivial ↔ Q r s ac := by
 unfold W1
 constructor
 ·rintro ⟨_, _, _, h, hq⟩; cases h; exact hq
 ·exact fun h => ⟨_, _, _, rfl, h⟩
theorem w1_none (Q) : @W1 none ⟨Q⟩ trivial ↔ False := by simp [W1]
theorem wc_skip (s Q) : @WC .skip s ⟨Q⟩ trivial ↔ Q (.n s) := by simp [WC, evC]
theorem wc_ret (s Q) : @WC .ret s ⟨Q⟩ trivial ↔ Q (.r s) := by simp [WC, evC]
theorem wc_exit (n s Q) : @WC (.exit n) s ⟨Q⟩ trivial ↔ Q (.x n s) := by simp [WC, evC]
theorem wc_seq (a b s Q) : @WC (.seq a b) s ⟨Q⟩ trivial ↔ @WC a s ⟨fun r => @SqQ b ⟨Q⟩ r trivial⟩ trivial := by
 unfold WC
 simp only [evC]
 constructor
 ·rintro ⟨r, h, hq⟩
  cases h1 : evC EE LL a s with
  | none => rw [h1] at h; simp [sq] at h
  | some r1 =>
   rw [h1] at h
   refine ⟨r1, rfl, ?_⟩
   cases r1 with
   | n s1 => exact ⟨r, h, hq⟩
   | x i s1 => simp [sq] at h; subst h; exact hq
   | r s1 => simp [sq] at h; subst h; exact hq
 ·rintro ⟨r1, h1, hq⟩
  rw [h1]
  cases r1 with
  | n s1 => exact hq
  | x i s1 => exact ⟨_, rfl, hq⟩
  | r s1 => exact ⟨_, rfl, hq⟩
theorem wc_blk (n a s Q) : @WC (.blk n a) s ⟨Q⟩ trivial ↔ @WC a s ⟨fun r => @BkQ n ⟨Q⟩ r trivial⟩ trivial := by
 unfold WC
 simp only [evC]
 constructor
 ·rintro ⟨r, h, hq⟩
  cases h1 : evC EE LL a s with
  | none => rw [h1] at h; simp [bk] at h
  | some r1 =>
   rw [h1] at h
   refine ⟨r1, rfl, ?_⟩
   cases r1 with
   | n s1 => simp [bk] at h; subst h; exact hq
   | r s1 => simp [bk] at h; subst h; exact hq
   | x i s1 =>
    simp only [bk] at h
    simp only [BkQ]
    split at h <;> rename_i e <;> cases h
    ·rw [if_pos e]; exact hq
    ·rw [if_neg e]; exact hq
 ·rintro ⟨r1, h1, hq⟩
  rw [h1]
  cases r1 with
  | n s1 => exact ⟨_, rfl, hq⟩
  | r s1 => exact ⟨_, rfl, hq⟩
  | x i s1 =>
   simp only [BkQ] at hq
   simp only [bk]
   split at hq <;> rename_i e
   ·exact ⟨_, by rw [if_pos e], hq⟩
   ·exact ⟨_, by rw [if_neg e], hq⟩
theorem wc_cond (x a b s Q) : @WC (.cond x a b) s ⟨Q⟩ trivial ↔ @CdQ (look x s.fr) ⟨@WC a s ⟨Q⟩ trivial⟩ ⟨@WC b s ⟨Q⟩ trivial⟩ trivial := by
 unfold WC
 simp only [evC]
 cases h : look x s.fr with
 | none => simp [CdQ]
 | some r =>
  cases r with
  | q q => simp [CdQ]
  | v d =>
   cases d <;> simp [CdQ]
   rename_i t; cases t <;> simp
theorem wc_reg (gs ops ls os s Q) : @WC (.reg gs ops false ls os) s ⟨Q⟩ trivial ↔ @WG gs s ⟨fun s => @WO ops s ⟨fun s => Q (.n { s with fr := forget (AM.Q.dead os) (keep ls s.fr), ob := keep os s.ob })⟩ trivial⟩ trivial := by
 unfold WC WG WO
 simp only [evC]
 cases h : evGs gs s with
 | none => simp
 | some t =>
  simp only [Bool.false_eq_true, if_false]
  cases h2 : evOps EE LL ops t with
  | none => simp [h2]
  | some t2 => simp [h2]
theorem wc_regd (gs ops ls os s Q) : @WC (.reg gs ops true ls os) s ⟨Q⟩ trivial ↔ @WG gs s ⟨fun s => @WD ops [] s ⟨fun s => Q (.n { s with fr := forget (AM.Q.dead os) (keep ls s.fr), ob := keep os s.ob })⟩ trivial⟩ trivial := by
 unfold WC WG WD
 simp only [evC]
 cases h : evGs gs s with
 | none => simp
 | some t =>
  simp only [if_true]
  cases h2 : evOpsD EE LL ops [] t with
  | none => simp [h2]
  | some t2 => simp [h2]
theorem wg_nil (s Q) : @WG [] s ⟨Q⟩ trivial ↔ Q s := by simp [WG, evGs]
theorem wg_cons (g gs s Q) : @WG (g :: gs) s ⟨Q⟩ trivial ↔ ∃ t, evG g s = some t ∧ @WG gs t ⟨Q⟩ trivial := by
 unfold WG
 simp only [evGs]
 cases h : evG g s with
 | none => simp
 | some t => simp
theorem wo_nil (s Q) : @WO [] s ⟨Q⟩ trivial ↔ Q s := by simp [WO, evOps]
theorem wo_cons (d op un fz r s Q) : @WO (⟨d, none, op, un, fz⟩ :: r) s ⟨Q⟩ trivial ↔ @W1 (evO LL EE.meth op s d) ⟨fun x t _ => @WO r (t.put d (fzR fz x)) ⟨Q⟩ trivial⟩ trivial := by
 cases h : evO LL EE.meth op s d with
 | none => rw [w1_none]; simp [WO, evOps, evI, wants, h]
 | some p =>
  obtain ⟨x, t, ac⟩ := p
  rw [w1_some]
  unfold WO
  simp only [evOps, evI, wants, h, Option.map_some]
theorem wo_guard (d k b op un fz r s Q) : @WO (⟨d, some (k, b), op, un, fz⟩ :: r) s ⟨Q⟩ trivial ↔ @GdQ (look k s.fr) b ⟨@W1 (evO LL EE.meth op s d) ⟨fun x t _ => @WO r (t.put d (fzR fz x)) ⟨Q⟩ trivial⟩ trivial⟩ ⟨@WO r (s.put d (.v .u)) ⟨Q⟩ trivial⟩ trivial := by
 have h0 : ∀ t : Bool, look k s.fr = some (.v (.b t)) → (@WO (⟨d, some (k, b), op, un, fz⟩ :: r) s ⟨Q⟩ trivial ↔ @WO (⟨d, none, op, un, fz⟩ :: r) s ⟨Q⟩ trivial ∧ t = b ∨ t ≠ b ∧ @WO r (s.put d (.v .u)) ⟨Q⟩ trivial) := by
  intro t ht
  unfold WO
  simp only [evOps, evI, wants, ht]
  cases t <;> cases b <;> simp
 cases hl : look k s.fr with
 | none => simp [WO, evOps, evI, wants, hl, GdQ]
 | some x =>
  cases x with
  | q q => simp [WO, evOps, evI, wants, hl, GdQ]
  | v v =>
   cases v <;> try (simp [WO, evOps, evI, wants, hl, GdQ]; done)
   rename_i t
   rw [h0 t hl, wo_cons]
   simp only [GdQ]
   cases t <;> cases b <;> simp
theorem wd_nil (acs s Q) : @WD [] acs s ⟨Q⟩ trivial ↔ Q s := by simp [WD, evOpsD]
theorem wd_cons (d op un fz r acs s Q) : @WD (⟨d, none, op, un, fz⟩ :: r) acs s ⟨Q⟩ trivial ↔ @W1 (evO LL EE.meth op s d) ⟨fun x t ac => okA un acs ac = true ∧ @WD r (acs ++ [ac]) (t.put d (fzR fz x)) ⟨Q⟩ trivial⟩ trivial := by
 cases h : evO LL EE.meth op s d with
 | none => rw [w1_none]; simp [WD, evOpsD, evI, wants, h]
 | some p =>
  obtain ⟨x, t, ac⟩ := p
  rw [w1_some]
  unfold WD
  simp only [evOpsD, evI, wants, h, Option.map_some]
  constructor
  ·rintro ⟨t', h1, h2⟩
   split at h1
   ·rename_i hk; exact ⟨hk, t', h1, h2⟩
   ·cases h1
  ·rintro ⟨hk, t2, h1, h2⟩
   exact ⟨t2, by rw [if_pos hk]; exact h1, h2⟩
theorem wd_guard (d k b op un fz r acs s Q) : @WD (⟨d, some (k, b), op, un, fz⟩ :: r) acs s ⟨Q⟩ trivial ↔ @GdQ (look k s.fr) b ⟨@W1 (evO LL EE.meth op s d) ⟨fun x t ac => okA un acs ac = true ∧ @WD r (acs ++ [ac]) (t.put d (fzR fz x)) ⟨Q⟩ trivial⟩ trivial⟩ ⟨okA un acs .no = true ∧ @WD r (acs ++ [.no]) (s.put d (.v .u)) ⟨Q⟩ trivial⟩ trivial := by
 have hu : @WD (⟨d, none, .mv (.c .u), un, 0⟩ :: r) acs s ⟨Q⟩ trivial ↔ (okA un acs .no = true ∧ @WD r (acs ++ [.no]) (s.put d (.v .u)) ⟨Q⟩ trivial) := by
  rw [wd_cons]
  simp only [evO, rx, Option.map_some, R.ac, w1_some, fzR]
 have h0 : ∀ t : Bool, look k s.fr = some (.v (.b t)) → (@WD (⟨d, some (k, b), op, un, fz⟩ :: r) acs s ⟨Q⟩ trivial ↔ @WD (⟨d, none, op, un, fz⟩ :: r) acs s ⟨Q⟩ trivial ∧ t = b ∨ t ≠ b ∧ @WD (⟨d, none, .mv (.c .u), un, 0⟩ :: r) acs s ⟨Q⟩ trivial) := by
  intro t ht
  unfold WD
  simp only [evOpsD, evI, wants, ht, evO, rx, Option.map_some, R.ac, fzR]
  cases t <;> cases b <;> simp
 cases hl : look k s.fr with
 | none => simp [WD, evOpsD, evI, wants, hl, GdQ]
 | some x =>
  cases x with
  | q q => simp [WD, evOpsD, evI, wants, hl, GdQ]
  | v v =>
   cases v <;> try (simp [WD, evOpsD, evI, wants, hl, GdQ]; done)
   ·rename_i t
    rw [h0 t hl, hu, wd_cons]
    simp only [GdQ]
    cases t <;> cases b <;> simp
   ·have : @WD (⟨d, some (k, b), op, un, fz⟩ :: r) acs s ⟨Q⟩ trivial ↔ @WD (⟨d, none, .mv (.c .u), un, 0⟩ :: r) acs s ⟨Q⟩ trivial := by
     unfold WD
     simp only [evOpsD, evI, wants, hl, evO, rx, Option.map_some, R.ac, fzR]
    rw [this, hu]
    simp [GdQ]
theorem gd_u (b A B) : @GdQ (some (.v .u)) b ⟨A⟩ ⟨B⟩ trivial ↔ B := Iff.rfl
theorem sq_n (b Q s) : @SqQ b ⟨Q⟩ (.n s) trivial ↔ @WC b s ⟨Q⟩ trivial := Iff.rfl
theorem sq_x (b Q i s) : @SqQ b ⟨Q⟩ (.x i s) trivial ↔ Q (.x i s) := Iff.rfl
theorem sq_r (b Q s) : @SqQ b ⟨Q⟩ (.r s) trivial ↔ Q (.r s) := Iff.rfl
theorem bk_n (n Q s) : @BkQ n ⟨Q⟩ (.n s) trivial ↔ Q (.n s) := Iff.rfl
theorem bk_x (n Q i s) : @BkQ n ⟨Q⟩ (.x i s) trivial ↔ if i = n then Q (.n s) else Q (.x i s) := Iff.rfl
theorem bk_r (n Q s) : @BkQ n ⟨Q⟩ (.r s) trivial ↔ Q (.r s) := Iff.rfl
theorem wp_call {f : FuncId} {F : F} {ds : List D} {sg : List (List D)} {x : D × List (List D) × Nat} (hF : EE.fn f = some F) (hn : ds.length = F.np)
    (h : @WC F.body ⟨ini 0 ds, [], sg, sg.length⟩ ⟨fun r => FnQ F.res sg.length x r⟩ trivial) (hq : decide (f < Q0) = true := by exact rfl) : LL.call f ds sg sg.length = some x := by
 obtain ⟨r, h1, h2⟩ := h
 refine call_of ?_
 unfold stepCall
 simp only [hF, if_pos hn]
 rw [iniF_lt (of_decide_eq_true hq)]
 simp only
 rw [h1]; exact h2
theorem wp_callq {f : FuncId} {F : F} {r off : Nat} {d0 : D} {cs ds : List D} {sg : List (List D)} {x : D × List (List D) × Nat} (hF : EE.fn f = some F) (hn : ds.length + 1 = F.np) (hcs : sg[r]? = some cs) (hd : cs[off]? = some d0)
    (h : @WC F.body ⟨(0, .q (.hd (.gb r off))) :: ini 1 ds, [], sg, sg.length⟩ ⟨fun r => FnQ F.res sg.length x r⟩ trivial) (hq : decide (f < Q0) = false := by exact rfl) : LL.call f (.p r off :: ds) sg sg.length = some x := by
 obtain ⟨r1, h1, h2⟩ := h
 refine call_of ?_
 unfold stepCall
 have hn' : (D.p r off :: ds).length = F.np := by simpa using hn
 simp only [hF, if_pos hn']
 rw [iniF_q (of_decide_eq_false hq) hcs hd]
 simp only
 rw [h1]; exact h2
theorem wc_loop {c s Q} (h : @WC c s ⟨fun r => @SqQ (.loop c) ⟨Q⟩ r trivial⟩ trivial) : @WC (.loop c) s ⟨Q⟩ trivial := by
 obtain ⟨r1, h1, h2⟩ := h
 cases r1 with
 | n s1 =>
  obtain ⟨r, h3, h4⟩ := h2
  refine ⟨r, ?_, h4⟩
  simp only [evC] at h3 ⊢
  refine loop_of ?_
  unfold stepLoop
  rw [h1]; exact h3
 | x i s1 =>
  refine ⟨.x i s1, ?_, h2⟩
  simp only [evC]
  refine loop_of ?_
  unfold stepLoop
  rw [h1]; rfl
 | r s1 =>
  refine ⟨.r s1, ?_, h2⟩
  simp only [evC]
  refine loop_of ?_
  unfold stepLoop
  rw [h1]; rfl
end Go.AM

namespace Go.AM
def O1 {α : Type} (o : Option α) [k : Kt α] (_ : True) : Prop := ∃ a, o = some a ∧ k.q a
theorem o1_some {α : Type} (a : α) (Q) : @O1 _ (some a) ⟨Q⟩ trivial ↔ Q a := by simp [O1]
theorem o1_none {α : Type} (Q : α → Prop) : @O1 _ none ⟨Q⟩ trivial ↔ False := by simp [O1]
theorem o1_map {α β : Type} (o : Option α) (f : α → β) (Q) : @O1 _ (o.map f) ⟨Q⟩ trivial ↔ @O1 _ o ⟨fun a => Q (f a)⟩ trivial := by cases o <;> simp [O1]
theorem o1_if_none {α : Type} (c : Prop) [Decidable c] (o : Option α) (Q) : @O1 _ (if c then none else o) ⟨Q⟩ trivial ↔ ¬ c ∧ @O1 _ o ⟨Q⟩ trivial := by by_cases h : c <;> simp [h, O1]
theorem o1_if {α : Type} (c : Prop) [Decidable c] (o : Option α) (Q) : @O1 _ (if c then o else none) ⟨Q⟩ trivial ↔ c ∧ @O1 _ o ⟨Q⟩ trivial := by by_cases h : c <;> simp [h, O1]
theorem o1_ite {α : Type} (c : Prop) [Decidable c] (a b : α) (Q) : @O1 _ (if c then some a else some b) ⟨Q⟩ trivial ↔ Q (if c then a else b) := by by_cases h : c <;> simp [h, O1]
section
variable (OO : Or) (m : TypeId → String → Option FuncId) (s : St) (d : Option Nat) (Q : R → St → Ac → Prop)
theorem w1_map {α : Type} (o : Option α) (f : α → R × St × Ac) : @W1 (o.map f) ⟨Q⟩ trivial ↔ @O1 _ o ⟨fun a => Q (f a).1 (f a).2.1 (f a).2.2⟩ trivial := by
 cases o with
 | none => simp [W1, O1]
 | some a => rw [Option.map_some, o1_some]; exact w1_some _ _ _ _
theorem w1_o1 (o : Option (R × St × Ac)) : @W1 o ⟨Q⟩ trivial ↔ @O1 _ o ⟨fun p => Q p.1 p.2.1 p.2.2⟩ trivial := by
 cases o with
 | none => simp [W1, O1]
 | some a => obtain ⟨x, t, ac⟩ := a; rw [w1_some, o1_some]
theorem w_mv (x : X) : @W1 (evO OO m (.mv x) s d) ⟨Q⟩ trivial ↔ @O1 _ (rx x s) ⟨fun p => Q p.1 p.2 p.1.ac⟩ trivial := by simp only [evO]; rw [w1_map]
theorem w_bin (op : BinOp) (x y : X) : @W1 (evO OO m (.bin op x y) s d) ⟨Q⟩ trivial ↔ @O1 _ (rxv x s) ⟨fun p => @O1 _ (rxv y p.2) ⟨fun q => @O1 _ (binv op p.1 q.1) ⟨fun r => Q (.v r) q.2 .no⟩ trivial⟩ trivial⟩ trivial := by
 simp only [evO]
 cases rxv x s with
 | none => simp [w1_none, o1_none]
 | some p =>
  obtain ⟨a, s1⟩ := p
  simp only [o1_some]
  cases rxv y s1 with
  | none => simp [w1_none, o1_none]
  | some q => obtain ⟨b, s2⟩ := q; simp only [o1_some]; rw [w1_map]
theorem w_eq (neg : Bool) (c : Ec) (x y : X) : @W1 (evO OO m (.eq neg c x y) s d) ⟨Q⟩ trivial ↔ @O1 _ (rxv x s) ⟨fun p => @O1 _ (rxv y p.2) ⟨fun q => @O1 _ (eq1 c p.1 q.1) ⟨fun t => Q (.v (.b (if neg then !t else t))) q.2 .no⟩ trivial⟩ trivial⟩ trivial := by
 simp only [evO]
 cases rxv x s with
 | none => simp [w1_none, o1_none]
 | some p =>
  obtain ⟨a, s1⟩ := p
  simp only [o1_some]
  cases rxv y s1 with
  | none => simp [w1_none, o1_none]
  | some q => obtain ⟨b, s2⟩ := q; simp only [o1_some]; rw [w1_map]
theorem w_un (op : UnOp) (x : X) : @W1 (evO OO m (.un op x) s d) ⟨Q⟩ trivial ↔ @O1 _ (rxv x s) ⟨fun p => @O1 _ (unv op p.1) ⟨fun r => Q (.v r) p.2 .no⟩ trivial⟩ trivial := by
 simp only [evO]
 cases rxv x s with
 | none => simp [w1_none, o1_none]
 | some p => obtain ⟨a, s1⟩ := p; simp only [o1_some]; rw [w1_map]
theorem w_cv (c : Cv) (x : X) : @W1 (evO OO m (.cv c x) s d) ⟨Q⟩ trivial ↔ @O1 _ (rxv x s) ⟨fun p => @O1 _ (cvv c p.1) ⟨fun r => Q (.v r) p.2 .no⟩ trivial⟩ trivial := by
 simp only [evO]
 cases rxv x s with
 | none => simp [w1_none, o1_none]
 | some p => obtain ⟨a, s1⟩ := p; simp only [o1_some]; rw [w1_map]
theorem w_ia (sz : Nat) (len : Option Nat) (x y : X) : @W1 (evO OO m (.ia sz len x y) s d) ⟨Q⟩ trivial ↔ @O1 _ (rx x s) ⟨fun p => @O1 _ (rxv y p.2) ⟨fun q => match q.1 with | .i _ n => @O1 _ (iav q.2 sz len p.1.fz n) ⟨fun r => Q r.1 q.2 r.2⟩ trivial | _ => False⟩ trivial⟩ trivial := by
 simp only [evO]
 cases rx x s with
 | none => simp [w1_none, o1_none]
 | some p =>
  obtain ⟨a, s1⟩ := p
  simp only [o1_some]
  cases h2 : rxv y s1 with
  | none => simp [w1_none, o1_none, h2]
  | some q =>
   obtain ⟨b, s2⟩ := q
   simp only [o1_some, h2]
   cases b <;> first | rw [w1_none] | skip
   simp only
   rw [w1_map]
theorem o1_iav_l (sz : Nat) (k : K) (sz' : Nat) (xs : List D) (n : Int) (Q : R × Ac → Prop) : @O1 _ (iav s sz none (.v (.l k sz' xs)) n) ⟨Q⟩ trivial ↔ 0 ≤ n ∧ (sz' = sz ∧ k ≠ .x) ∧ @O1 _ xs[n.toNat]? ⟨fun d => Q (.v (.q d.cells 0), .no)⟩ trivial := by
 unfold iav
 by_cases hn : n < 0
 ·simp [hn, o1_none]; omega
 ·rw [if_neg hn]
  simp only
  by_cases hc : sz' = sz ∧ k ≠ .x
  ·rw [if_pos hc]
   cases h : xs[n.toNat]? with
   | none => simp [o1_none]
   | some d => simp [o1_some, hc]; omega
  ·rw [if_neg hc]
   simp only [o1_none, hc, false_and, and_false]
theorem o1_iav_hd (sz : Nat) (pl : Pl) (n : Int) (sz' : Nat) (xs : List D) (h : s.at pl = some (.l .x sz' xs)) (Q : R × Ac → Prop) : @O1 _ (iav s sz none (.q (.hd pl)) n) ⟨Q⟩ trivial ↔ 0 ≤ n ∧ (sz' = sz ∧ n.toNat < xs.length) ∧ Q (.q (.el pl n.toNat 0), pl.rb) := by
 unfold iav
 by_cases hn : n < 0
 ·simp [hn, o1_none]; omega
 ·rw [if_neg hn]
  simp only [hpl, h]
  by_cases hc : sz' = sz ∧ n.toNat < xs.length
  ·rw [if_pos hc, o1_some, hd_ac]; simp [hc]; omega
  ·rw [if_neg hc, o1_none]; simp only [hc, false_and, and_false]
def AtQ (x : Option D) [k : Kt (Nat × List D)] (_ : True) : Prop := ∃ sz xs, x = some (.l .x sz xs) ∧ k.q (sz, xs)
theorem at_some (sz : Nat) (xs : List D) (Q) : @AtQ (some (.l .x sz xs)) ⟨Q⟩ trivial ↔ Q (sz, xs) := by
 constructor
 ·rintro ⟨_, _, h, hq⟩; cases h; exact hq
 ·exact fun h => ⟨_, _, rfl, h⟩
theorem o1_iav_hd' (sz : Nat) (pl : Pl) (n : Int) (Q : R × Ac → Prop) : @O1 _ (iav s sz none (.q (.hd pl)) n) ⟨Q⟩ trivial ↔ 0 ≤ n ∧ @AtQ (s.at pl) ⟨fun a => (a.1 = sz ∧ n.toNat < a.2.length) ∧ Q (.q (.el pl n.toNat 0), pl.rb)⟩ trivial := by
 constructor
 ·intro h
  unfold iav at h
  by_cases hn : n < 0
  ·simp [hn, o1_none] at h
  ·rw [if_neg hn] at h
   simp only [hpl] at h
   split at h
   ·rename_i sz' xs he
    have h' : @O1 _ (iav s sz none (.q (.hd pl)) n) ⟨Q⟩ trivial := by
     unfold iav; rw [if_neg hn]; simp only [hpl, he]; exact h
    rw [o1_iav_hd s sz pl n sz' xs he] at h'
    exact ⟨h'.1, sz', xs, he, h'.2⟩
   ·simp [o1_none] at h
 ·rintro ⟨h0, sz', xs, he, h⟩
  exact (o1_iav_hd s sz pl n sz' xs he Q).2 ⟨h0, h⟩
theorem o1_iav_hdr (sz : Nat) (k : Nat) (n : Int) (sz' : Nat) (xs : List D) (h : s.at (.ob k 0) = some (.l .x sz' xs)) (Q : R × Ac → Prop) : @O1 _ (iav s sz none (.q (.hdr k)) n) ⟨Q⟩ trivial ↔ 0 ≤ n ∧ (sz' = sz ∧ n.toNat < xs.length) ∧ Q (.q (.el (.ob k 0) n.toNat 0), .rb k) := by
 unfold iav
 by_cases hn : n < 0
 ·simp [hn, o1_none]; omega
 ·rw [if_neg hn]
  simp only [hpl, h]
  by_cases hc : sz' = sz ∧ n.toNat < xs.length
  ·rw [if_pos hc, o1_some]; simp [hc]; omega
  ·rw [if_neg hc, o1_none]; simp only [hc, false_and, and_false]
theorem o1_iav_hdr' (sz : Nat) (k : Nat) (n : Int) (Q : R × Ac → Prop) : @O1 _ (iav s sz none (.q (.hdr k)) n) ⟨Q⟩ trivial ↔ 0 ≤ n ∧ @AtQ (s.at (.ob k 0)) ⟨fun a => (a.1 = sz ∧ n.toNat < a.2.length) ∧ Q (.q (.el (.ob k 0) n.toNat 0), .rb k)⟩ trivial := by
 constructor
 ·intro h
  unfold iav at h
  by_cases hn : n < 0
  ·simp [hn, o1_none] at h
  ·rw [if_neg hn] at h
   simp only [hpl] at h
   split at h
   ·rename_i sz' xs he
    have h' : @O1 _ (iav s sz none (.q (.hdr k)) n) ⟨Q⟩ trivial := by
     unfold iav; rw [if_neg hn]; simp only [hpl, he]; exact h
    rw [o1_iav_hdr s sz k n sz' xs he] at h'
    exact ⟨h'.1, sz', xs, he, h'.2⟩
   ·simp [o1_none] at h
 ·rintro ⟨h0, sz', xs, he, h⟩
  exact (o1_iav_hdr s sz k n sz' xs he Q).2 ⟨h0, h⟩
theorem w_sl (sz : Nat) (x : X) (lo hi mx : Option X) : @W1 (evO OO m (.sl sz x lo hi mx) s d) ⟨Q⟩ trivial ↔ @O1 _ (rxv x s) ⟨fun p => @O1 _ (evO.rxo lo p.2) ⟨fun l => @O1 _ (evO.rxo hi l.2) ⟨fun h => @O1 _ (evO.rxo mx h.2) ⟨fun m => @O1 _ (slv sz p.1 l.1 h.1 m.1) ⟨fun r => Q (.v r) m.2 .no⟩ trivial⟩ trivial⟩ trivial⟩ trivial⟩ trivial := by
 simp only [evO]
 cases rxv x s with
 | none => simp [w1_none, o1_none]
 | some p =>
  obtain ⟨a, s1⟩ := p
  simp only [o1_some]
  cases evO.rxo lo s1 with
  | none => simp [w1_none, o1_none]
  | some q =>
   obtain ⟨l, s2⟩ := q
   simp only [o1_some]
   cases evO.rxo hi s2 with
   | none => simp [w1_none, o1_none]
   | some q =>
    obtain ⟨h, s3⟩ := q
    simp only [o1_some]
    cases evO.rxo mx s3 with
    | none => simp [w1_none, o1_none]
    | some q => obtain ⟨mm, s4⟩ := q; simp only [o1_some]; rw [w1_map]
theorem w_ss (x : X) (lo hi : Option X) : @W1 (evO OO m (.ss x lo hi) s d) ⟨Q⟩ trivial ↔ @O1 _ (rxv x s) ⟨fun p => @O1 _ (evO.rxo lo p.2) ⟨fun l => @O1 _ (evO.rxo hi l.2) ⟨fun h => @O1 _ (ssv p.1 l.1 h.1) ⟨fun r => Q (.v r) h.2 .no⟩ trivial⟩ trivial⟩ trivial⟩ trivial := by
 simp only [evO]
 cases rxv x s with
 | none => simp [w1_none, o1_none]
 | some p =>
  obtain ⟨a, s1⟩ := p
  simp only [o1_some]
  cases evO.rxo lo s1 with
  | none => simp [w1_none, o1_none]
  | some q =>
   obtain ⟨l, s2⟩ := q
   simp only [o1_some]
   cases evO.rxo hi s2 with
   | none => simp [w1_none, o1_none]
   | some q => obtain ⟨h, s3⟩ := q; simp only [o1_some]; rw [w1_map]
theorem rxo_none (s : St) : evO.rxo none s = some (none, s) := rfl
theorem rxo_some (x : X) (s : St) : evO.rxo (some x) s = (rxv x s).map fun p => (some p.1, p.2) := rfl
def BdQ (o : Option D) (dflt top : Nat) [k : Kt Nat] (_ : True) : Prop := @O1 _ (bnd o dflt top) k trivial
theorem bd_none (dflt top Q) : @BdQ none dflt top ⟨Q⟩ trivial ↔ Q dflt := by simp [BdQ, bnd, o1_some]
theorem bd_some (k n dflt top Q) : @BdQ (some (.i k n)) dflt top ⟨Q⟩ trivial ↔ (0 ≤ n ∧ n ≤ top) ∧ Q n.toNat := by simp only [BdQ, bnd, o1_if, o1_some]
theorem o1_ssv (v : ByteArray) (lo hi : Option D) (Q : D → Prop) : @O1 _ (ssv (.s v) lo hi) ⟨Q⟩ trivial ↔ @BdQ hi v.size v.size ⟨fun h => @BdQ lo 0 h ⟨fun l => Q (.s (v.extract l h))⟩ trivial⟩ trivial := by
 unfold ssv BdQ
 simp only
 cases bnd hi v.size v.size with
 | none => simp [o1_none]
 | some h =>
  simp only [o1_some]
  cases bnd lo 0 h with
  | none => simp [o1_none]
  | some l => simp [o1_some]
theorem o1_slv2 (sz : Nat) (k : K) (sz' : Nat) (xs : List D) (lo hi : Option D) (Q : D → Prop) : @O1 _ (slv sz (.l k sz' xs) lo hi none) ⟨Q⟩ trivial ↔ sz' = sz ∧ @BdQ hi xs.length xs.length ⟨fun h => @BdQ lo 0 h ⟨fun l => Q (.l (slk k hi.isNone lo.isNone) sz ((xs.take h).drop l))⟩ trivial⟩ trivial := by
 unfold slv BdQ
 simp only [o1_if]
 cases bnd hi xs.length xs.length with
 | none => simp [o1_none]
 | some h =>
  simp only [o1_some]
  cases bnd lo 0 h with
  | none => simp [o1_none]
  | some l => simp [o1_some]
theorem o1_slv3 (sz : Nat) (k : K) (sz' : Nat) (xs : List D) (lo : Option D) (h m : D) (Q : D → Prop) : @O1 _ (slv sz (.l k sz' xs) lo (some h) (some m)) ⟨Q⟩ trivial ↔ sz' = sz ∧ @BdQ (some m) 0 xs.length ⟨fun m => @BdQ (some h) 0 m ⟨fun h => h = m ∧ @BdQ lo 0 h ⟨fun l => k ≠ .x ∧ Q (.l .n sz ((xs.take h).drop l))⟩ trivial⟩ trivial⟩ trivial := by
 unfold slv BdQ
 simp only [o1_if]
 cases bnd (some m) 0 xs.length with
 | none => simp [o1_none]
 | some m =>
  simp only [o1_some]
  cases bnd (some h) 0 m with
  | none => simp [o1_none]
  | some h =>
   simp only [o1_some, o1_if]
   cases bnd lo 0 h with
   | none => simp [o1_none]
   | some l => cases k <;> simp [o1_some, o1_none]
theorem w_ixs (x y : X) : @W1 (evO OO m (.ixs x y) s d) ⟨Q⟩ trivial ↔ @O1 _ (rxv x s) ⟨fun p => @O1 _ (rxv y p.2) ⟨fun q => match p.1, q.1 with | .s v, .i _ n => 0 ≤ n ∧ @O1 _ v.data.toList[n.toNat]? ⟨fun c => Q (.v (.i .u8 c.toNat)) q.2 .no⟩ trivial | _, _ => False⟩ trivial⟩ trivial := by
 simp only [evO]
 cases rxv x s with
 | none => simp [w1_none, o1_none]
 | some p =>
  obtain ⟨a, s1⟩ := p
  simp only [o1_some]
  cases h2 : rxv y s1 with
  | none => cases a <;> simp [w1_none, o1_none, h2]
  | some q =>
   obtain ⟨b, s2⟩ := q
   simp only [o1_some]
   cases a <;> simp only [h2, w1_none]
   cases b <;> simp only [w1_none]
   rename_i v k n
   by_cases hn : 0 ≤ n
   ·rw [if_pos hn]
    cases v.data.toList[n.toNat]? with
    | none => simp [w1_none, o1_none]
    | some c => simp [w1_some, o1_some, hn]
   ·rw [if_neg hn]; simp [w1_none, hn]
theorem w_ixa (agg : Bool) (sz len : Nat) (x y : X) : @W1 (evO OO m (.ixa agg sz len x y) s d) ⟨Q⟩ trivial ↔ @O1 _ (rxv x s) ⟨fun p => @O1 _ (rxv y p.2) ⟨fun q => match p.1, q.1 with | .a cs, .i _ n => (0 ≤ n ∧ n < len) ∧ @O1 _ (sub cs (n.toNat * sz) sz) ⟨fun ds => @O1 _ (ofc agg ds) ⟨fun r => Q (.v r) q.2 .no⟩ trivial⟩ trivial | _, _ => False⟩ trivial⟩ trivial := by
 simp only [evO]
 cases rxv x s with
 | none => simp [w1_none, o1_none]
 | some p =>
  obtain ⟨a, s1⟩ := p
  simp only [o1_some]
  cases h2 : rxv y s1 with
  | none => cases a <;> simp [w1_none, o1_none, h2]
  | some q =>
   obtain ⟨b, s2⟩ := q
   simp only [o1_some]
   cases a <;> simp only [h2, w1_none]
   cases b <;> simp only [w1_none]
   rename_i cs k n
   by_cases hn : 0 ≤ n ∧ n < len
   ·rw [if_pos hn]
    cases sub cs (n.toNat * sz) sz with
    | none => simp [w1_none, o1_none]
    | some c => simp only [o1_some, w1_map, hn, true_and]
   ·rw [if_neg hn]; simp only [w1_none, hn, false_and]
theorem w_app (sz bytes : Nat) (x y : X) : @W1 (evO OO m (.app sz bytes x y) s d) ⟨Q⟩ trivial ↔ @O1 _ (rxv x s) ⟨fun p => @O1 _ (rx y p.2) ⟨fun q => @O1 _ (elems q.2 q.1) ⟨fun e => e.1 = sz ∧ @O1 _ (appv sz bytes p.1 e.2) ⟨fun r => Q (.v r) q.2 q.1.acE⟩ trivial⟩ trivial⟩ trivial⟩ trivial := by
 simp only [evO]
 cases rxv x s with
 | none => simp [w1_none, o1_none]
 | some p =>
  obtain ⟨a, s1⟩ := p
  simp only [o1_some]
  cases h2 : rx y s1 with
  | none => simp [w1_none, o1_none, h2]
  | some q =>
   obtain ⟨b, s2⟩ := q
   simp only [o1_some, h2]
   cases elems s2 b with
   | none => simp [w1_none, o1_none]
   | some e =>
    obtain ⟨sz', ys⟩ := e
    simp only [o1_some]
    by_cases hz : sz' = sz
    ·rw [if_pos hz]; simp only [hz, true_and]; rw [w1_map]
    ·rw [if_neg hz]; simp [w1_none, hz]
theorem w_apps (x y : X) : @W1 (evO OO m (.apps x y) s d) ⟨Q⟩ trivial ↔ @O1 _ (rxv x s) ⟨fun p => @O1 _ (rxv y p.2) ⟨fun q => match q.1 with | .s v => @O1 _ (appv 1 1 p.1 (ofBy v)) ⟨fun r => Q (.v r) q.2 .no⟩ trivial | _ => False⟩ trivial⟩ trivial := by
 simp only [evO]
 cases rxv x s with
 | none => simp [w1_none, o1_none]
 | some p =>
  obtain ⟨a, s1⟩ := p
  simp only [o1_some]
  cases h2 : rxv y s1 with
  | none => simp [w1_none, o1_none, h2]
  | some q =>
   obtain ⟨b, s2⟩ := q
   simp only [o1_some, h2]
   cases b <;> first | rw [w1_none] | skip
   simp only
   rw [w1_map]
theorem o1_app_x (sz bytes sz' : Nat) (xs ys : List D) (Q : D → Prop) : @O1 _ (appv sz bytes (.l .x sz' xs) ys) ⟨Q⟩ trivial ↔ (sz' = sz ∧ (xs.length + ys.length) * bytes ≤ 140737488355328) ∧ Q (.l .x sz (xs ++ ys)) := by
 unfold appv; simp only [o1_if, o1_some]
theorem o1_app_o (sz bytes sz' : Nat) (xs ys : List D) (Q : D → Prop) : @O1 _ (appv sz bytes (.l .o sz' xs) ys) ⟨Q⟩ trivial ↔ (sz' = sz ∧ (xs.length + ys.length) * bytes ≤ 140737488355328) ∧ Q (.l .o sz (xs ++ D.fzs ys)) := by
 unfold appv; simp only [o1_if, o1_some]
theorem o1_app_n (sz bytes sz' : Nat) (xs ys : List D) (Q : D → Prop) : @O1 _ (appv sz bytes (.l .n sz' xs) ys) ⟨Q⟩ trivial ↔ (sz' = sz ∧ (xs.length + ys.length) * bytes ≤ 140737488355328) ∧ Q (if ys.length = 0 then .l .n sz xs else .l .x sz (xs ++ ys)) := by
 unfold appv; simp only [o1_if]; by_cases h : ys.length = 0 <;> simp [h, o1_some]
theorem w_ms (sz bytes : Nat) (z : D) (x y : X) : @W1 (evO OO m (.ms sz bytes z x y) s d) ⟨Q⟩ trivial ↔ @O1 _ (rxv x s) ⟨fun p => @O1 _ (rxv y p.2) ⟨fun q => match p.1, q.1 with | .i .i64 n, .i .i64 c => (0 ≤ n ∧ n ≤ c ∧ c ≤ 9223372036854775807 ∧ c.toNat * bytes ≤ 140737488355328) ∧ Q (.v (.l .x sz (List.replicate n.toNat z))) q.2 .no | _, _ => False⟩ trivial⟩ trivial := by
 simp only [evO]
 cases rxv x s with
 | none => simp [w1_none, o1_none]
 | some p =>
  obtain ⟨a, s1⟩ := p
  simp only [o1_some]
  cases h2 : rxv y s1 with
  | none => cases a <;> simp [w1_none, o1_none, h2]; rename_i k _; cases k <;> simp [w1_none, h2]
  | some q =>
   obtain ⟨b, s2⟩ := q
   simp only [o1_some]
   cases a <;> (try simp only [h2, w1_none])
   rename_i k n
   cases k <;> (try simp only [h2, w1_none])
   cases b <;> (try simp only [w1_none])
   rename_i k c
   cases k <;> (try simp only [w1_none])
   split
   ·rename_i h; simp [w1_some, h]
   ·rename_i h; rw [w1_none]; simp only [h, false_and]
theorem w_call (f : FuncId) (xs : List X) : @W1 (evO OO m (.call f xs) s d) ⟨Q⟩ trivial ↔ @O1 _ (rxs xs s) ⟨fun p => @O1 _ (OO.call f p.1 p.2.sg p.2.sg.length) ⟨fun r => Q (.v r.1) { p.2 with sg := r.2.1, lo := min p.2.lo r.2.2, fr := forget AM.Q.gl p.2.fr } (.cl (D.beqs (r.2.1.map .t) (p.2.sg.map .t) && decide (p.2.lo ≤ r.2.2)))⟩ trivial⟩ trivial := by
 simp only [evO]
 cases rxs xs s with
 | none => simp [w1_none, o1_none]
 | some p =>
  obtain ⟨ds, s1⟩ := p
  simp only [o1_some]
  rw [w1_map]
theorem w_callv (x : X) (xs : List X) : @W1 (evO OO m (.callv x xs) s d) ⟨Q⟩ trivial ↔ @O1 _ (rxv x s) ⟨fun q => match q.1 with
    | .fn f cs => @O1 _ (rxs xs q.2) ⟨fun p => @O1 _ (OO.call f (p.1 ++ cs) p.2.sg p.2.sg.length) ⟨fun r => Q (.v r.1) { p.2 with sg := r.2.1, lo := min p.2.lo r.2.2, fr := forget AM.Q.gl p.2.fr } (.cl (D.beqs (r.2.1.map .t) (p.2.sg.map .t) && decide (p.2.lo ≤ r.2.2)))⟩ trivial⟩ trivial
    | _ => False⟩ trivial := by
 simp only [evO]
 cases rxv x s with
 | none => simp [w1_none, o1_none]
 | some q =>
  obtain ⟨a, s1⟩ := q
  simp only [o1_some]
  cases a <;> simp only [w1_none]
  rename_i f cs
  cases rxs xs s1 with
  | none => simp [w1_none, o1_none]
  | some p =>
   obtain ⟨ds, s1⟩ := p
   simp only [o1_some]
   rw [w1_map]
theorem w_ex (tk : Bool) (n k : Nat) : @W1 (evO OO m (.ex tk n k) s d) ⟨Q⟩ trivial ↔ (match look k s.fr with
    | some (.v (.t ds)) => @O1 _ ds[n]? ⟨fun e => if tk = true then Q (.v e) { s with fr := (k, .v (.t (ds.set n .w))) :: s.fr } .no else @O1 _ e.cp ⟨fun e => Q (.v e) s .no⟩ trivial⟩ trivial
    | _ => False) := by
 simp only [evO]
 cases look k s.fr with
 | none => simp [w1_none]
 | some r =>
  cases r with
  | q x => simp [w1_none]
  | v a =>
   cases a <;> simp only [w1_none]
   rename_i ds
   cases ds[n]? with
   | none => simp [w1_none, o1_none]
   | some e =>
    simp only [o1_some]
    cases tk
    ·simp only [Bool.false_eq_true, if_false]; rw [w1_map]
    ·simp only [if_true, w1_some]
theorem w_len (str : Bool) (x : X) : @W1 (evO OO m (.len str x) s d) ⟨Q⟩ trivial ↔ @O1 _ (rx x s) ⟨fun p => @O1 _ (lenv p.2 str p.1) ⟨fun r => Q (.v (.i .i64 r.1)) p.2 r.2⟩ trivial⟩ trivial := by
 simp only [evO]
 cases rx x s with
 | none => simp [w1_none, o1_none]
 | some p => obtain ⟨a, s1⟩ := p; simp only [o1_some]; rw [w1_map]
theorem w_mx (big : Bool) (xs : List X) : @W1 (evO OO m (.mx big xs) s d) ⟨Q⟩ trivial ↔ @O1 _ (rxs xs s) ⟨fun p => match p.1 with | .i k m :: ds => @O1 _ (mxv big m ds k) ⟨fun r => Q (.v r) p.2 .no⟩ trivial | _ => False⟩ trivial := by
 simp only [evO]
 cases rxs xs s with
 | none => simp [w1_none, o1_none]
 | some p =>
  obtain ⟨ds, s1⟩ := p
  simp only [o1_some]
  cases ds with
  | nil => simp [w1_none]
  | cons d0 ds => cases d0 <;> simp only [w1_none]; rw [w1_map]
theorem w_ld (agg : Bool) (n : Nat) (md : M) (x : X) : @W1 (evO OO m (.ld agg n md x) s d) ⟨Q⟩ trivial ↔ @O1 _ (rx x s) ⟨fun p => @O1 _ (ldp p.2 agg n md p.1) ⟨fun r => Q r.1 r.2.1 r.2.2⟩ trivial⟩ trivial := by
 simp only [evO]
 cases rx x s with
 | none => simp [w1_none, o1_none]
 | some p => obtain ⟨a, s1⟩ := p; simp only [o1_some]; rw [w1_o1]
theorem w_lda (n : Nat) (x : X) : @W1 (evO OO m (.lda n x) s d) ⟨Q⟩ trivial ↔ @O1 _ (rx x s) ⟨fun p => @O1 _ (ldp p.2 false n (auM p.2 p.1) p.1) ⟨fun r => Q r.1 r.2.1 r.2.2⟩ trivial⟩ trivial := by
 simp only [evO]
 cases rx x s with
 | none => simp [w1_none, o1_none]
 | some p => obtain ⟨a, s1⟩ := p; simp only [o1_some]; rw [w1_o1]
theorem w_st (n : Nat) (x y : X) : @W1 (evO OO m (.st n x y) s d) ⟨Q⟩ trivial ↔ @O1 _ (rx x s) ⟨fun p => @O1 _ (rxv y p.2) ⟨fun q => stb q.1 = true ∧ @O1 _ (stp q.2 n p.1 q.1) ⟨fun r => Q (.v .u) r.1 r.2⟩ trivial⟩ trivial⟩ trivial := by
 simp only [evO]
 cases rx x s with
 | none => simp [w1_none, o1_none]
 | some p =>
  obtain ⟨a, s1⟩ := p
  simp only [o1_some]
  cases h2 : rxv y s1 with
  | none => simp [w1_none, o1_none, h2]
  | some q =>
   obtain ⟨b, s2⟩ := q
   simp only [o1_some, h2]
   by_cases hb : stb b = true
   ·rw [if_pos hb, w1_map]; simp [hb]
   ·rw [if_neg hb]; simp [w1_none, hb]
theorem w_pick (c a b : X) : @W1 (evO OO m (.pick c a b) s d) ⟨Q⟩ trivial ↔ @O1 _ (rxv c s) ⟨fun p => match p.1 with | .b t => if t = true then @O1 _ (rxv a p.2) ⟨fun q => Q (.v q.1) q.2 .no⟩ trivial else @O1 _ (rxv b p.2) ⟨fun q => Q (.v q.1) q.2 .no⟩ trivial | _ => False⟩ trivial := by
 simp only [evO]
 cases rxv c s with
 | none => simp [w1_none, o1_none]
 | some p =>
  obtain ⟨x, s1⟩ := p
  simp only [o1_some]
  cases x <;> simp only [w1_none]
  rename_i t
  cases t
  ·simp only [Bool.false_eq_true, if_false]; rw [w1_map]
  ·simp only [if_true]; rw [w1_map]
end
end Go.AM

namespace Go.AM
def BQ (t : Bool) [A : Pr] [B : Pr] (_ : True) : Prop := if t = true then A.p else B.p
theorem bq_i {t : Bool} {A B : Pr} (h : t = true → A.p) (k : t = false → B.p) : @BQ t A B trivial := by
 cases t
 ·exact k rfl
 ·exact h rfl
theorem bq_true (A B) : @BQ true ⟨A⟩ ⟨B⟩ trivial ↔ A := by simp [BQ]
theorem bq_false (A B) : @BQ false ⟨A⟩ ⟨B⟩ trivial ↔ B := by simp [BQ]
theorem cd_t (t A B) : @CdQ (some (.v (.b t))) ⟨A⟩ ⟨B⟩ trivial ↔ @BQ t ⟨A⟩ ⟨B⟩ trivial := Iff.rfl
theorem cd_u (A B) : @CdQ (some (.v .u)) ⟨A⟩ ⟨B⟩ trivial ↔ False := Iff.rfl
theorem gd_t (t A B) : @GdQ (some (.v (.b t))) true ⟨A⟩ ⟨B⟩ trivial ↔ @BQ t ⟨A⟩ ⟨B⟩ trivial := Iff.rfl
theorem gd_f (t A B) : @GdQ (some (.v (.b t))) false ⟨A⟩ ⟨B⟩ trivial ↔ @BQ t ⟨B⟩ ⟨A⟩ trivial := by cases t <;> simp [GdQ, BQ]
section
variable (OO : Or) (m : TypeId → String → Option FuncId) (s : St) (d : Option Nat) (Q : R → St → Ac → Prop)
theorem w_al (z : List D) (k : Nat) : @W1 (evO OO m (.al z) s (some k)) ⟨Q⟩ trivial ↔ Q (.q (.ptr k 0)) { s with ob := (k, z) :: s.ob, fr := forget (AM.Q.ofk k) s.fr } (.wk k) := by simp only [evO]; rw [w1_some]
theorem w_ag (z : List D) : @W1 (evO OO m (.ag z) s d) ⟨Q⟩ trivial ↔ Q (.v (.p s.sg.length 0)) { s with sg := s.sg ++ [z] } .ag := by simp only [evO]; rw [w1_some]
theorem w_bx (x : X) (k : Nat) : @W1 (evO OO m (.bx x) s (some k)) ⟨Q⟩ trivial ↔ @O1 _ (rxv x s) ⟨fun p => stb p.1 = true ∧ Q (.q (.ptr k 0)) { p.2 with ob := (k, p.1.cells) :: p.2.ob, fr := forget (AM.Q.ofk k) p.2.fr } (.wk k)⟩ trivial := by
 simp only [evO]
 cases rxv x s with
 | none => simp [w1_none, o1_none]
 | some p =>
  obtain ⟨a, s1⟩ := p
  simp only [o1_some]
  by_cases h : stb a = true
  ·rw [if_pos h, w1_some]; simp [h]
  ·rw [if_neg h, w1_none]; simp [h]
theorem w_bg (x : X) : @W1 (evO OO m (.bg x) s d) ⟨Q⟩ trivial ↔ @O1 _ (rxv x s) ⟨fun p => stb p.1 = true ∧ Q (.v (.p p.2.sg.length 0)) { p.2 with sg := p.2.sg ++ [p.1.cells] } .ag⟩ trivial := by
 simp only [evO]
 cases rxv x s with
 | none => simp [w1_none, o1_none]
 | some p =>
  obtain ⟨a, s1⟩ := p
  simp only [o1_some]
  by_cases h : stb a = true
  ·rw [if_pos h, w1_some]; simp [h]
  ·rw [if_neg h, w1_none]; simp [h]
theorem w_bd (z : List D) (ps : List (Nat × Nat × X)) : @W1 (evO OO m (.bd z ps) s d) ⟨Q⟩ trivial ↔ @O1 _ (rxs (ps.map (·.2.2)) s) ⟨fun p => stbs p.1 = true ∧ @O1 _ (fillc z ((ps.zip p.1).map fun (a, d) => (a.1, a.2.1, d))) ⟨fun cs => Q (.v (.a cs)) p.2 .no⟩ trivial⟩ trivial := by
 simp only [evO]
 cases rxs (ps.map (·.2.2)) s with
 | none => simp [w1_none, o1_none]
 | some p =>
  obtain ⟨a, s1⟩ := p
  simp only [o1_some]
  by_cases h : stbs a = true
  ·rw [if_pos h, w1_map]; simp [h]
  ·rw [if_neg h, w1_none]; simp [h]
theorem w_bs (sz n : Nat) (z : D) (ps : List (Nat × X)) : @W1 (evO OO m (.bs sz n z ps) s d) ⟨Q⟩ trivial ↔ @O1 _ (rxs (ps.map (·.2)) s) ⟨fun p => stbs p.1 = true ∧ @O1 _ (fille (List.replicate n z) sz ((ps.zip p.1).map fun (a, d) => (a.1, d))) ⟨fun xs => Q (.v (.l .x sz xs)) p.2 .no⟩ trivial⟩ trivial := by
 simp only [evO]
 cases rxs (ps.map (·.2)) s with
 | none => simp [w1_none, o1_none]
 | some p =>
  obtain ⟨a, s1⟩ := p
  simp only [o1_some]
  by_cases h : stbs a = true
  ·rw [if_pos h, w1_map]; simp [h]
  ·rw [if_neg h, w1_none]; simp [h]
theorem w_nc (x : X) : @W1 (evO OO m (.nc x) s d) ⟨Q⟩ trivial ↔ @O1 _ (rx x s) ⟨fun p => match p.1 with
    | .v (.p g o) => Q (.v (.p g o)) p.2 .no
    | .v (.q cs o) => Q (.v (.q cs o)) p.2 .no
    | .v (.ic t d) => Q (.v (.ic t d)) p.2 .no
    | .v (.bm nm d) => bmOK m nm d = true ∧ Q (.v (.bm nm d)) p.2 .no
    | .q (.ptr k o) => Q (.q (.ptr k o)) p.2 (.rl k 0 0)
    | .q (.el pl i o) => Q (.q (.el pl i o)) p.2 (AM.Q.ac (.el pl i o))
    | _ => False⟩ trivial := by
 simp only [evO]
 cases rx x s with
 | none => simp [w1_none, o1_none]
 | some p =>
  obtain ⟨a, s1⟩ := p
  simp only [o1_some]
  cases a with
  | v a => cases a <;> simp only [w1_none, w1_some] <;> (rename_i nm a; cases hb : bmOK m nm a <;> simp [w1_none, w1_some])
  | q a => cases a <;> simp only [w1_none, w1_some, AM.Q.ac]
theorem w_fa (off : Nat) (x : X) : @W1 (evO OO m (.fa off x) s d) ⟨Q⟩ trivial ↔ @O1 _ (rx x s) ⟨fun p => @O1 _ (fav off p.1) ⟨fun r => Q r p.2 r.ac⟩ trivial⟩ trivial := by
 simp only [evO]
 cases rx x s with
 | none => simp [w1_none, o1_none]
 | some p => obtain ⟨a, s1⟩ := p; simp only [o1_some]; rw [w1_map]
theorem w_fd (agg : Bool) (off n : Nat) (x : X) : @W1 (evO OO m (.fd agg off n x) s d) ⟨Q⟩ trivial ↔ @O1 _ (rxv x s) ⟨fun p => match p.1 with | .a cs => @O1 _ (sub cs off n) ⟨fun ds => @O1 _ (ofc agg ds) ⟨fun r => Q (.v r) p.2 .no⟩ trivial⟩ trivial | _ => False⟩ trivial := by
 simp only [evO]
 cases rxv x s with
 | none => simp [w1_none, o1_none]
 | some p =>
  obtain ⟨a, s1⟩ := p
  simp only [o1_some]
  cases a <;> simp only [w1_none]
  rename_i cs
  cases sub cs off n with
  | none => simp [w1_none, o1_none]
  | some ds => simp only [o1_some]; rw [w1_map]
theorem w_mi (t : TypeId) (x : X) : @W1 (evO OO m (.mi t x) s d) ⟨Q⟩ trivial ↔ @O1 _ (rxv x s) ⟨fun p => @O1 _ p.1.cp ⟨fun r => Q (.v (.ic t r)) p.2 .no⟩ trivial⟩ trivial := by
 simp only [evO]
 cases rxv x s with
 | none => simp [w1_none, o1_none]
 | some p => obtain ⟨a, s1⟩ := p; simp only [o1_some]; rw [w1_map]
theorem w_mm (nm : String) (x : X) : @W1 (evO OO m (.mm nm x) s d) ⟨Q⟩ trivial ↔ @O1 _ (rxv x s) ⟨fun p => @O1 _ p.1.cp ⟨fun r => Q (.v (.bm nm r)) p.2 .no⟩ trivial⟩ trivial := by
 simp only [evO]
 cases rxv x s with
 | none => simp [w1_none, o1_none]
 | some p => obtain ⟨a, s1⟩ := p; simp only [o1_some]; rw [w1_map]
theorem w_mf (f : FuncId) (xs : List X) : @W1 (evO OO m (.mf f xs) s d) ⟨Q⟩ trivial ↔ @O1 _ (rxs xs s) ⟨fun p => @O1 _ (D.cps p.1) ⟨fun r => Q (.v (.fn f r)) p.2 .no⟩ trivial⟩ trivial := by
 simp only [evO]
 cases rxs xs s with
 | none => simp [w1_none, o1_none]
 | some p => obtain ⟨a, s1⟩ := p; simp only [o1_some]; rw [w1_map]
theorem w_callp (f : FuncId) (xs : List X) : @W1 (evO OO m (.callp f xs) s d) ⟨Q⟩ trivial ↔ @O1 _ (rxs xs s) ⟨fun p => @O1 _ (callpv OO f p.1) ⟨fun r => Q (.v r) p.2 .no⟩ trivial⟩ trivial := by
 simp only [evO]
 cases rxs xs s with
 | none => simp [w1_none, o1_none]
 | some p => obtain ⟨a, s1⟩ := p; simp only [o1_some]; rw [w1_map]
theorem w_callr (f : FuncId) (xs : List X) (x : X) : @W1 (evO OO m (.callr f xs x) s d) ⟨Q⟩ trivial ↔ @O1 _ (rxv x s) ⟨fun q => match q.1 with
    | .p r _ => @O1 _ (rxs xs q.2) ⟨fun p => @O1 _ (callrv OO f p.1 r p.2.sg) ⟨fun v => Q (.v v) { p.2 with fr := forget (AM.Q.glx r) p.2.fr } (.clx r)⟩ trivial⟩ trivial
    | _ => False⟩ trivial := by
 simp only [evO]
 cases rxv x s with
 | none => simp [w1_none, o1_none]
 | some q =>
  obtain ⟨a, s1⟩ := q
  simp only [o1_some]
  cases a <;> simp only [w1_none]
  cases rxs xs s1 with
  | none => simp [w1_none, o1_none]
  | some p => obtain ⟨a, s1⟩ := p; simp only [o1_some]; rw [w1_map]
theorem w_eqa (neg : Bool) (cs : List Ec) (x y : X) : @W1 (evO OO m (.eqa neg cs x y) s d) ⟨Q⟩ trivial ↔ @O1 _ (rxv x s) ⟨fun p => @O1 _ (rxv y p.2) ⟨fun q => match p.1, q.1 with | .a ds, .a es => @O1 _ (eqs cs ds es) ⟨fun t => Q (.v (.b (if neg then !t else t))) q.2 .no⟩ trivial | _, _ => False⟩ trivial⟩ trivial := by
 simp only [evO]
 cases rxv x s with
 | none => simp [w1_none, o1_none]
 | some p =>
  obtain ⟨a, s1⟩ := p
  simp only [o1_some]
  cases h2 : rxv y s1 with
  | none => cases a <;> simp [w1_none, o1_none, h2]
  | some q =>
   obtain ⟨b, s2⟩ := q
   simp only [o1_some]
   cases a <;> simp only [h2, w1_none]
   cases b <;> simp only [w1_none]
   rw [w1_map]
theorem w_bits (x : X) : @W1 (evO OO m (.bits x) s d) ⟨Q⟩ trivial ↔ @O1 _ (rxv x s) ⟨fun p => match p.1 with | .f .f64 n => Q (.v (.i .u64 n)) p.2 .no | _ => False⟩ trivial := by
 simp only [evO]
 cases rxv x s with
 | none => simp [w1_none, o1_none]
 | some p =>
  obtain ⟨a, s1⟩ := p
  simp only [o1_some]
  cases a <;> (try simp only [w1_none])
  rename_i k n; cases k <;> simp only [w1_none, w1_some]
theorem w_frbits (x : X) : @W1 (evO OO m (.frbits x) s d) ⟨Q⟩ trivial ↔ @O1 _ (rxv x s) ⟨fun p => match p.1 with | .i .u64 n => 0 ≤ n ∧ Q (.v (.f .f64 n.toNat)) p.2 .no | _ => False⟩ trivial := by
 simp only [evO]
 cases rxv x s with
 | none => simp [w1_none, o1_none]
 | some p =>
  obtain ⟨a, s1⟩ := p
  simp only [o1_some]
  cases a <;> (try simp only [w1_none])
  rename_i k n; cases k <;> (try simp only [w1_none])
  by_cases h : 0 ≤ n
  ·rw [if_pos h, w1_some]; simp [h]
  ·rw [if_neg h, w1_none]; simp [h]
theorem w_ta (t : TypeId) (x : X) : @W1 (evO OO m (.ta t x) s d) ⟨Q⟩ trivial ↔ @O1 _ (rxv x s) ⟨fun p => match p.1 with | .ic t' e => t = t' ∧ Q (.v e) p.2 .no | _ => False⟩ trivial := by
 simp only [evO]
 cases rxv x s with
 | none => simp [w1_none, o1_none]
 | some p =>
  obtain ⟨a, s1⟩ := p
  simp only [o1_some]
  cases a <;> (try simp only [w1_none])
  rename_i t' e
  by_cases h : t = t'
  ·rw [if_pos h, w1_some]; simp [h]
  ·rw [if_neg h, w1_none]; simp [h]
theorem w_mkm : @W1 (evO OO m .mkm s d) ⟨Q⟩ trivial ↔ Q (.v (.mo s.sg.length)) { s with sg := s.sg ++ [[.u]] } .ag := by
 simp only [evO]
 rw [w1_some]
theorem w1_mlkv (ok str : Bool) (z : D) (r : Nat) (k : D) : @W1 (mlkv ok str z (.mo r) k s) ⟨Q⟩ trivial ↔ ∃ es, s.sg[r]? = some (.u :: es) ∧ @O1 _ (mfind str k es) ⟨fun v => Q (.v (if ok then .t [v.getD z, .b v.isSome] else v.getD z)) s (.reg r)⟩ trivial := by
 unfold mlkv
 simp only
 split
 ·rename_i es he
  rw [w1_map]
  constructor
  ·intro h; exact ⟨es, he, h⟩
  ·rintro ⟨es', he', h⟩
   rw [he] at he'; cases he'; exact h
 ·rename_i hn
  rw [w1_none]
  constructor
  ·exact False.elim
  ·rintro ⟨es', he', _⟩; exact hn es' he'
theorem w1_mupv (str : Bool) (r : Nat) (k v : D) : @W1 (mupv str (.mo r) k v s) ⟨Q⟩ trivial ↔ @O1 _ k.cp ⟨fun k => @O1 _ v.cp ⟨fun v => ∃ es, s.sg[r]? = some (.u :: es) ∧ @O1 _ (mset str k v es) ⟨fun es => Q (.v .u) { s with sg := s.sg.set r (.u :: es), lo := if D.nr 0 v then s.lo else min s.lo r } .ag⟩ trivial⟩ trivial⟩ trivial := by
 unfold mupv
 simp only
 cases hk : k.cp with
 | none => simp only [o1_none, w1_none]
 | some k' =>
  cases hv : v.cp with
  | none => simp only [o1_some, o1_none, w1_none]
  | some v' =>
   simp only [o1_some]
   split
   ·rename_i es he
    rw [w1_map]
    constructor
    ·intro h; exact ⟨es, he, h⟩
    ·rintro ⟨es', he', h⟩
     rw [he] at he'; cases he'; exact h
   ·rename_i hn
    rw [w1_none]
    constructor
    ·exact False.elim
    ·rintro ⟨es', he', _⟩; exact hn es' he'
theorem w1_mlnv (r : Nat) : @W1 (mlnv (.mo r) s) ⟨Q⟩ trivial ↔ ∃ es, s.sg[r]? = some (.u :: es) ∧ Q (.v (.i .i64 (es.length / 2 : Nat))) s (.reg r) := by
 unfold mlnv
 simp only
 split
 ·rename_i es he
  rw [w1_some]
  constructor
  ·intro h; exact ⟨es, he, h⟩
  ·rintro ⟨es', he', h⟩
   rw [he] at he'; cases he'; exact h
 ·rename_i hn
  rw [w1_none]
  constructor
  ·exact False.elim
  ·rintro ⟨es', he', _⟩; exact hn es' he'
theorem w_mlk (ok str : Bool) (z : D) (x y : X) : @W1 (evO OO m (.mlk ok str z x y) s d) ⟨Q⟩ trivial ↔ @O1 _ (rxv x s) ⟨fun p => @O1 _ (rxv y p.2) ⟨fun q => @W1 (mlkv ok str z p.1 q.1 q.2) ⟨Q⟩ trivial⟩ trivial⟩ trivial := by
 simp only [evO]
 cases rxv x s with
 | none => simp [w1_none, o1_none]
 | some p =>
  obtain ⟨a, s1⟩ := p
  simp only [o1_some]
  cases rxv y s1 with
  | none => simp [w1_none, o1_none]
  | some q => obtain ⟨k, s2⟩ := q; simp only [o1_some]
theorem w_mup (str : Bool) (x y v : X) : @W1 (evO OO m (.mup str x y v) s d) ⟨Q⟩ trivial ↔ @O1 _ (rxv x s) ⟨fun p => @O1 _ (rxv y p.2) ⟨fun q => @O1 _ (rxv v q.2) ⟨fun r => @W1 (mupv str p.1 q.1 r.1 r.2) ⟨Q⟩ trivial⟩ trivial⟩ trivial⟩ trivial := by
 simp only [evO]
 cases rxv x s with
 | none => simp [w1_none, o1_none]
 | some p =>
  obtain ⟨a, s1⟩ := p
  simp only [o1_some]
  cases rxv y s1 with
  | none => simp [w1_none, o1_none]
  | some q =>
   obtain ⟨k, s2⟩ := q
   simp only [o1_some]
   cases rxv v s2 with
   | none => simp [w1_none, o1_none]
   | some q => obtain ⟨k, s2⟩ := q; simp only [o1_some]
theorem w_mln (x : X) : @W1 (evO OO m (.mln x) s d) ⟨Q⟩ trivial ↔ @O1 _ (rxv x s) ⟨fun p => @W1 (mlnv p.1 p.2) ⟨Q⟩ trivial⟩ trivial := by
 simp only [evO]
 cases rxv x s with
 | none => simp [w1_none, o1_none]
 | some p => obtain ⟨a, s1⟩ := p; simp only [o1_some]
theorem w_inv (nm : String) (x : X) (xs : List X) : @W1 (evO OO m (.inv nm x xs) s d) ⟨Q⟩ trivial ↔ @O1 _ (rxv x s) ⟨fun q => match q.1 with
    | .ic t v => @O1 _ (m t nm) ⟨fun f => @O1 _ (rxs xs q.2) ⟨fun p => @O1 _ (OO.call f (v :: p.1) p.2.sg p.2.sg.length) ⟨fun r => Q (.v r.1) { p.2 with sg := r.2.1, lo := min p.2.lo r.2.2, fr := forget AM.Q.gl p.2.fr } (.cl (D.beqs (r.2.1.map .t) (p.2.sg.map .t) && decide (p.2.lo ≤ r.2.2)))⟩ trivial⟩ trivial⟩ trivial
    | _ => False⟩ trivial := by
 simp only [evO]
 cases rxv x s with
 | none => simp [w1_none, o1_none]
 | some q =>
  obtain ⟨a, s1⟩ := q
  simp only [o1_some]
  cases a <;> (try simp only [w1_none])
  rename_i t v
  cases m t nm with
  | none => simp [w1_none, o1_none]
  | some f =>
   simp only [o1_some]
   cases rxs xs s1 with
   | none => simp [w1_none, o1_none]
   | some p =>
    obtain ⟨ds, s1⟩ := p
    simp only [o1_some]
    rw [w1_map]
end
theorem w_srt (OO : Or) (m : TypeId → String → Option FuncId) (s : St) (d : Option Nat) (Q : R → St → Ac → Prop) (f g : FuncId) (x : X) : @W1 (evO OO m (.srt f g x) s d) ⟨Q⟩ trivial ↔ @O1 _ (rx x s) ⟨fun p => @O1 _ (hpl p.1) ⟨fun q => @AtQ (p.2.at q.1) ⟨fun a => @O1 _ (OO.srt f g a.1 a.2) ⟨fun ys => ys.length = a.2.length ∧ Q (.v (.t [])) { p.2.setAt q.1 (.l .x a.1 ys) with lo := p.2.loAt (.l .z a.1 ys) q.1 } q.1.we⟩ trivial⟩ trivial⟩ trivial⟩ trivial := by
 constructor
 ·rintro ⟨r, t, ac, he, hq⟩
  simp only [evO] at he
  split at he
  ·rename_i r1 s1 h1
   split at he
   ·rename_i pl ac2 h2
    split at he
    ·rename_i sz xs h3
     split at he
     ·rename_i ys h4
      split at he
      ·rename_i h5
       cases he
       exact ⟨_, h1, _, h2, sz, xs, h3, ys, h4, h5, hq⟩
      ·cases he
     ·cases he
    ·cases he
   ·cases he
  ·cases he
 ·rintro ⟨⟨r1, s1⟩, h1, ⟨pl, ac2⟩, h2, sz, xs, h3, ys, h4, h5, hq⟩
  refine ⟨_, _, _, ?_, hq⟩
  simp only at h2 h3 h4 h5 ⊢
  simp only [evO, h1, h2, h3, h4, if_pos h5]
theorem hpl_hdr0 (k : Nat) : hpl (.q (.hdr k)) = some (.ob k 0, .rb k) := rfl
theorem hpl_hd0 (pl : Pl) : hpl (.q (.hd pl)) = some (pl, (AM.Q.hd pl).ac) := rfl
theorem w_pickb (OO : Or) (m : TypeId → String → Option FuncId) (s : St) (d : Option Nat) (Q : R → St → Ac → Prop) (c a b : X) : @W1 (evO OO m (.pick c a b) s d) ⟨Q⟩ trivial ↔ @O1 _ (rxv c s) ⟨fun p => match p.1 with | .b t => @BQ t ⟨@O1 _ (rxv a p.2) ⟨fun q => Q (.v q.1) q.2 .no⟩ trivial⟩ ⟨@O1 _ (rxv b p.2) ⟨fun q => Q (.v q.1) q.2 .no⟩ trivial⟩ trivial | _ => False⟩ trivial := w_pick OO m s d Q c a b
theorem fn_r (res n x s) : FnQ res n x (.r s) ↔ @O1 _ (resv res s) ⟨fun p => (if D.nr n (tup p.1) = true ∧ n ≤ p.2.lo then (tup p.1, p.2.sg.take n, p.2.lo) else (tup p.1, p.2.sg, p.2.lo)) = x⟩ trivial := by
 unfold FnQ fin
 simp only
 cases resv res s with
 | none => simp [O1]
 | some p =>
  obtain ⟨ds, s1⟩ := p
  simp only [O1, Option.some.injEq, exists_eq_left', Bool.and_eq_true, decide_eq_true_eq]
  split <;> simp
theorem fn_n (res n x s) : FnQ res n x (.n s) ↔ @O1 _ (resv res s) ⟨fun p => (if D.nr n (tup p.1) = true ∧ n ≤ p.2.lo then (tup p.1, p.2.sg.take n, p.2.lo) else (tup p.1, p.2.sg, p.2.lo)) = x⟩ trivial := fn_r res n x s
attribute [simp ↓] wc_skip wc_ret wc_exit wc_seq wc_blk wc_cond wc_reg wc_regd wg_nil wg_cons wo_nil wo_cons wo_guard wd_nil wd_cons wd_guard w_mv w_bin w_eq w_un w_cv w_ia w_sl w_ss w_ixs w_ixa w_app w_apps w_ms w_call w_callp w_callr w_callv w_ex w_len w_mx w_ld w_lda w_st w_pickb w_al w_ag w_bx w_bg w_bd w_bs w_nc w_fa w_fd w_mi w_mm w_mf w_eqa w_bits w_frbits w_ta w_inv w_srt w_mkm w_mlk w_mup w_mln w1_mlkv w1_mupv w1_mlnv
attribute [simp] w1_some w1_none cd_t gd_t gd_f gd_u cd_u bq_true bq_false sq_n sq_x sq_r bk_n bk_x bk_r o1_some o1_none o1_map o1_if_none o1_if o1_ite o1_iav_l bd_none bd_some o1_ssv o1_slv2 o1_slv3 rxo_none rxo_some o1_app_x o1_app_o o1_app_n at_some o1_iav_hd' o1_iav_hdr'
attribute [simp] hpl_hdr0 hpl_hd0 fzR look drp keep forget rx rxv rxs St.put evG D.cp D.cps binv bini unv cvv resv tup fn_r fn_n AM.Q.dead AM.Q.gl AM.Q.glx AM.Q.bor AM.Q.ofk ini mxv R.fo D.fo D.fos R.fz D.fz D.fzs D.zz D.zzs okA Ac.ok R.ac AM.Q.ac R.acE Pl.rb Pl.re Pl.we stb stbs D.cells fillc fille ovr sub ofc fav ldp auM stp St.at St.setAt St.loAt lenv elems slk beqs_self D.nr D.nrs eq1 eqs rec_
theorem wc_ind {α : Type} (st : α → St) (μ : α → Nat) (P : α → Prop) {B : C} {Q : Rs → Prop}
    (h : ∀ a, P a → (∀ b, μ b < μ a → P b → @WC (.loop B) (st b) ⟨Q⟩ trivial) → @WC B (st a) ⟨fun r => @SqQ (.loop B) ⟨Q⟩ r trivial⟩ trivial) : ∀ a, P a → @WC (.loop B) (st a) ⟨Q⟩ trivial := by
 have : ∀ n a, μ a < n → P a → @WC (.loop B) (st a) ⟨Q⟩ trivial := by
  intro n
  induction n with
  | zero => intro a ha; omega
  | succ n ih => intro a ha hp; exact wc_loop (h a hp (fun b hb hpb => ih b (by omega) hpb))
 exact fun a hp => this _ a (Nat.lt_succ_self _) hp
theorem wrap64 {x : Int} (h : -9223372036854775808 ≤ x ∧ x ≤ 9223372036854775807) : IntKind.i64.wrap x = x := by
 simp [IntKind.wrap, IntKind.signed, IntKind.bits]; omega
end Go.AM

namespace Go.AM
theorem wrap_u64 (n : Int) : IntKind.u64.wrap n = n % 18446744073709551616 := by simp [IntKind.wrap, IntKind.bits, IntKind.signed]
theorem wrapu64 {n : Int} (h : 0 ≤ n ∧ n < 18446744073709551616) : IntKind.u64.wrap n = n := by rw [wrap_u64]; omega
theorem u64k : ∀ n : Int, 0 ≤ n → n < 2 ^ 64 → IntKind.u64.wrap n = n := fun n h0 h1 => wrapu64 ⟨h0, by simpa using h1⟩
theorem u64_and (a b : Nat) (ha : a < 18446744073709551616) (hb : b < 18446744073709551616) : bits .and .u64 a b = ((a &&& b : Nat) : Int) := (bits_nat .u64 64 (by decide) u64k a b (by simpa using ha) (by simpa using hb)).1
theorem u64_or (a b : Nat) (ha : a < 18446744073709551616) (hb : b < 18446744073709551616) : bits .or .u64 a b = ((a ||| b : Nat) : Int) := (bits_nat .u64 64 (by decide) u64k a b (by simpa using ha) (by simpa using hb)).2
theorem u64_not (b : Nat) (hb : b < 18446744073709551616) : bits .xor .u64 18446744073709551615 b = ((18446744073709551615 - b : Nat) : Int) := by
 show IntKind.u64.wrap ((BitVec.ofInt 64 18446744073709551615 ^^^ BitVec.ofInt 64 (b : Int) : BitVec 64).toNat : Int) = _
 have e : BitVec.ofInt 64 18446744073709551615 = BitVec.allOnes 64 := by decide
 have e2 : BitVec.ofInt 64 (b : Int) = BitVec.ofNat 64 b := by simp
 rw [e, e2, BitVec.allOnes_xor, BitVec.toNat_not, BitVec.toNat_ofNat, Nat.mod_eq_of_lt (by simpa using hb), wrapu64]
 ·omega
theorem bit63 (i : Nat) : Nat.testBit 9223372036854775808 i = decide (63 = i) := by
 have h : Nat.testBit (2 ^ 63) i = decide (63 = i) := Nat.testBit_two_pow ..
 simpa using h
theorem and_sign (b : Nat) (hb : b < 18446744073709551616) : b &&& 9223372036854775808 = if 9223372036854775808 ≤ b then 9223372036854775808 else 0 := by
 apply Nat.eq_of_testBit_eq
 intro i
 rw [Nat.testBit_and, bit63]
 by_cases hi : 63 = i
 ·subst hi
  rw [Nat.testBit_eq_decide_div_mod_eq]
  split
  ·have : b / 2 ^ 63 = 1 := by omega
   simp [this, bit63]
  ·have : b / 2 ^ 63 = 0 := by omega
   simp [this]
 ·split <;> simp [hi, bit63]
theorem or_sign (b : Nat) (hb : b < 9223372036854775808) : b ||| 9223372036854775808 = b + 9223372036854775808 := by
 have := Nat.two_pow_add_eq_or_of_lt (i := 63) (b := b) (by simpa using hb) 1
 rw [Nat.or_comm, Nat.add_comm]
 simpa using this.symm
theorem wc_up {B : C} {Q : Rs → Prop} (n : Nat) (st : Nat → St) (P : Nat → Prop)
    (h : ∀ i, i < n → P i → (P (i + 1) → @WC (.loop B) (st (i + 1)) ⟨Q⟩ trivial) → @WC B (st i) ⟨fun r => @SqQ (.loop B) ⟨Q⟩ r trivial⟩ trivial)
    (he : P n → @WC B (st n) ⟨fun r => @SqQ (.loop B) ⟨Q⟩ r trivial⟩ trivial) : ∀ i, i ≤ n → P i → @WC (.loop B) (st i) ⟨Q⟩ trivial := by
 intro i hi hp
 refine wc_ind st (fun i => n - i) (fun i => i ≤ n ∧ P i) ?_ i ⟨hi, hp⟩
 rintro i ⟨h1, h2⟩ ih
 rcases Nat.lt_or_eq_of_le h1 with h3 | h3
 ·exact h i h3 h2 (fun hp => ih (i + 1) (by omega) ⟨by omega, hp⟩)
 ·subst h3; exact he h2
theorem wc_list {α β : Type} {B : C} {Q : Rs → Prop} (l : List α) (st : Nat → β → St) (P : List α → β → Prop)
    (h : ∀ i x r b, l[i]? = some x → i < l.length → P (x :: r) b → (∀ b', P r b' → @WC (.loop B) (st (i + 1) b') ⟨Q⟩ trivial) → @WC B (st i b) ⟨fun r => @SqQ (.loop B) ⟨Q⟩ r trivial⟩ trivial)
    (he : ∀ b, P [] b → @WC B (st l.length b) ⟨fun r => @SqQ (.loop B) ⟨Q⟩ r trivial⟩ trivial) : ∀ b, P l b → @WC (.loop B) (st 0 b) ⟨Q⟩ trivial := by
 intro b hb
 refine wc_ind (fun a : Nat × β => st a.1 a.2) (fun a => l.length - a.1) (fun a => a.1 ≤ l.length ∧ P (l.drop a.1) a.2) ?_ (0, b) ⟨by simp, by simpa using hb⟩
 rintro ⟨i, b⟩ ⟨h1, h2⟩ ih
 simp only at h1 h2 ih ⊢
 rcases Nat.lt_or_eq_of_le h1 with h3 | h3
 ·rw [List.drop_eq_getElem_cons h3] at h2
  exact h i l[i] _ b (List.getElem?_eq_getElem h3) h3 h2 (fun b' hb' => ih (i + 1, b') (by simp; omega) ⟨h3, hb'⟩)
 ·subst h3; rw [List.drop_length] at h2; exact he b h2
theorem mem_of_get {α : Type} {l : List α} {i : Nat} {x : α} (h : l[i]? = some x) : x ∈ l := List.mem_of_getElem? h
theorem order_self (b : Nat) (hb : b < 18446744073709551616) : FloatKind.f64.format.order b b = if b % 9223372036854775808 > 9218868437227405312 then none else some .eq := by
 have hs : FloatKind.f64.format.signWeight = 9223372036854775808 := by decide
 have hi : FloatKind.f64.format.infRung = 9218868437227405312 := by decide
 unfold Ieee.Format.order Ieee.Format.read
 simp only [hs, hi]
 by_cases h1 : b % 9223372036854775808 < FloatKind.f64.format.binade
 ·have : FloatKind.f64.format.binade ≤ 9218868437227405312 := by decide
  simp only [h1, if_true, Ieee.Datum.order]
  rw [if_neg (by omega)]; simp
 ·simp only [h1, if_false]
  by_cases h2 : b % 9223372036854775808 < 9218868437227405312
  ·simp only [h2, if_true, Ieee.Datum.order]
   rw [if_neg (by omega)]; simp
  ·simp only [h2, if_false]
   by_cases h3 : b % 9223372036854775808 = 9218868437227405312
   ·simp only [h3, if_true, Ieee.Datum.order]
    simp
   ·simp only [h3, if_false, Ieee.Datum.order]
    rw [if_pos (by omega)]
end Go.AM

namespace Go.AM
def canon (b : Nat) : Nat := if b % 9223372036854775808 > 9218868437227405312 then 9221120237041090560 else b
def keyC (b : Nat) : Nat := if 9223372036854775808 ≤ b then 18446744073709551615 - b else b + 9223372036854775808
def key (b : Nat) : Nat := keyC (canon b)
theorem canon_lt {b : Nat} (h : b < 18446744073709551616) : canon b < 18446744073709551616 := by unfold canon; split <;> omega
theorem canon_canon (b : Nat) : canon (canon b) = canon b := by unfold canon; split <;> simp_all
theorem keyC_inj {a b : Nat} (ha : a < 18446744073709551616) (hb : b < 18446744073709551616) (h : keyC a = keyC b) : a = b := by
 unfold keyC at h; split at h <;> split at h <;> omega
def cmpN (a b : Nat) : Int := if a < b then -1 else if a > b then 1 else 0
theorem canon_nan {b : Nat} (h : 9218868437227405312 < b % 9223372036854775808) : canon b = 9221120237041090560 := if_pos h
theorem canon_num {b : Nat} (h : b % 9223372036854775808 ≤ 9218868437227405312) : canon b = b := if_neg (by omega)
theorem c_real_Canon (b : Nat) (hb : b < 18446744073709551616) (sg) : LL.call n_real_Canon [.f .f64 b] sg sg.length = some (.f .f64 (canon b), sg, sg.length) := by
 refine wp_call e_real_Canon rfl ?_
 simp [F_real_Canon, binf, order_self b hb]
 refine bq_i (fun h => ?_) (fun h => ?_) <;> simp at h
 ·simp [canon_nan h]
 ·simp [canon_num h]
theorem c_real_Key (b : Nat) (hb : b < 18446744073709551616) (sg) : LL.call n_real_Key [.f .f64 b] sg sg.length = some (.i .u64 (key b), sg, sg.length) := by
 refine wp_call e_real_Key rfl ?_
 have hc := canon_lt hb
 have e1 := u64_and (canon b) 9223372036854775808 hc (by omega)
 have e2 := u64_or (canon b) 9223372036854775808 hc (by omega)
 have e3 := u64_not (canon b) hc
 rw [and_sign _ hc] at e1
 simp at e1 e2
 by_cases h : 9223372036854775808 ≤ canon b
 ·rw [if_pos h] at e1
  simp [F_real_Key, c_real_Canon b hb, e1, IntKind.signed, IntKind.max, IntKind.bits, e3, key, keyC, h]
 ·rw [if_neg h] at e1
  rw [or_sign _ (by omega)] at e2
  simp [F_real_Key, c_real_Canon b hb, e1, e2, key, keyC, h]
theorem c_real_Cmp (a b : Nat) (ha : a < 18446744073709551616) (hb : b < 18446744073709551616) (sg) : LL.call n_real_Cmp [.f .f64 a, .f .f64 b] sg sg.length = some (.i .i64 (cmpN (key a) (key b)), sg, sg.length) := by
 refine wp_call e_real_Cmp rfl ?_
 simp [F_real_Cmp, c_real_Key a ha, c_real_Key b hb]
 repeat' (refine bq_i (fun h => ?_) (fun h => ?_) <;> (have h' := h) <;> (try simp at h') <;> simp [h, h'])
 all_goals (simp [cmpN, *] <;> omega)
theorem c_ref03_Bits (b : Nat) (hb : b < 18446744073709551616) (sg) : LL.call n_c_ref03_Bits [.i .u64 b] sg sg.length = some (.i .u64 (canon b), sg, sg.length) := by
 refine wp_call e_c_ref03_Bits rfl ?_
 have e : (b : Int).tmod 9223372036854775808 = ((b % 9223372036854775808 : Nat) : Int) := by rw [Int.tmod_eq_emod_of_nonneg (by omega)]; simp
 simp [F_c_ref03_Bits, e]
 refine bq_i (fun h => ?_) (fun h => ?_) <;> simp at h
 ·simp [canon_nan (b := b) (by omega)]
 ·simp [canon_num (b := b) (by omega)]
theorem c_ref03_Key (b : Nat) (hb : b < 18446744073709551616) (sg) : LL.call n_c_ref03_Key [.i .u64 b] sg sg.length = some (.i .u64 (key b), sg, sg.length) := by
 refine wp_call e_c_ref03_Key rfl ?_
 have hc := canon_lt hb
 simp [F_c_ref03_Key, c_ref03_Bits b hb]
 refine bq_i (fun h => ?_) (fun h => ?_) <;> simp at h <;> simp
 ·rw [wrapu64 (by omega)]; simp [key, keyC]; rw [if_pos (by omega)]; omega
 ·rw [wrapu64 (by omega)]; simp [key, keyC]; rw [if_neg (by omega)]; omega
theorem c_ref03_Cmp (a b : Nat) (ha : a < 18446744073709551616) (hb : b < 18446744073709551616) (sg) : LL.call n_c_ref03_Cmp [.i .u64 a, .i .u64 b] sg sg.length = some (.i .i64 (cmpN (key a) (key b)), sg, sg.length) := by
 refine wp_call e_c_ref03_Cmp rfl ?_
 simp [F_c_ref03_Cmp, c_ref03_Key a ha, c_ref03_Key b hb]
 repeat' (refine bq_i (fun h => ?_) (fun h => ?_) <;> (try simp at h) <;> simp [h, c_ref03_Key a ha, c_ref03_Key b hb])
 all_goals (simp [cmpN, *] <;> omega)
theorem c_law03_F (b : Nat) (sg) : LL.call n_c_law03_F [.i .u64 b] sg sg.length = some (.f .f64 b, sg, sg.length) := by
 refine wp_call e_c_law03_F rfl ?_
 simp [F_c_law03_F]
end Go.AM

namespace Go.AM
class Flat {α : Type} (e : α → D) : Prop where
 fz : ∀ x, D.fz (e x) = e x
 zz : ∀ x, D.zz (e x) = e x
 nr : ∀ n x, D.nr n (e x) = true
theorem fzs_flat {α : Type} (e : α → D) [h : Flat e] : ∀ l : List α, D.fzs (l.map e) = l.map e
 | [] => rfl
 | x :: l => by simp only [List.map_cons, D.fzs, h.fz, fzs_flat e l]
theorem zzs_flat {α : Type} (e : α → D) [h : Flat e] : ∀ l : List α, D.zzs (l.map e) = l.map e
 | [] => rfl
 | x :: l => by simp only [List.map_cons, D.zzs, h.zz, zzs_flat e l]
theorem nrs_flat {α : Type} (e : α → D) [h : Flat e] (n : Nat) : ∀ l : List α, D.nrs n (l.map e) = true
 | [] => rfl
 | x :: l => by simp only [List.map_cons, D.nrs, h.nr, nrs_flat e n l, Bool.and_self]
attribute [simp] fzs_flat zzs_flat nrs_flat
theorem fzs_app : ∀ xs ys : List D, D.fzs (xs ++ ys) = D.fzs xs ++ D.fzs ys
 | [], ys => rfl
 | x :: xs, ys => by simp [D.fzs, fzs_app xs ys]
theorem zzs_app : ∀ xs ys : List D, D.zzs (xs ++ ys) = D.zzs xs ++ D.zzs ys
 | [], ys => rfl
 | x :: xs, ys => by simp [D.zzs, zzs_app xs ys]
theorem nrs_app (n : Nat) : ∀ xs ys : List D, D.nrs n (xs ++ ys) = (D.nrs n xs && D.nrs n ys)
 | [], ys => by simp [D.nrs]
 | x :: xs, ys => by simp [D.nrs, nrs_app n xs ys, Bool.and_assoc]
theorem fzs_take : ∀ (n : Nat) (xs : List D), D.fzs (xs.take n) = (D.fzs xs).take n
 | 0, _ => rfl
 | n + 1, [] => rfl
 | n + 1, x :: xs => by simp [D.fzs, fzs_take n xs]
theorem fzs_drop : ∀ (n : Nat) (xs : List D), D.fzs (xs.drop n) = (D.fzs xs).drop n
 | 0, _ => rfl
 | n + 1, [] => rfl
 | n + 1, x :: xs => by simp [D.fzs, fzs_drop n xs]
theorem zzs_take : ∀ (n : Nat) (xs : List D), D.zzs (xs.take n) = (D.zzs xs).take n
 | 0, _ => rfl
 | n + 1, [] => rfl
 | n + 1, x :: xs => by simp [D.zzs, zzs_take n xs]
theorem zzs_drop : ∀ (n : Nat) (xs : List D), D.zzs (xs.drop n) = (D.zzs xs).drop n
 | 0, _ => rfl
 | n + 1, [] => rfl
 | n + 1, x :: xs => by simp [D.zzs, zzs_drop n xs]
theorem fzs_set : ∀ (n : Nat) (d : D) (xs : List D), D.fzs (xs.set n d) = (D.fzs xs).set n d.fz
 | 0, d, [] => rfl
 | 0, d, x :: xs => rfl
 | n + 1, d, [] => rfl
 | n + 1, d, x :: xs => by simp [D.fzs, fzs_set n d xs]
theorem zzs_set : ∀ (n : Nat) (d : D) (xs : List D), D.zzs (xs.set n d) = (D.zzs xs).set n d.zz
 | 0, d, [] => rfl
 | 0, d, x :: xs => rfl
 | n + 1, d, [] => rfl
 | n + 1, d, x :: xs => by simp [D.zzs, zzs_set n d xs]
attribute [simp] fzs_set zzs_set
attribute [simp] fzs_app zzs_app nrs_app fzs_take fzs_drop zzs_take zzs_drop
instance (k : IntKind) : Flat (D.i k) := ⟨fun _ => rfl, fun _ => rfl, fun _ _ => rfl⟩
instance : Flat D.s := ⟨fun _ => rfl, fun _ => rfl, fun _ _ => rfl⟩
instance : Flat D.b := ⟨fun _ => rfl, fun _ => rfl, fun _ _ => rfl⟩
def eL {α : Type} (sz : Nat) (e : α → D) (l : List α) : D := .l .z sz (l.map e)
instance {α : Type} (sz : Nat) (e : α → D) [h : Flat e] : Flat (eL sz e) := ⟨fun _ => rfl, fun l => by simp [eL], fun n l => by simp [eL]⟩
structure It where
 p : Nat
 v : Int
 deriving DecidableEq, Inhabited
def It.ok (x : It) : Prop := x.p < 18446744073709551616 ∧ -9223372036854775808 ≤ x.v ∧ x.v ≤ 9223372036854775807
def It.canon (x : It) : It := ⟨AM.canon x.p, x.v⟩
def eI (x : It) : D := .a [.f .f64 x.p, .i .i64 x.v]
def eR (x : It) : D := .a [.i .u64 x.p, .i .i64 x.v]
instance : Flat eI := ⟨fun _ => rfl, fun _ => rfl, fun _ _ => rfl⟩
instance : Flat eR := ⟨fun _ => rfl, fun _ => rfl, fun _ _ => rfl⟩
attribute [simp] eI eR
def cmpV (a b : Int) : Int := if a < b then -1 else if a > b then 1 else 0
def cmpI (x y : It) : Int := if cmpN (key x.p) (key y.p) ≠ 0 then cmpN (key x.p) (key y.p) else cmpV x.v y.v
theorem c_pile_Item_Canon (x : It) (h : x.ok) (sg) : LL.call n_pile_Item_Canon [eI x] sg sg.length = some (eI x.canon, sg, sg.length) := by
 refine wp_call e_pile_Item_Canon rfl ?_
 simp [F_pile_Item_Canon, c_real_Canon x.p h.1, It.canon]
theorem c_pile_Item_Cmp (x y : It) (hx : x.ok) (hy : y.ok) (sg) : LL.call n_pile_Item_Cmp [eI x, eI y] sg sg.length = some (.i .i64 (cmpI x y), sg, sg.length) := by
 refine wp_call e_pile_Item_Cmp rfl ?_
 simp [F_pile_Item_Cmp, c_real_Cmp x.p y.p hx.1 hy.1]
 repeat' (refine bq_i (fun h => ?_) (fun h => ?_) <;> (have h' := h) <;> (try simp at h') <;> simp [h, h'])
 all_goals simp [cmpI, cmpV, *]
 all_goals omega
theorem c_law04_Own (x : It) (sg) : LL.call n_c_law04_Own [eR x] sg sg.length = some (eI x, sg, sg.length) := by
 refine wp_call e_c_law04_Own rfl ?_
 simp [F_c_law04_Own, c_law03_F]
theorem c_law04_Bits (x : It) (h : x.ok) (sg) : LL.call n_c_law04_Bits [eI x] sg sg.length = some (.i .u64 (canon x.p), sg, sg.length) := by
 refine wp_call e_c_law04_Bits rfl ?_
 simp [F_c_law04_Bits, c_ref03_Bits x.p h.1]
theorem c_ref04_Cmp (x y : It) (hx : x.ok) (hy : y.ok) (sg) : LL.call n_c_ref04_Cmp [eR x, eR y] sg sg.length = some (.i .i64 (cmpI x y), sg, sg.length) := by
 refine wp_call e_c_ref04_Cmp rfl ?_
 simp [F_c_ref04_Cmp, c_ref03_Cmp x.p y.p hx.1 hy.1]
 repeat' (refine bq_i (fun h => ?_) (fun h => ?_) <;> (have h' := h) <;> (try simp at h') <;> simp [h, h'])
 all_goals simp [cmpI, cmpV, *]
 all_goals omega
end Go.AM

namespace Go.AM
structure Cl where
 v : Nat
 n : Int
 l : List It
 deriving DecidableEq, Inhabited
structure Mem where
 cs : List Cl
 ck : Nat
def eC (c : Cl) : D := .a [.i .u64 c.v, .i .i64 c.n, .l .o 2 (c.l.map eI)]
def eMem (m : Mem) : List D := [.l .x 3 (m.cs.map eC), .i .u64 m.ck]
def zC : Cl := ⟨0, 0, []⟩
def rdM (m : Mem) (i : Int) : Cl := if 0 ≤ i then (m.cs[i.toNat]?).getD zC else zC
def Cl.ok (c : Cl) : Prop := c.l.length ≤ 1000000
def padM (cs : List Cl) (i : Nat) : List Cl := cs ++ List.replicate (i + 1 - cs.length) zC
def wrB (m : Mem) (i : Int) (ver : Nat) : Bool := decide (0 ≤ i ∧ i < 1000 ∧ (rdM m i).v = ver)
def putM (m : Mem) (i : Nat) (n : Int) (l : List It) : Mem := ⟨(padM m.cs i).set i ⟨m.ck + 1, n, l⟩, m.ck + 1⟩
def wrM (m : Mem) (i : Int) (ver : Nat) (n : Int) (l : List It) : Mem := if wrB m i ver then putM m i.toNat n l else m
end Go.AM

namespace Go.AM
theorem i64_mask (i : Nat) (hi : i ≤ 62) (x : Int) : bits .and .i64 x (2 ^ i - 1) = x % 2 ^ i := by
 have hpos : 0 < 2 ^ i := Nat.two_pow_pos i
 have hlt : 2 ^ i ≤ 2 ^ 62 := Nat.pow_le_pow_right (by decide) hi
 have hc : ((2 : Int) ^ i - 1) = ((2 ^ i - 1 : Nat) : Int) := by rw [Int.natCast_sub hpos]; simp
 rw [hc]
 show IntKind.i64.wrap ((BitVec.ofInt 64 x &&& BitVec.ofInt 64 ((2 ^ i - 1 : Nat) : Int) : BitVec 64).toNat : Int) = _
 rw [BitVec.ofInt_natCast, BitVec.toNat_and, BitVec.toNat_ofNat, Nat.mod_eq_of_lt (show 2 ^ i - 1 < 2 ^ 64 by omega), Nat.and_two_pow_sub_one_eq_mod]
 have e1 : ((BitVec.ofInt 64 x).toNat : Int) = x % 2 ^ 64 := by rw [BitVec.toNat_ofInt]; omega
 have hd : (2 : Int) ^ i ∣ 2 ^ 64 := by
  have := Nat.pow_dvd_pow 2 (show i ≤ 64 by omega)
  exact_mod_cast this
 have e2 : (((BitVec.ofInt 64 x).toNat % 2 ^ i : Nat) : Int) = x % 2 ^ i := by
  rw [Int.natCast_emod, e1, Int.natCast_pow]
  exact Int.emod_emod_of_dvd x hd
 rw [e2, wrap64]
 have := Int.emod_nonneg x (show (2 : Int) ^ i ≠ 0 by exact_mod_cast Nat.pos_iff_ne_zero.1 hpos)
 have h3 := Int.emod_lt_of_pos x (show (0 : Int) < 2 ^ i by exact_mod_cast hpos)
 have h4 : (2 : Int) ^ i ≤ 2 ^ 62 := by exact_mod_cast hlt
 constructor
 ·omega
 ·have : (2 : Int) ^ 62 = 4611686018427387904 := by decide
  omega
theorem i64_255 (x : Int) : bits .and .i64 x 255 = x % 256 := i64_mask 8 (by decide) x
theorem i64_7 (x : Int) : bits .and .i64 x 7 = x % 8 := i64_mask 3 (by decide) x
def legal (k p : Int) : Int := if k < 1 ∨ k > 4 then 6 else if p < 1 ∨ p > 16 ∨ (k = 4 ∧ p ≠ 1 ∧ p ≠ 2 ∧ p ≠ 4 ∧ p ≠ 8 ∧ p ≠ 16) then 5 else 0
theorem pow2_16 (p : Int) (h1 : 1 ≤ p) (h2 : p ≤ 16) : bits .and .i64 p (IntKind.i64.wrap (p - 1)) = 0 ↔ (p = 1 ∨ p = 2 ∨ p = 4 ∨ p = 8 ∨ p = 16) := by
 have : p = 1 ∨ p = 2 ∨ p = 3 ∨ p = 4 ∨ p = 5 ∨ p = 6 ∨ p = 7 ∨ p = 8 ∨ p = 9 ∨ p = 10 ∨ p = 11 ∨ p = 12 ∨ p = 13 ∨ p = 14 ∨ p = 15 ∨ p = 16 := by omega
 rcases this with rfl | rfl | rfl | rfl | rfl | rfl | rfl | rfl | rfl | rfl | rfl | rfl | rfl | rfl | rfl | rfl <;> decide
theorem c_op_Legal (k p : Int) (sg) : LL.call n_op_Legal [.i .i64 k, .i .i64 p] sg sg.length = some (.i .i64 (legal k p), sg, sg.length) := by
 refine wp_call e_op_Legal rfl ?_
 simp [F_op_Legal]
 repeat' (refine bq_i (fun h => ?_) (fun h => ?_) <;> (have h' := h) <;> (try simp at h') <;> simp [h, h'])
 all_goals unfold legal
 ·rw [if_pos (by omega)]
 ·rw [if_pos (by omega)]
 ·rw [if_neg (by omega), if_pos (by omega)]
 ·rw [if_neg (by omega), if_pos (by omega)]
 ·rename_i a b c d e f g hh i j
  have := pow2_16 p (by omega) (by omega)
  rw [if_neg (by omega), if_pos]
  omega
 ·rename_i a b c d e f g hh i j
  have := pow2_16 p (by omega) (by omega)
  rw [if_neg (by omega), if_neg]
  omega
 ·rw [if_neg (by omega), if_neg (by omega)]
def kindOf (k : Int) : Int := 1 + k % 4
def paramOf (k p : Int) : Int := if kindOf k = 4 then 2 ^ (p % 256 % 5).toNat else 1 + p % 16
theorem kindOf_le (k : Int) : 1 ≤ kindOf k ∧ kindOf k ≤ 4 := by unfold kindOf; omega
theorem paramOf_le (k p : Int) : 1 ≤ paramOf k p ∧ paramOf k p ≤ 16 := by
 unfold paramOf
 split
 ·have : (p % 256 % 5).toNat = 0 ∨ (p % 256 % 5).toNat = 1 ∨ (p % 256 % 5).toNat = 2 ∨ (p % 256 % 5).toNat = 3 ∨ (p % 256 % 5).toNat = 4 := by omega
  rcases this with h | h | h | h | h <;> rw [h] <;> decide
 ·omega
theorem legal_kind (k p : Int) : legal (kindOf k) (paramOf k p) = 0 := by
 have h1 := kindOf_le k
 have h2 := paramOf_le k p
 unfold legal
 rw [if_neg (by omega), if_neg]
 rintro (h | h | ⟨h, h'⟩)
 ·omega
 ·omega
 ·unfold paramOf at h'
  rw [if_pos h] at h'
  have : (p % 256 % 5).toNat = 0 ∨ (p % 256 % 5).toNat = 1 ∨ (p % 256 % 5).toNat = 2 ∨ (p % 256 % 5).toNat = 3 ∨ (p % 256 % 5).toNat = 4 := by omega
  rcases this with h | h | h | h | h <;> rw [h] at h' <;> revert h' <;> decide
theorem tmod_nn (a b : Int) (h : 0 ≤ a) : a.tmod b = a % b := Int.tmod_eq_emod_of_nonneg h
theorem c_law12_Kind (k p : Int) (sg) : LL.call n_c_law12_Kind [.i .i64 k, .i .i64 p] sg sg.length = some (.t [.i .i64 (kindOf k), .i .i64 (paramOf k p)], sg, sg.length) := by
 refine wp_call e_c_law12_Kind rfl ?_
 have e1 : (k % 256).tmod 4 = k % 4 := by rw [tmod_nn _ _ (by omega)]; omega
 have e2 : (p % 256).tmod 5 = p % 256 % 5 := tmod_nn _ _ (by omega)
 have e3 : (p % 256).tmod 16 = p % 16 := by rw [tmod_nn _ _ (by omega)]; omega
 have e4 : IntKind.i64.wrap (1 + k % 4) = kindOf k := wrap64 (by omega)
 have e5 : IntKind.i64.wrap (1 + p % 16) = 1 + p % 16 := wrap64 (by omega)
 simp [F_c_law12_Kind, i64_255, e1, e4]
 refine bq_i (fun h => ?_) (fun h => ?_) <;> (have h' := h) <;> (try simp at h') <;> simp [h, h', i64_255, e2, e3, e5]
 ·refine ⟨by omega, ?_⟩
  have e6 : min (p % 256 % 5).toNat IntKind.i64.bits = (p % 256 % 5).toNat := by simp [IntKind.bits]; omega
  rw [e6, paramOf, if_pos h']
  refine wrap64 ?_
  have : (p % 256 % 5).toNat = 0 ∨ (p % 256 % 5).toNat = 1 ∨ (p % 256 % 5).toNat = 2 ∨ (p % 256 % 5).toNat = 3 ∨ (p % 256 % 5).toNat = 4 := by omega
  rcases this with h | h | h | h | h <;> rw [h] <;> decide
 ·simp [paramOf, h']
end Go.AM

namespace Go.AM
def shapeOf (k p : Int) : Int × Int := if k = 1 then (p, 0) else if k = 2 then (1, 0) else if k = 3 then (0, p) else if k = 4 then (0, 1) else (0, 0)
end Go.AM

namespace Go.AM
def ordered : List It → Bool
 | x :: y :: r => decide (0 ≤ cmpI y x) && ordered (y :: r)
 | _ => true
def orderE (k : Int) (l : List It) : Int := if k = 1 then (if 62 < l.length then 3 else if ordered l then 0 else 14) else 0
structure Im where
 k : Int
 p : Int
 c : Int
 ls : List (List It)
 cs : List Int
def eIm (x : Im) : D := .a [.i .i64 x.k, .i .i64 x.p, .i .u64 x.c, .l .z 1 (x.ls.map (eL 2 eI)), .l .z 1 (x.cs.map (.i .i64))]
def eRm (x : Im) : D := .a [.i .i64 x.k, .i .i64 x.p, .i .u64 x.c, .l .z 1 (x.ls.map (eL 2 eR)), .l .z 1 (x.cs.map (.i .i64))]
def Im.ok (x : Im) : Prop := (∀ l ∈ x.ls, ∀ y ∈ l, y.ok) ∧ (∀ n ∈ x.cs, -9223372036854775808 ≤ n ∧ n ≤ 9223372036854775807) ∧ (x.ls.map List.length).sum ≤ 1099511627776
def ordersE (k : Int) : List (List It) → Int
 | [] => 0
 | l :: r => if orderE k l ≠ 0 then orderE k l else ordersE k r
def badN (n : Int) : Bool := n < 0 || n > 1125899906842624
def countsE (l : List Int) : Int := if l.any badN || l.sum > 1125899906842624 then 4 else 0
def checkI (x : Im) : Int :=
 if legal x.k x.p ≠ 0 then legal x.k x.p else
 if (x.ls.length : Int) ≠ (shapeOf x.k x.p).1 ∨ (x.cs.length : Int) ≠ (shapeOf x.k x.p).2 then 2 else
 if ordersE x.k x.ls ≠ 0 then ordersE x.k x.ls else
 if (x.ls.map List.length).sum > 1000 then 3 else countsE x.cs
theorem legal_k {k p : Int} (h : legal k p = 0) : 1 ≤ k ∧ k ≤ 4 := by
 unfold legal at h
 split at h
 ·cases h
 ·omega
theorem cmpI_swap (x y : It) : cmpI y x = - cmpI x y := by
 unfold cmpI cmpV cmpN
 repeat' split
 all_goals omega
end Go.AM

namespace Go.AM
def ltI (x y : It) : Prop := key x.p < key y.p ∨ (key x.p = key y.p ∧ x.v < y.v)
instance (x y : It) : Decidable (ltI x y) := by unfold ltI; infer_instance
theorem cmpI_lt (x y : It) : cmpI x y < 0 ↔ ltI x y := by unfold cmpI cmpN cmpV ltI; repeat' split; all_goals omega
theorem cmpI_ge (x y : It) : 0 ≤ cmpI x y ↔ ¬ ltI x y := by rw [← cmpI_lt]; omega
theorem ltI_trans' {x y z : It} (h1 : ¬ ltI y x) (h2 : ¬ ltI z y) : ¬ ltI z x := by unfold ltI at *; omega
def backN (x : It) (l : List It) : Nat → Nat
 | 0 => 0
 | n + 1 => match l[n]? with
  | some y => if ltI x y then backN x l n else n + 1
  | none => n + 1
def insI (x : It) (l : List It) : List It := l.take (backN x l l.length) ++ x :: l.drop (backN x l l.length)
def sortI (l : List It) : List It := l.foldl (fun o x => insI x o) []
theorem backN_le (x : It) (l : List It) : ∀ n, backN x l n ≤ n
 | 0 => by simp [backN]
 | n + 1 => by
  unfold backN
  split
  ·split
   ·have := backN_le x l n; omega
   ·omega
  ·omega
theorem insI_len (x : It) (l : List It) : (insI x l).length = l.length + 1 := by
 have := backN_le x l l.length
 simp [insI]; omega
theorem sortI_len (l : List It) : (sortI l).length = l.length := by
 have : ∀ (l o : List It), (l.foldl (fun o x => insI x o) o).length = o.length + l.length := by
  intro l
  induction l with
  | nil => simp
  | cons x l ih => intro o; simp only [List.foldl_cons, ih, insI_len, List.length_cons]; omega
 have h := this l []
 simp only [List.length_nil, Nat.zero_add, List.nil_append] at h
 exact h
theorem insI_perm (x : It) (l : List It) : (insI x l).Perm (x :: l) := by
 unfold insI
 refine List.perm_middle.trans ?_
 rw [List.take_append_drop]
theorem sortI_perm (l : List It) : (sortI l).Perm l := by
 have : ∀ (l o : List It), (l.foldl (fun o x => insI x o) o).Perm (o ++ l) := by
  intro l
  induction l with
  | nil => simp
  | cons x l ih =>
   intro o
   simp only [List.foldl_cons]
   refine (ih (insI x o)).trans ?_
   refine ((insI_perm x o).append_right l).trans ?_
   exact List.perm_middle.symm
 have h := this l []
 simp only [List.length_nil, Nat.zero_add, List.nil_append] at h
 exact h
theorem ordered_pw : ∀ l : List It, ordered l = true ↔ l.Pairwise (fun a b => ¬ ltI b a)
 | [] => by simp [ordered]
 | [x] => by simp [ordered]
 | x :: y :: r => by
  have ih := ordered_pw (y :: r)
  simp only [ordered, Bool.and_eq_true, decide_eq_true_eq, ih, cmpI_ge]
  constructor
  ·rintro ⟨h1, h2⟩
   refine List.pairwise_cons.2 ⟨fun z hz => ?_, h2⟩
   rcases List.mem_cons.1 hz with rfl | hz
   ·exact h1
   ·exact ltI_trans' h1 ((List.pairwise_cons.1 h2).1 z hz)
  ·intro h
   have h' := List.pairwise_cons.1 h
   exact ⟨h'.1 y (by simp), h'.2⟩
theorem backN_above (x : It) (l : List It) : ∀ n, n ≤ l.length → ∀ j, backN x l n ≤ j → j < n → ∀ y, l[j]? = some y → ltI x y
 | 0 => by omega
 | n + 1 => by
  intro hn j h1 h2 y hy
  have q : l[n]? = some l[n] := List.getElem?_eq_getElem (by omega)
  rw [backN, q] at h1
  simp only at h1
  split at h1
  ·by_cases e : j = n
   ·subst e; rw [q] at hy; cases hy; assumption
   ·exact backN_above x l n (by omega) j h1 (by omega) y hy
  ·omega
theorem backN_below (x : It) (l : List It) : ∀ n, n ≤ l.length → 0 < backN x l n → ∃ y, l[backN x l n - 1]? = some y ∧ ¬ ltI x y
 | 0 => by simp [backN]
 | n + 1 => by
  intro hn h
  have q : l[n]? = some l[n] := List.getElem?_eq_getElem (by omega)
  rw [backN, q] at h ⊢
  simp only at h ⊢
  split
  ·rename_i e
   rw [if_pos e] at h
   exact backN_below x l n (by omega) h
  ·exact ⟨_, q, by assumption⟩
theorem insI_ordered (x : It) (l : List It) (h : ordered l = true) : ordered (insI x l) = true := by
 rw [ordered_pw] at h ⊢
 have hle := backN_le x l l.length
 unfold insI
 refine List.pairwise_append.2 ⟨h.sublist (List.take_sublist _ _), List.pairwise_cons.2 ⟨fun y hy => ?_, h.sublist (List.drop_sublist _ _)⟩, fun a ha b hb => ?_⟩
 ·obtain ⟨j, hj⟩ := List.mem_iff_getElem?.1 hy
  rw [List.getElem?_drop] at hj
  have : backN x l l.length + j < l.length := (List.getElem?_eq_some_iff.1 hj).1
  have := backN_above x l l.length (by omega) _ (by omega) this y hj
  unfold ltI at *; omega
 ·have hax : ¬ ltI x a := by
   obtain ⟨j, hj⟩ := List.mem_iff_getElem?.1 ha
   rw [List.getElem?_take] at hj
   split at hj
   ·rename_i hlt
    obtain ⟨y, hy, hxy⟩ := backN_below x l l.length (by omega) (by omega)
    by_cases e : j = backN x l l.length - 1
    ·subst e; rw [hj] at hy; cases hy; exact hxy
    ·obtain ⟨p1, q1⟩ := List.getElem?_eq_some_iff.1 hj
     obtain ⟨p2, q2⟩ := List.getElem?_eq_some_iff.1 hy
     have := List.pairwise_iff_getElem.1 h j (backN x l l.length - 1) p1 p2 (by omega)
     rw [q1, q2] at this
     exact ltI_trans' this hxy
   ·cases hj
  rcases List.mem_cons.1 hb with rfl | hb
  ·exact hax
  ·have : a ∈ l.take (backN x l l.length) := ha
   have h2 := List.take_append_drop (backN x l l.length) l
   rw [← h2] at h
   exact (List.pairwise_append.1 h).2.2 a ha b hb
theorem sortI_ordered (l : List It) : ordered (sortI l) = true := by
 have : ∀ (l o : List It), ordered o = true → ordered (l.foldl (fun o x => insI x o) o) = true := by
  intro l
  induction l with
  | nil => exact fun o h => h
  | cons x l ih => exact fun o h => ih _ (insI_ordered x o h)
 exact this l [] rfl
end Go.AM

namespace Go.AM
def eLK {α : Type} (K : K) (sz : Nat) (e : α → D) (l : List α) : D := .l K sz (l.map e)
theorem zzs_eLK {α : Type} (K : K) (sz : Nat) (e : α → D) [Flat e] : ∀ l : List (List α), D.zzs (l.map (eLK K sz e)) = l.map (eL sz e)
 | [] => rfl
 | x :: l => by simp [D.zzs, zzs_eLK K sz e l, eLK, eL]
theorem fzs_eLK {α : Type} (K : K) (hK : K = .o ∨ K = .x) (sz : Nat) (e : α → D) [Flat e] : ∀ l : List (List α), D.fzs (l.map (eLK K sz e)) = l.map (eL sz e)
 | [] => rfl
 | x :: l => by
  have ih := fzs_eLK K hK sz e l
  rcases hK with rfl | rfl <;> simp only [List.map_cons, D.fzs, ih] <;> simp [eLK, eL]
theorem fzs_eLo {α : Type} (sz : Nat) (e : α → D) [Flat e] (l : List (List α)) : D.fzs (l.map (eLK .o sz e)) = l.map (eL sz e) := fzs_eLK _ (.inl rfl) sz e l
theorem fzs_eLx {α : Type} (sz : Nat) (e : α → D) [Flat e] (l : List (List α)) : D.fzs (l.map (eLK .x sz e)) = l.map (eL sz e) := fzs_eLK _ (.inr rfl) sz e l
attribute [simp] zzs_eLK fzs_eLo fzs_eLx eL eLK
def eImK (K1 K2 K3 : K) (x : Im) : D := .a [.i .i64 x.k, .i .i64 x.p, .i .u64 x.c, .l K1 1 (x.ls.map (eLK K2 2 eI)), .l K3 1 (x.cs.map (.i .i64))]
theorem zz_eImK (K1 K2 K3 : K) (x : Im) : D.zz (eImK K1 K2 K3 x) = eIm x := by simp [eImK, eIm]
attribute [simp] zz_eImK
structure Raw where
 k : Int
 p : Int
 c : Int
 is : List It
 cs : List Int
 sp : Int
def eRaw (x : Raw) : D := .a [.i .i64 x.k, .i .i64 x.p, .i .u64 x.c, .l .z 2 (x.is.map eR), .l .z 1 (x.cs.map (.i .i64)), .i .i64 x.sp]
def Raw.ok (x : Raw) : Prop := (∀ y ∈ x.is, y.ok) ∧ (0 ≤ x.c ∧ x.c < 18446744073709551616) ∧ (-9223372036854775808 ≤ x.sp ∧ x.sp ≤ 9223372036854775807)
def dealI (n : Nat) : List (List It) → Nat → List It → List (List It)
 | a, _, [] => a
 | a, i, x :: r => dealI n (a.set (i % n) ((a[i % n]?).getD [] ++ [x.canon])) (i + 1) r
def makeCs (m : Nat) (cs : List Int) : List Int := (List.range m).map fun i => match cs[i]? with
 | some n => n % 1099511627776
 | none => 0
def makeI (x : Raw) : Im :=
 let k := kindOf x.k
 let p := paramOf x.k x.p
 let n := (shapeOf k p).1.toNat
 let ls := dealI n (List.replicate n []) 0 (if n = 0 then [] else x.is.take 60)
 ⟨k, p, x.c, if k = 1 then ls.map sortI else ls, makeCs (shapeOf k p).2.toNat x.cs⟩
end Go.AM

namespace Go.AM
def eRmK (K1 K2 K3 : K) (x : Im) : D := .a [.i .i64 x.k, .i .i64 x.p, .i .u64 x.c, .l K1 1 (x.ls.map (eLK K2 2 eR)), .l K3 1 (x.cs.map (.i .i64))]
theorem zz_eRmK (K1 K2 K3 : K) (x : Im) : D.zz (eRmK K1 K2 K3 x) = eRm x := by simp [eRmK, eRm]
attribute [simp] zz_eRmK
def toldI (x : Im) : Im := { x with ls := x.ls.map (·.map It.canon) }
def Im.small (x : Im) : Prop := x.ls.length ≤ 1099511627776 ∧ x.cs.length ≤ 1099511627776 ∧ ∀ l ∈ x.ls, l.length ≤ 1099511627776
end Go.AM

namespace Go.AM
end Go.AM

namespace Go.AM
theorem map_eq_iff {α β γ : Type} (f : α → γ) (g : β → γ) (a : List α) (b : List β) (hl : a.length = b.length) : a.map f = b.map g ↔ ∀ i, ∀ (h : i < a.length), f a[i] = g (b[i]'(hl ▸ h)) := by
 constructor
 ·intro h i hi
  have h1 : (a.map f)[i]? = (b.map g)[i]? := by rw [h]
  rw [List.getElem?_map, List.getElem?_map, List.getElem?_eq_getElem hi, List.getElem?_eq_getElem (hl ▸ hi)] at h1
  simpa using h1
 ·intro h
  apply List.ext_getElem (by simp [hl])
  intro i h1 h2
  simp at h1
  simp [h i h1]
theorem cmpI_zero {x y : It} (hx : x.ok) (hy : y.ok) : cmpI x y = 0 ↔ x.canon = y.canon := by
 have h1 : cmpN (key x.p) (key y.p) = 0 ↔ AM.canon x.p = AM.canon y.p := by
  constructor
  ·intro h
   refine keyC_inj (canon_lt hx.1) (canon_lt hy.1) ?_
   show key x.p = key y.p
   unfold cmpN at h
   split at h
   ·omega
   ·split at h <;> omega
  ·intro h
   have : key x.p = key y.p := by unfold key; rw [h]
   unfold cmpN; rw [this]; simp
 unfold It.canon cmpI
 by_cases h : AM.canon x.p = AM.canon y.p
 ·rw [if_neg (by simp [h1.2 h])]
  simp only [h, It.mk.injEq, true_and]
  unfold cmpV
  split
  ·omega
  ·split <;> omega
 ·have : cmpN (key x.p) (key y.p) ≠ 0 := fun h2 => h (h1.1 h2)
  rw [if_pos this]
  simp [h, this]
theorem c_law04_Is (x y : It) (sg) : LL.call n_c_law04_Is [eI x, eR y] sg sg.length = some (.i .i64 (if x = y then 0 else -1), sg, sg.length) := by
 refine wp_call e_c_law04_Is rfl ?_
 have hxy : x = y ↔ x.p = y.p ∧ x.v = y.v := by cases x; cases y; simp
 by_cases h1 : x.p = y.p
 ·have b1 : ((x.p : Int) != y.p) = false := by simp [h1]
  by_cases h2 : x.v = y.v
  ·have b2 : (x.v != y.v) = false := by simp [h2]
   have : x = y := hxy.2 ⟨h1, h2⟩
   simp [F_c_law04_Is, b1, b2]
   simp [this]
  ·have b2 : (x.v != y.v) = true := by simpa using h2
   have : ¬ x = y := fun h => h2 (hxy.1 h).2
   simp [F_c_law04_Is, b1, b2]
   simp [this]
 ·have b1 : ((x.p : Int) != y.p) = true := by simp; omega
  have : ¬ x = y := fun h => h1 (hxy.1 h).1
  simp [F_c_law04_Is, b1]
  simp [this]
theorem c_law04_Are (a b : List It) (ha : a.length ≤ 1099511627776) (sg) : LL.call n_c_law04_Are [.l .z 2 (a.map eI), .l .z 2 (b.map eR)] sg sg.length = some (.i .i64 (if a = b then 0 else -1), sg, sg.length) := by
 refine wp_call e_c_law04_Are rfl ?_
 by_cases hl : a.length = b.length
 ·have b0 : ((a.length : Int) != b.length) = false := by simp; omega
  have hiff := map_eq_iff id id a b hl
  simp only [List.map_id, id] at hiff
  simp [F_c_law04_Are, b0]
  refine wc_up a.length (fun i => ⟨[(0, .v (.l .z 2 (a.map eI))), (1, .v (.l .z 2 (b.map eR))), (12, .v (.i .i64 b.length)), (13, .v (.i .i64 i))], [], sg, sg.length⟩) (fun i => ∀ j, j < i → ∀ (h : j < a.length), a[j] = b[j]) ?_ ?_ 0 (by omega) (by omega)
  ·intro i hi hp ih
   have hib : i < b.length := by omega
   have hi' : (i : Int) < b.length := by omega
   have hi2 : (i : Int) < a.length := by omega
   have h1 := c_law04_Is a[i] b[i] sg
   have w1 : IntKind.i64.wrap ((i : Int) + 1) = i + 1 := wrap64 (by omega)
   simp at h1
   by_cases he : a[i] = b[i]
   ·rw [if_pos he] at h1
    simp [hi', hib, hi, hi2, h1]
    have := ih (fun j hj h => by
     by_cases e : j = i
     ·subst e; exact he
     ·exact hp j (by omega) h)
    simpa [w1] using this
   ·rw [if_neg he] at h1
    have : ¬ a = b := fun h => he (hiff.1 h i hi)
    simp [hi', hib, hi, hi2, h1]
    simp [this]
  ·intro hp
   have : a = b := hiff.2 (fun i h => hp i h h)
   simp [← hl]
   simp [this]
 ·have b0 : ((a.length : Int) != b.length) = true := by simp; omega
  have : ¬ a = b := fun h => hl (by rw [h])
  simp [F_c_law04_Are, b0]
  simp [this]
instance : DecidableEq Im := fun x y => decidable_of_iff (x.k = y.k ∧ x.p = y.p ∧ x.c = y.c ∧ x.ls = y.ls ∧ x.cs = y.cs) (by cases x; cases y; simp)
end Go.AM

namespace Go.AM
end Go.AM

namespace Go.AM
structure Pt where
 at_ : Int
 n : Int
 l : List It
def ePt (p : Pt) : D := .a [.i .i64 p.at_, .i .i64 p.n, .l .z 2 (p.l.map eR)]
instance : Flat ePt := ⟨fun _ => rfl, fun p => by simp [ePt], fun n p => by simp [ePt]⟩
def Pt.ok (p : Pt) : Prop := 0 ≤ p.at_ ∧ p.at_ < 1000 ∧ p.l.length ≤ 1000000
def rdP : List Pt → Nat → Int → Cl → Cl
 | [], _, _, c => c
 | p :: ps, k, i, c => rdP ps (k + 1) i (if p.at_ = i then ⟨k + 1, p.n, p.l⟩ else c)
def memOf (ps : List Pt) : Mem := ps.foldl (fun m p => putM m p.at_.toNat p.n p.l) ⟨[], 0⟩
def lenP (ps : List Pt) : Int := ps.foldl (fun n p => max n (p.at_ + 1)) 0
end Go.AM

namespace Go.AM
def evL : List Nat → List Nat
 | x :: _ :: r => x :: evL r
 | l => l
def odL : List Nat → List Nat
 | _ :: y :: r => y :: odL r
 | _ => []
def mixL : List Nat → List Nat → List Nat
 | x :: xs, y :: ys => x :: y :: mixL xs ys
 | _, _ => []
def mergeG : Nat → List Nat → List Nat → List (Nat × Nat) × List Nat
 | 0, x, y => ([(x.headD 0, y.headD 0)], [x.headD 0, y.headD 0])
 | k + 1, x, y => ((mergeG k (evL x) (odL y)).1 ++ (mergeG k (odL x) (evL y)).1 ++ (mergeG k (evL x) (odL y)).2.zip (mergeG k (odL x) (evL y)).2,
     mixL (mergeG k (evL x) (odL y)).2 (mergeG k (odL x) (evL y)).2)
def countG : Nat → Nat → List (Nat × Nat) × List Nat
 | 0, a => ([], [a])
 | k + 1, a => ((countG k a).1 ++ (countG k (a + 2 ^ k)).1 ++ (mergeG k (countG k a).2 (countG k (a + 2 ^ k)).2).1, (mergeG k (countG k a).2 (countG k (a + 2 ^ k)).2).2)
def lgP (p : Nat) : Nat := if p = 1 then 0 else if p = 2 then 1 else if p = 4 then 2 else if p = 8 then 3 else 4
def gatesN (p : Nat) : List (Nat × Nat) := (countG (lgP p) 0).1
def outsN (p : Nat) : List Nat := (countG (lgP p) 0).2
def eG (g : Nat × Nat) : D := .a [.i .i64 g.1, .i .i64 g.2]
def eN (n : Nat) : D := .i .i64 n
instance : Flat eG := ⟨fun _ => rfl, fun p => by simp [eG], fun n p => by simp [eG]⟩
instance : Flat eN := ⟨fun _ => rfl, fun p => by simp [eN], fun n p => by simp [eN]⟩
def pairsN (p : Nat) : List Nat := (gatesN p).flatMap fun g => [g.1, g.2]
def widthN (p : Nat) : Prop := p = 1 ∨ p = 2 ∨ p = 4 ∨ p = 8 ∨ p = 16
def ePlan (K : AM.K) (p : Nat) : D := .a [.i .i64 p, .l K 2 ((gatesN p).map eG), .l K 1 ((outsN p).map eN)]
def eNetR (K K2 : AM.K) (p : Nat) : D := .a [.l K 1 ((pairsN p).map eN), .l K2 1 ((outsN p).map eN)]
def kW (p : Nat) : AM.K := if p = 1 then .o else .z
end Go.AM

namespace Go.AM
def hp (h : List It) : List D := [.l .x 2 (h.map eI)]
def swp (h : List It) (i j : Nat) : List It := (h.set i h[j]!).set j h[i]!
theorem c_items_Len {g : Nat} {h : List It} {sg : List (List D)} (hg : sg[g]? = some (hp h)) : LL.call n_pile_items_Len_q [.p g 0] sg sg.length = some (.i .i64 h.length, sg, sg.length) := by
 refine wp_callq (d0 := .l .x 2 (h.map eI)) e_pile_items_Len_q rfl hg rfl ?_
 simp [F_pile_items_Len_q, hg, hp, St.at, lenv]
theorem c_items_Less {g : Nat} {h : List It} {sg : List (List D)} (hg : sg[g]? = some (hp h)) (i j : Nat) (hi : i < h.length) (hj : j < h.length) (h1 : h[i].ok) (h2 : h[j].ok) :
    LL.call n_pile_items_Less_q [.p g 0, .i .i64 i, .i .i64 j] sg sg.length = some (.b (decide (cmpI h[i] h[j] < 0)), sg, sg.length) := by
 refine wp_callq (d0 := .l .x 2 (h.map eI)) e_pile_items_Less_q rfl hg rfl ?_
 have e := c_pile_Item_Cmp h[i] h[j] h1 h2 sg
 simp at e
 simp [F_pile_items_Less_q, hg, hp, St.at, hi, hj, e]
theorem c_items_Swap {g : Nat} {h : List It} {sg : List (List D)} (hg : sg[g]? = some (hp h)) (i j : Nat) (hi : i < h.length) (hj : j < h.length) :
    LL.call n_pile_items_Swap_q [.p g 0, .i .i64 i, .i .i64 j] sg sg.length = some (.t [], sg.set g (hp (swp h i j)), sg.length) := by
 refine wp_callq (d0 := .l .x 2 (h.map eI)) e_pile_items_Swap_q rfl hg rfl ?_
 have hlt : g < sg.length := by rw [List.getElem?_eq_some_iff] at hg; exact hg.1
 have hg2 : sg[g] = hp h := by rw [List.getElem?_eq_some_iff] at hg; exact hg.2
 have s3 : ((h.map eI).set i (.a [.f .f64 h[j].p, .i .i64 h[j].v]))[j]'(by simpa using hj) = .a [.f .f64 h[j].p, .i .i64 h[j].v] := by rw [List.getElem_set]; split <;> simp
 simp [F_pile_items_Swap_q, hg, s3, hg2, hp, St.at, hi, hj, hlt, swp, List.getElem?_set, St.setAt]
 rw [List.take_of_length_le (by simp)]
theorem m_Len : EE.meth t_pile_items_u "Len" = some n_pile_items_Len_q := by kernel_rfl
theorem m_Less : EE.meth t_pile_items_u "Less" = some n_pile_items_Less_q := by kernel_rfl
theorem m_Swap : EE.meth t_pile_items_u "Swap" = some n_pile_items_Swap_q := by kernel_rfl
theorem m_Pop : EE.meth t_pile_items_u "Pop" = some n_pile_items_Pop := by kernel_rfl
attribute [simp] m_Len m_Less m_Swap m_Pop
def dn (h : List It) (i n : Nat) : List It × Nat :=
 if hlt : 2 * i + 1 < n then
  if 2 * i + 2 < n ∧ cmpI h[2 * i + 2]! h[2 * i + 1]! < 0 then
   if cmpI h[2 * i + 2]! h[i]! < 0 then dn (swp h i (2 * i + 2)) (2 * i + 2) n else (h, i)
  else
   if cmpI h[2 * i + 1]! h[i]! < 0 then dn (swp h i (2 * i + 1)) (2 * i + 1) n else (h, i)
 else (h, i)
termination_by n - i
theorem swp_len (h : List It) (i j : Nat) : (swp h i j).length = h.length := by simp [swp]
theorem swp_mem {h : List It} {i j : Nat} (hi : i < h.length) (hj : j < h.length) {x : It} (hx : x ∈ swp h i j) : x ∈ h := by
 unfold swp at hx
 rcases List.mem_or_eq_of_mem_set hx with hx | rfl
 ·rcases List.mem_or_eq_of_mem_set hx with hx | rfl
  ·exact hx
  ·rw [getElem!_pos h j hj]; exact List.getElem_mem hj
 ·rw [getElem!_pos h i hi]; exact List.getElem_mem hi
theorem heap_down {g : Nat} {h : List It} {sg : List (List D)} (hg : g < sg.length) (i n : Nat) (hn : n ≤ h.length) (hi : i < 1000000000000) (hl : h.length < 1000000000000) (hok : ∀ x ∈ h, x.ok) :
    LL.call n_container_heap_down [.ic t_pile_items_u (.p g 0), .i .i64 i, .i .i64 n] (sg.set g (hp h)) (sg.set g (hp h)).length = some (.b (decide ((dn h i n).2 > i)), sg.set g (hp (dn h i n).1), (sg.set g (hp h)).length) := by
 generalize hr : dn h i n = r
 refine wp_call e_container_heap_down rfl ?_
 simp [F_container_heap_down]
 refine wc_ind (fun a : List It × Nat => ⟨[(0, .v (.ic t_pile_items_u (.p g 0))), (1, .v (.i .i64 i)), (2, .v (.i .i64 n)), (7, .v (.i .i64 a.2))], [], sg.set g (hp a.1), sg.length⟩) (fun a => n - a.2) (fun a => dn a.1 a.2 n = r ∧ a.1.length = h.length ∧ (∀ x ∈ a.1, x.ok) ∧ a.2 < 1000000000000) ?_ (h, i) ⟨hr, rfl, hok, hi⟩
 rintro ⟨h', i'⟩ ⟨p1, p2, p3, p4⟩ ih
 simp only at p1 p2 p3 p4 ih
 obtain ⟨q, hq⟩ : ∃ q, q = 2 * i' + 1 := ⟨_, rfl⟩
 obtain ⟨q1, hq1⟩ : ∃ q, q = 2 * i' + 2 := ⟨_, rfl⟩
 have w1 : IntKind.i64.wrap (IntKind.i64.wrap (2 * i') + 1) = (q : Int) := by
  have w0 : IntKind.i64.wrap (2 * (i' : Int)) = 2 * i' := wrap64 (by omega)
  rw [w0, wrap64 (by omega)]; omega
 have w2 : IntKind.i64.wrap ((q : Int) + 1) = (q1 : Int) := by rw [wrap64 (by omega)]; omega
 have hge : (sg.set g (hp h'))[g]? = some (hp h') := by simp [hg]
 simp [w1]
 have hi' : ∀ x ∈ h', x.ok := p3
 have gok : ∀ k (hk : k < h'.length), h'[k].ok := fun k hk => p3 _ (List.getElem_mem hk)
 refine bq_i (fun c1 => ?_) (fun c1 => ?_) <;> (have c1' := c1) <;> simp at c1'
 ·rw [dn, dif_neg (by omega)] at p1
  subst p1
  simp [c1]
  exact List.take_of_length_le (by simp)
 ·have hq2 : q < h'.length := by omega
  have hi2 : i' < h'.length := by omega
  simp [c1]
  refine bq_i (fun c2 => ?_) (fun c2 => ?_) <;> (have c2' := c2) <;> simp at c2'
  ·omega
  rw [dn, dif_pos (by omega), ← hq1, ← hq] at p1
  simp [c2, w2]
  refine bq_i (fun c3 => ?_) (fun c3 => ?_) <;> (have c3' := c3) <;> simp at c3'
  ·have hq3 : q1 < h'.length := by omega
   have L1 := c_items_Less hge q1 q hq3 hq2 (gok _ hq3) (gok _ hq2)
   simp at L1
   simp [c3, L1]
   refine bq_i (fun c4 => ?_) (fun c4 => ?_) <;> (have c4' := c4) <;> simp at c4'
   ·have L2 := c_items_Less hge q1 i' hq3 hi2 (gok _ hq3) (gok _ hi2)
    have S1 := c_items_Swap hge i' q1 hi2 hq3
    simp at L2 S1
    rw [if_pos ⟨by omega, by rw [getElem!_pos h' q1 hq3, getElem!_pos h' q hq2]; exact c4'⟩, getElem!_pos h' q1 hq3, getElem!_pos h' i' hi2] at p1
    simp [c4, L2]
    refine bq_i (fun c5 => ?_) (fun c5 => ?_) <;> (have c5' := c5) <;> simp at c5'
    ·rw [if_neg (by omega)] at p1
     subst p1
     simp [c5]
     exact List.take_of_length_le (by simp)
    ·rw [if_pos (by omega)] at p1
     simp [c5, S1]
     have := ih (swp h' i' q1, q1) (by simp; omega) ⟨p1, by rw [swp_len]; exact p2, fun x hx => p3 x (swp_mem hi2 hq3 hx), by simp; omega⟩
     simpa using this
   ·have L2 := c_items_Less hge q i' hq2 hi2 (gok _ hq2) (gok _ hi2)
    have S1 := c_items_Swap hge i' q hi2 hq2
    simp at L2 S1
    rw [if_neg (by rw [getElem!_pos h' q1 hq3, getElem!_pos h' q hq2]; omega), getElem!_pos h' q hq2, getElem!_pos h' i' hi2] at p1
    simp [c4, L2]
    refine bq_i (fun c5 => ?_) (fun c5 => ?_) <;> (have c5' := c5) <;> simp at c5'
    ·rw [if_neg (by omega)] at p1
     subst p1
     simp [c5]
     exact List.take_of_length_le (by simp)
    ·rw [if_pos (by omega)] at p1
     simp [c5, S1]
     have := ih (swp h' i' q, q) (by simp; omega) ⟨p1, by rw [swp_len]; exact p2, fun x hx => p3 x (swp_mem hi2 hq2 hx), by simp; omega⟩
     simpa using this
  ·have L1 := c_items_Less hge q i' hq2 hi2 (gok _ hq2) (gok _ hi2)
   have S1 := c_items_Swap hge i' q hi2 hq2
   simp at L1 S1
   rw [if_neg (by omega), getElem!_pos h' q hq2, getElem!_pos h' i' hi2] at p1
   simp [c3, L1]
   refine bq_i (fun c5 => ?_) (fun c5 => ?_) <;> (have c5' := c5) <;> simp at c5'
   ·rw [if_neg (by omega)] at p1
    subst p1
    simp [c5]
    exact List.take_of_length_le (by simp)
   ·rw [if_pos (by omega)] at p1
    simp [c5, S1]
    have := ih (swp h' i' q, q) (by simp; omega) ⟨p1, by rw [swp_len]; exact p2, fun x hx => p3 x (swp_mem hi2 hq2 hx), by simp; omega⟩
    simpa using this
end Go.AM

namespace Go.AM
theorem swp_perm {h : List It} {i j : Nat} (hi : i < h.length) (hj : j < h.length) : (swp h i j).Perm h := by
 unfold swp
 rw [getElem!_pos h i hi, getElem!_pos h j hj]
 exact List.set_set_perm hi hj
theorem dn_perm : ∀ (h : List It) (i n : Nat), n ≤ h.length → (dn h i n).1.Perm h := by
 intro h i n hn
 fun_induction dn h i n with
 | case1 h i h1 h2 h3 ih => exact (ih (by rw [swp_len]; exact hn)).trans (swp_perm (by omega) (by omega))
 | case2 h i h1 h2 h3 => exact .refl _
 | case3 h i h1 h2 h3 ih => exact (ih (by rw [swp_len]; exact hn)).trans (swp_perm (by omega) (by omega))
 | case4 h i h1 h2 h3 => exact .refl _
 | case5 h i h1 => exact .refl _
theorem dn_len (h : List It) (i n : Nat) (hn : n ≤ h.length) : (dn h i n).1.length = h.length := (dn_perm h i n hn).length_eq
def hini (h : List It) : Nat → List It
 | 0 => h
 | k + 1 => hini (dn h k h.length).1 k
theorem hini_perm : ∀ (k : Nat) (h : List It), (hini h k).Perm h
 | 0, h => .refl _
 | k + 1, h => (hini_perm k _).trans (dn_perm h k h.length (Nat.le_refl _))
theorem heap_Init {g : Nat} {h : List It} {sg : List (List D)} (hg : g < sg.length) (hl : h.length < 1000000000000) (hok : ∀ x ∈ h, x.ok) :
    LL.call n_container_heap_Init [.ic t_pile_items_u (.p g 0)] (sg.set g (hp h)) (sg.set g (hp h)).length = some (.t [], sg.set g (hp (hini h (h.length / 2))), (sg.set g (hp h)).length) := by
 generalize hr : hini h (h.length / 2) = r
 refine wp_call e_container_heap_Init rfl ?_
 have hge : (sg.set g (hp h))[g]? = some (hp h) := by simp [hg]
 have L0 := c_items_Len hge
 simp at L0
 have w1 : IntKind.i64.wrap (IntKind.i64.wrap ((h.length : Int) / 2) - 1) = ((h.length / 2 : Nat) : Int) - 1 := by
  rw [wrap64 (x := (h.length : Int) / 2) (by omega), wrap64 (by omega)]; omega
 simp [F_container_heap_Init, L0, w1]
 refine wc_ind (fun a : List It × Nat => ⟨[(0, .v (.ic t_pile_items_u (.p g 0))), (2, .v (.i .i64 h.length)), (3, .v (.i .i64 (a.2 - 1)))], [], sg.set g (hp a.1), sg.length⟩) (fun a => a.2) (fun a => hini a.1 a.2 = r ∧ a.1.length = h.length ∧ (∀ x ∈ a.1, x.ok) ∧ a.2 ≤ h.length) ?_ (h, h.length / 2) ⟨hr, rfl, hok, by simp; omega⟩
 rintro ⟨h', k⟩ ⟨p1, p2, p3, p4⟩ ih
 simp only at p1 p2 p3 p4 ih
 simp
 cases k with
 | zero =>
  subst p1
  refine bq_i (fun c1 => ?_) (fun c1 => ?_) <;> (have c1' := c1) <;> simp at c1'
  simp [c1, hini]
  exact List.take_of_length_le (by simp)
 | succ k =>
  have w2 : ((k + 1 : Nat) : Int) - 1 = k := by omega
  have w3 : IntKind.i64.wrap ((k : Int) - 1) = k - 1 := wrap64 (by omega)
  refine bq_i (fun c1 => ?_) (fun c1 => ?_) <;> (have c1' := c1) <;> simp at c1'
  ·have D1 := heap_down hg k h.length (by omega) (by omega) (by omega) p3
   simp at D1
   simp [c1, w2, D1, w3]
   rw [hini, p2] at p1
   have := ih ((dn h' k h.length).1, k) (by simp) ⟨p1, by rw [dn_len _ _ _ (by omega)]; exact p2, fun x hx => p3 x ((dn_perm _ _ _ (by omega)).mem_iff.1 hx), by simp; omega⟩
   simpa using this
  ·omega
def popH (h : List It) : It × List It := ((dn (swp h 0 (h.length - 1)) 0 (h.length - 1)).1[h.length - 1]!, (dn (swp h 0 (h.length - 1)) 0 (h.length - 1)).1.take (h.length - 1))
theorem items_Pop {g : Nat} {h : List It} {sg : List (List D)} (hg : g < sg.length) (h0 : h ≠ []) (hl : h.length < 1000000000000) :
    LL.call n_pile_items_Pop [.p g 0] (sg.set g (hp h)) (sg.set g (hp h)).length = some (.ic t_pile_Item (eI h[h.length - 1]!), sg.set g (hp (h.take (h.length - 1))), (sg.set g (hp h)).length) := by
 have hpos : 0 < h.length := List.length_pos_iff.2 h0
 have hn : ((h.length : Int) - 1) = ((h.length - 1 : Nat) : Int) := by omega
 have w1 : IntKind.i64.wrap ((h.length : Int) - 1) = ((h.length - 1 : Nat) : Int) := by rw [wrap64 (by omega)]; omega
 have hlt : h.length - 1 < h.length := by omega
 refine wp_call e_pile_items_Pop rfl ?_
 have hnr : D.nrs 0 ((h.map eI).take (h.length - 1)) = true := by rw [← List.map_take]; exact nrs_flat eI 0 _
 simp [F_pile_items_Pop, hg, hp, w1, St.at, hlt, h0, hnr]
 exact List.take_of_length_le (by simp)
theorem heap_Pop {g : Nat} {h : List It} {sg : List (List D)} (hg : g < sg.length) (h0 : h ≠ []) (hl : h.length < 1000000000000) (hok : ∀ x ∈ h, x.ok) :
    LL.call n_container_heap_Pop [.ic t_pile_items_u (.p g 0)] (sg.set g (hp h)) (sg.set g (hp h)).length = some (.ic t_pile_Item (eI (popH h).1), sg.set g (hp (popH h).2), (sg.set g (hp h)).length) := by
 have hpos : 0 < h.length := List.length_pos_iff.2 h0
 have w1 : IntKind.i64.wrap ((h.length : Int) - 1) = ((h.length - 1 : Nat) : Int) := by rw [wrap64 (by omega)]; omega
 have hge : (sg.set g (hp h))[g]? = some (hp h) := by simp [hg]
 have L0 := c_items_Len hge
 have S1 := c_items_Swap hge 0 (h.length - 1) hpos (by omega)
 have D1 := heap_down (h := swp h 0 (h.length - 1)) hg 0 (h.length - 1) (by rw [swp_len]; omega) (by omega) (by rw [swp_len]; exact hl) (fun x hx => hok x (swp_mem hpos (by omega) hx))
 have hlen : (dn (swp h 0 (h.length - 1)) 0 (h.length - 1)).1.length = h.length := by rw [dn_len _ _ _ (by rw [swp_len]; omega), swp_len]
 have P1 := items_Pop (h := (dn (swp h 0 (h.length - 1)) 0 (h.length - 1)).1) hg (by rw [← List.length_pos_iff, hlen]; exact hpos) (by omega)
 rw [hlen] at P1
 refine wp_call e_container_heap_Pop rfl ?_
 simp at L0 S1 D1 P1
 simp [F_container_heap_Pop, L0, w1, S1, D1, P1, popH]
 exact List.take_of_length_le (by simp)
theorem popH_perm {h : List It} (h0 : h ≠ []) : ((popH h).1 :: (popH h).2).Perm h := by
 have hpos : 0 < h.length := List.length_pos_iff.2 h0
 have hlen : (dn (swp h 0 (h.length - 1)) 0 (h.length - 1)).1.length = h.length := by rw [dn_len _ _ _ (by rw [swp_len]; omega), swp_len]
 have e : (popH h).2 ++ [(popH h).1] = (dn (swp h 0 (h.length - 1)) 0 (h.length - 1)).1 := by
  unfold popH
  simp only
  rw [getElem!_pos _ _ (by omega)]
  conv => rhs; rw [← List.take_append_drop (h.length - 1) (dn (swp h 0 (h.length - 1)) 0 (h.length - 1)).1]
  rw [List.drop_eq_getElem_cons (by omega), List.drop_eq_nil_of_le (by omega)]
 have p1 : ((popH h).1 :: (popH h).2).Perm ((popH h).2 ++ [(popH h).1]) := (List.perm_append_singleton _ _).symm
 rw [e] at p1
 exact p1.trans ((dn_perm _ _ _ (by rw [swp_len]; omega)).trans (swp_perm hpos (by omega)))
theorem popH_len {h : List It} (h0 : h ≠ []) : (popH h).2.length = h.length - 1 := by
 have := (popH_perm h0).length_eq
 simp at this; omega
def newH (l : List It) : List It := hini (l.map It.canon) (l.length / 2)
theorem canon_okI {x : It} (h : x.ok) : x.canon.ok := ⟨canon_lt h.1, h.2⟩
theorem newH_perm (l : List It) : (newH l).Perm (l.map It.canon) := hini_perm _ _
theorem newH_len (l : List It) : (newH l).length = l.length := by have := (newH_perm l).length_eq; simpa using this
theorem newH_ok {l : List It} (h : ∀ x ∈ l, x.ok) : ∀ x ∈ newH l, x.ok := by
 intro x hx
 have := (newH_perm l).mem_iff.1 hx
 obtain ⟨y, hy, rfl⟩ := List.mem_map.1 this
 exact canon_okI (h y hy)
theorem pile_New (l : List It) (hl : l.length < 1000000000000) (hok : ∀ x ∈ l, x.ok) (sg : List (List D)) :
    LL.call n_pile_New [.l .z 2 (l.map eI)] sg sg.length = some (.p sg.length 0, sg ++ [hp (newH l)], sg.length) := by
 generalize hr : newH l = r
 refine wp_call e_pile_New rfl ?_
 simp [F_pile_New]
 refine wc_up l.length (fun i => ⟨[(3, .v (.p sg.length 0)), (8, .v (.l .z 2 (l.map eI))), (9, .v (.i .i64 l.length)), (10, .v (.i .i64 i))], [], sg ++ [hp ((l.take i).map It.canon)], sg.length⟩) (fun _ => True) ?_ ?_ 0 (by omega) trivial
 ·intro i hi _ ih
  have w1 : IntKind.i64.wrap ((i : Int) + 1) = ((i + 1 : Nat) : Int) := by rw [wrap64 (by omega)]; omega
  have C1 : callpv LL n_pile_Item_Canon [eI l[i]] = some (eI l[i].canon) := callpv_of rfl (c_pile_Item_Canon l[i] (hok _ (List.getElem_mem hi)) [])
  have ih := ih trivial
  simp at C1
  have hlen : (i + 1 : Int) * 16 ≤ 140737488355328 := by omega
  simp [hi, C1, hp, w1]
  refine ⟨by omega, ?_⟩
  have e : ((l.take (i + 1)).map It.canon).map eI = List.take i (List.map (eI ∘ It.canon) l) ++ [.a [.f .f64 l[i].canon.p, .i .i64 l[i].canon.v]] := by
   simp only [List.map_map, List.map_take]
   rw [List.take_succ_eq_append_getElem (by simpa using hi)]; simp
  simp only [hp, e] at ih
  simpa using ih
 ·intro _
  have hg : sg.length < (sg ++ [hp (l.map It.canon)]).length := by simp
  have I1 := heap_Init (h := l.map It.canon) hg (by simpa using hl) (by
   intro x hx
   obtain ⟨y, hy, rfl⟩ := List.mem_map.1 hx
   exact canon_okI (hok y hy))
  simp at I1
  simp [I1]
  rw [← hr]; rfl
theorem pile_Take {g : Nat} {h : List It} {sg : List (List D)} (hg : g < sg.length) (hl : h.length < 1000000000000) (hok : ∀ x ∈ h, x.ok) :
    LL.call n_pile_Pile_Take [.p g 0] (sg.set g (hp h)) (sg.set g (hp h)).length = some (if h = [] then .t [eI ⟨0, 0⟩, .b false] else .t [eI (popH h).1, .b true], if h = [] then sg.set g (hp h) else sg.set g (hp (popH h).2), (sg.set g (hp h)).length) := by
 refine wp_call e_pile_Pile_Take rfl ?_
 by_cases h0 : h = []
 ·subst h0
  simp [F_pile_Pile_Take, hg, hp, St.at]
  exact List.take_of_length_le (by simp)
 ·have P1 := heap_Pop hg h0 hl hok
  simp [hp] at P1
  have hpos := List.length_pos_iff.2 h0
  simp [F_pile_Pile_Take, hg, hp, St.at, h0]
  refine bq_i (fun c => ?_) (fun c => ?_) <;> (have c' := c) <;> simp at c'
  ·exact absurd c' h0
  ·simp [c, P1]
   refine ⟨h0, ?_⟩
   rw [if_neg h0]
   exact List.take_of_length_le (by simp)
def allH (h : List It) : List It := if h0 : h = [] then [] else (popH h).1 :: allH (popH h).2
termination_by h.length
decreasing_by
 rw [popH_len h0]
 have := List.length_pos_iff.2 h0
 omega
theorem cps_eI : ∀ l : List It, D.cps (l.map eI) = some (l.map eI)
 | [] => rfl
 | x :: l => by simp [D.cps, D.cp, cps_eI l]
theorem popH_ok {h : List It} (h0 : h ≠ []) (hok : ∀ x ∈ h, x.ok) : (popH h).1.ok ∧ ∀ x ∈ (popH h).2, x.ok :=
 ⟨hok _ ((popH_perm h0).mem_iff.1 (by simp)), fun x hx => hok _ ((popH_perm h0).mem_iff.1 (by simp [hx]))⟩
theorem pile_All {g : Nat} {h : List It} {sg : List (List D)} (hg : sg[g]? = some (hp h)) (hl : h.length < 1000000000) (hok : ∀ x ∈ h, x.ok) :
    LL.call n_pile_Pile_All [.p g 0] sg sg.length = some (.l .o 2 ((allH h).map eI), sg, sg.length) := by
 generalize hr : allH h = r
 refine wp_call e_pile_Pile_All rfl ?_
 have hlt : g < sg.length := by rw [List.getElem?_eq_some_iff] at hg; exact hg.1
 have hg2 : sg[g] = hp h := by rw [List.getElem?_eq_some_iff] at hg; exact hg.2
 have hc := cps_eI h
 simp [F_pile_Pile_All, hg2, hp, St.at, hlt, hc]
 refine ⟨by omega, ?_⟩
 refine wc_ind (fun a : List It × List It => ⟨[(3, .v (.p sg.length 0)), (4, .v (.l .o 2 (a.2.map eI)))], [], sg ++ [hp a.1], sg.length⟩) (fun a => a.1.length) (fun a => a.2 ++ allH a.1 = r ∧ a.1.length + a.2.length < 1000000000 ∧ ∀ x ∈ a.1, x.ok) ?_ (h, []) ⟨by simpa using hr, by simpa using hl, hok⟩
 rintro ⟨h', acc⟩ ⟨p1, p2, p3⟩ ih
 simp only at p1 p2 p3 ih
 have T1 := pile_Take (g := sg.length) (h := h') (sg := sg ++ [hp h']) (by simp) (by omega) p3
 by_cases h0 : h' = []
 ·subst h0
  rw [allH, dif_pos rfl] at p1
  simp at p1 T1
  subst p1
  simp [T1]
 ·rw [allH, dif_neg h0] at p1
  simp [h0] at T1
  have := popH_len h0
  have hpos := List.length_pos_iff.2 h0
  have ih := ih ((popH h').2, acc ++ [(popH h').1]) (by simp; omega) ⟨by simpa using p1, by simp; omega, (popH_ok h0 p3).2⟩
  simp [T1]
  exact ⟨by omega, by simpa using ih⟩
theorem c_pile_Sorted (l : List It) (hl : l.length < 1000000000) (hok : ∀ x ∈ l, x.ok) (sg : List (List D)) :
    LL.call n_pile_Sorted [.l .z 2 (l.map eI)] sg sg.length = some (.l .o 2 ((allH (newH l)).map eI), sg, sg.length) := by
 have N1 := pile_New l (by omega) hok sg
 have A1 := pile_All (g := sg.length) (h := newH l) (sg := sg ++ [hp (newH l)]) (by simp) (by rw [newH_len]; exact hl) (newH_ok hok)
 refine wp_call e_pile_Sorted rfl ?_
 simp at N1 A1
 simp [F_pile_Sorted, N1, A1]
end Go.AM

namespace Go.AM
abbrev leI (a b : It) : Prop := ¬ ltI b a
theorem leI_refl (a : It) : leI a a := by unfold leI ltI; omega
theorem leI_trans {a b c : It} (h1 : leI a b) (h2 : leI b c) : leI a c := ltI_trans' h1 h2
theorem leI_of_lt {a b : It} (h : ltI a b) : leI a b := by unfold leI ltI at *; omega
theorem swp_get {h : List It} {i j : Nat} (hi : i < h.length) (hj : j < h.length) (k : Nat) : (swp h i j)[k]! = if k = j then h[i]! else if k = i then h[j]! else h[k]! := by
 unfold swp
 simp only [List.getElem!_eq_getElem?_getD, List.getElem?_set, List.length_set]
 by_cases e : j = k
 ·subst e; simp [hj]
 ·rw [if_neg e, if_neg (Ne.symm e)]
  by_cases e2 : i = k
  ·subst e2; simp [hi]
  ·rw [if_neg e2, if_neg (Ne.symm e2)]
def HP (h : List It) (s n : Nat) : Prop := ∀ j, 1 ≤ j → j < n → s ≤ (j - 1) / 2 → leI h[(j - 1) / 2]! h[j]!
def PreH (h : List It) (i s n : Nat) : Prop := s ≤ i ∧ (∀ j, 1 ≤ j → j < n → s ≤ (j - 1) / 2 → (j - 1) / 2 ≠ i → leI h[(j - 1) / 2]! h[j]!) ∧
 (1 ≤ i → s ≤ (i - 1) / 2 → ∀ c, (c - 1) / 2 = i → 1 ≤ c → c < n → leI h[(i - 1) / 2]! h[c]!)
theorem pre_swp {h : List It} {i s n c : Nat} (hn : n ≤ h.length) (hp : PreH h i s n) (hc : c = 2 * i + 1 ∨ c = 2 * i + 2) (hcn : c < n) (hlt : ltI h[c]! h[i]!)
    (hsib : ∀ d, (d = 2 * i + 1 ∨ d = 2 * i + 2) → d < n → leI h[c]! h[d]!) : PreH (swp h i c) c s n := by
 obtain ⟨h1, h2, h3⟩ := hp
 have hi : i < h.length := by omega
 have hcl : c < h.length := by omega
 refine ⟨by omega, fun j j1 j2 j3 j4 => ?_, fun _ _ d d1 d2 d3 => ?_⟩
 ·rw [swp_get hi hcl, swp_get hi hcl, if_neg j4]
  by_cases e : j = c
  ·rw [if_pos e, if_pos (by omega)]
   exact leI_of_lt hlt
  ·rw [if_neg e]
   by_cases e2 : j = i
   ·rw [if_pos e2, if_neg (by omega)]
    subst e2
    exact h3 j1 j3 c (by omega) (by omega) hcn
   ·rw [if_neg e2]
    by_cases e3 : (j - 1) / 2 = i
    ·rw [if_pos e3]
     exact hsib j (by omega) j2
    ·rw [if_neg e3]
     exact h2 j j1 j2 j3 e3
 ·rw [swp_get hi hcl, swp_get hi hcl, if_neg (by omega), if_pos (by omega), if_neg (by omega), if_neg (by omega)]
  have := h2 d d2 d3 (by omega) (by omega)
  rw [d1] at this; exact this
theorem hp_stop {h : List It} {i s n : Nat} (hp : PreH h i s n) (hle : ∀ d, (d = 2 * i + 1 ∨ d = 2 * i + 2) → d < n → leI h[i]! h[d]!) : HP h s n := by
 intro j j1 j2 j3
 by_cases e : (j - 1) / 2 = i
 ·rw [e]; exact hle j (by omega) j2
 ·exact hp.2.1 j j1 j2 j3 e
theorem dn_hp {h : List It} {i n s : Nat} (hn : n ≤ h.length) (hp : PreH h i s n) : HP (dn h i n).1 s n := by
 fun_induction dn h i n with
 | case1 h i h1 h2 h3 ih =>
  refine ih (by rw [swp_len]; exact hn) (pre_swp hn hp (.inr rfl) h2.1 ((cmpI_lt _ _).1 h3) ?_)
  rintro d (rfl | rfl) hd
  ·exact leI_of_lt ((cmpI_lt _ _).1 h2.2)
  ·exact leI_refl _
 | case2 h i h1 h2 h3 =>
  refine hp_stop hp ?_
  have e3 : leI h[i]! h[2 * i + 2]! := (cmpI_ge _ _).1 (by omega)
  rintro d (rfl | rfl) hd
  ·exact leI_trans e3 (leI_of_lt ((cmpI_lt _ _).1 h2.2))
  ·exact e3
 | case3 h i h1 h2 h3 ih =>
  refine ih (by rw [swp_len]; exact hn) (pre_swp hn hp (.inl rfl) h1 ((cmpI_lt _ _).1 h3) ?_)
  rintro d (rfl | rfl) hd
  ·exact leI_refl _
  ·exact (cmpI_ge _ _).1 (Int.not_lt.1 (fun e => h2 ⟨hd, e⟩))
 | case4 h i h1 h2 h3 =>
  refine hp_stop hp ?_
  have e3 : leI h[i]! h[2 * i + 1]! := (cmpI_ge _ _).1 (by omega)
  rintro d (rfl | rfl) hd
  ·exact e3
  ·exact leI_trans e3 ((cmpI_ge _ _).1 (Int.not_lt.1 (fun e => h2 ⟨hd, e⟩)))
 | case5 h i h1 =>
  refine hp_stop hp ?_
  rintro d (rfl | rfl) hd <;> omega
theorem dn_above {h : List It} {i n : Nat} (hn : n ≤ h.length) (k : Nat) (hk : n ≤ k) : (dn h i n).1[k]! = h[k]! := by
 fun_induction dn h i n with
 | case1 h i h1 h2 h3 ih => rw [ih (by rw [swp_len]; exact hn), swp_get (by omega) (by omega), if_neg (by omega), if_neg (by omega)]
 | case2 h i h1 h2 h3 => rfl
 | case3 h i h1 h2 h3 ih => rw [ih (by rw [swp_len]; exact hn), swp_get (by omega) (by omega), if_neg (by omega), if_neg (by omega)]
 | case4 h i h1 h2 h3 => rfl
 | case5 h i h1 => rfl
theorem hini_hp : ∀ (k : Nat) (h : List It), HP h k h.length → HP (hini h k) 0 h.length
 | 0, h, hp => hp
 | k + 1, h, hp => by
  rw [hini]
  have e := dn_len h k h.length (Nat.le_refl _)
  have := hini_hp k (dn h k h.length).1 (by
   rw [e]
   refine dn_hp (Nat.le_refl _) ⟨Nat.le_refl _, fun j j1 j2 j3 j4 => hp j j1 j2 (by omega), fun h1 h2 => by omega⟩)
  rw [e] at this; exact this
theorem newH_hp (l : List It) : HP (newH l) 0 (newH l).length := by
 rw [newH_len]
 have := hini_hp (l.length / 2) (l.map It.canon) (fun j j1 j2 j3 => by simp at j2; omega)
 simpa [newH] using this
theorem hp_min {h : List It} {n : Nat} (hp : HP h 0 n) : ∀ k, k < n → leI h[0]! h[k]! := by
 intro k
 induction k using Nat.strongRecOn with
 | ind k ih =>
  intro hk
  by_cases e : k = 0
  ·subst e; exact leI_refl _
  ·exact leI_trans (ih ((k - 1) / 2) (by omega) (by omega)) (hp k (by omega) hk (Nat.zero_le _))
theorem popH_first {h : List It} (h0 : h ≠ []) : (popH h).1 = h[0]! := by
 have hpos : 0 < h.length := List.length_pos_iff.2 h0
 show (dn (swp h 0 (h.length - 1)) 0 (h.length - 1)).1[h.length - 1]! = _
 rw [dn_above (by rw [swp_len]; omega) _ (Nat.le_refl _), swp_get hpos (by omega), if_pos rfl]
theorem popH_hp {h : List It} (h0 : h ≠ []) (hp : HP h 0 h.length) : HP (popH h).2 0 (popH h).2.length := by
 have hpos : 0 < h.length := List.length_pos_iff.2 h0
 rw [popH_len h0]
 have e : HP (dn (swp h 0 (h.length - 1)) 0 (h.length - 1)).1 0 (h.length - 1) := by
  refine dn_hp (by rw [swp_len]; omega) ⟨Nat.le_refl _, fun j j1 j2 j3 j4 => ?_, fun h1 => by omega⟩
  rw [swp_get hpos (by omega), swp_get hpos (by omega), if_neg (by omega), if_neg (by omega), if_neg (by omega), if_neg (by omega)]
  exact hp j j1 (by omega) j3
 intro j j1 j2 j3
 have e2 : ∀ k, k < h.length - 1 → (popH h).2[k]! = (dn (swp h 0 (h.length - 1)) 0 (h.length - 1)).1[k]! := by
  intro k hk
  simp only [popH, List.getElem!_eq_getElem?_getD, List.getElem?_take, if_pos hk]
 rw [e2 _ (by omega), e2 _ j2]
 exact e j j1 j2 j3
theorem allH_perm (h : List It) : (allH h).Perm h := by
 fun_induction allH h with
 | case1 => exact .refl _
 | case2 h h0 ih => exact (ih.cons _).trans (popH_perm h0)
theorem allH_ordered (h : List It) (hp : HP h 0 h.length) : (allH h).Pairwise leI := by
 fun_induction allH h with
 | case1 => exact .nil
 | case2 h h0 ih =>
  refine List.pairwise_cons.2 ⟨fun y hy => ?_, ih (popH_hp h0 hp)⟩
  have hy2 : y ∈ h := (popH_perm h0).mem_iff.1 (List.mem_cons_of_mem _ ((allH_perm _).mem_iff.1 hy))
  obtain ⟨k, hk, rfl⟩ := List.mem_iff_getElem.1 hy2
  rw [popH_first h0]
  have := hp_min hp k hk
  rwa [getElem!_pos h k hk] at this
theorem leI_antisymm {a b : It} (ha : a.ok) (hb : b.ok) (ca : a.canon = a) (cb : b.canon = b) (h1 : leI a b) (h2 : leI b a) : a = b := by
 have : cmpI a b = 0 := by
  have e1 := (cmpI_ge a b).2 h2
  have e2 := (cmpI_ge b a).2 h1
  rw [cmpI_swap] at e2
  omega
 have := (cmpI_zero ha hb).1 this
 rwa [ca, cb] at this
theorem ordered_unique {l m : List It} (hl : ∀ x ∈ l, x.ok ∧ x.canon = x) (h1 : l.Pairwise leI) (h2 : m.Pairwise leI) (hp : l.Perm m) : l = m := by
 refine List.Perm.eq_of_pairwise (le := leI) (fun a b ha hb e1 e2 => ?_) h1 h2 hp
 have hb' := hl b (hp.mem_iff.2 hb)
 have ha' := hl a ha
 exact leI_antisymm ha'.1 hb'.1 ha'.2 hb'.2 e1 e2
theorem allH_sort (l : List It) (hok : ∀ x ∈ l, x.ok) : allH (newH l) = sortI (l.map It.canon) := by
 refine ordered_unique (fun x hx => ?_) (allH_ordered _ (newH_hp l)) ((ordered_pw _).1 (sortI_ordered _)) ?_
 ·have := (newH_perm l).mem_iff.1 ((allH_perm _).mem_iff.1 hx)
  obtain ⟨y, hy, rfl⟩ := List.mem_map.1 this
  exact ⟨canon_okI (hok y hy), by simp [It.canon, canon_canon]⟩
 ·exact (allH_perm _).trans ((newH_perm l).trans (sortI_perm _).symm)
theorem c_Sorted (l : List It) (hl : l.length < 1000000000) (hok : ∀ x ∈ l, x.ok) (sg : List (List D)) :
    LL.call n_pile_Sorted [.l .z 2 (l.map eI)] sg sg.length = some (.l .o 2 ((sortI (l.map It.canon)).map eI), sg, sg.length) := by
 rw [c_pile_Sorted l hl hok sg, allH_sort l hok]
end Go.AM

namespace Go.AM
structure Vl where
 k : Int
 is : List It
 n : Int
 deriving DecidableEq
def eVl (K : K) (v : Vl) : D := .a [.i .i64 v.k, .l K 2 (v.is.map eI), .i .i64 v.n]
def eVr (K : K) (v : Vl) : D := .a [.i .i64 v.k, .l K 2 (v.is.map eR), .i .i64 v.n]
def valI (x : Im) : Vl := ⟨x.k, if x.k = 1 then sortI (x.ls.flatten.map It.canon) else x.ls.flatten, x.cs.sum⟩
end Go.AM

namespace Go.AM
def withI (x : It) : List It → List It
 | [] => [x]
 | y :: l => if cmpI x y < 0 then x :: y :: l else y :: withI x l
theorem c_ref04_With (x : It) (l : List It) (hx : x.ok) (hl : ∀ y ∈ l, y.ok) (hn : l.length < 1000000000) (sg) :
    LL.call n_c_ref04_With [.l .z 2 (l.map eR), eR x] sg sg.length = some (.l .o 2 ((withI x l).map eR), sg, sg.length) := by
 generalize hr : withI x l = r
 refine wp_call e_c_ref04_With rfl ?_
 simp [F_c_ref04_With]
 refine wc_list l (fun i (a : List It × Bool) => ⟨[(3, .q (.ptr 3 0)), (5, .v (.l .o 2 (a.1.map eR))), (6, .v (.b a.2)), (10, .v (.l .z 2 (l.map eR))), (11, .v (.i .i64 l.length)), (12, .v (.i .i64 i))],
  [(3, [.i .u64 x.p, .i .i64 x.v])], sg, sg.length⟩) (fun rest a => a.1 ++ (if a.2 then rest else withI x rest) = r ∧ a.1.length + rest.length ≤ l.length + (if a.2 then 1 else 0)) ?_ ?_ ([], false) ⟨by simpa using hr, by simp⟩
 ·rintro i y rest ⟨o, b⟩ hi hlt ⟨h1, h2⟩ ih
  simp only at h1 h2
  simp at h2
  have w1 : IntKind.i64.wrap ((i : Int) + 1) = (i : Int) + 1 := wrap64 (by omega)
  have hlt' : (i : Int) < l.length := by omega
  have C1 := c_ref04_Cmp x y hx (hl _ (mem_of_get hi)) sg
  simp at C1
  cases b with
  | true =>
   simp at h1
   have ih := ih (o ++ [y], true) ⟨by simpa using h1, by simp at h2 ⊢; omega⟩
   simp at h2
   simp [hlt', hi, w1]
   exact ⟨by omega, by simpa using ih⟩
  | false =>
   simp [withI] at h1
   simp at h2
   simp [hlt', hi, w1, C1]
   refine bq_i (fun c => ?_) (fun c => ?_) <;> (have c' := c) <;> simp at c'
   ·rw [if_pos c'] at h1
    have ih := ih (o ++ [x] ++ [y], true) ⟨by simpa using h1, by simp; omega⟩
    simp [c, w1]
    exact ⟨by omega, by omega, by simpa using ih⟩
   ·rw [if_neg (by omega)] at h1
    have ih := ih (o ++ [y], false) ⟨by simpa using h1, by simp; omega⟩
    simp [c, w1]
    exact ⟨by omega, by simpa using ih⟩
 ·rintro ⟨o, b⟩ ⟨h1, h2⟩
  simp only at h1 h2
  simp at h2
  cases b with
  | true =>
   simp at h1
   subst h1
   simp
  | false =>
   simp [withI] at h1
   subst h1
   simp at h2
   simp
   omega
theorem withI_perm (x : It) : ∀ l : List It, (withI x l).Perm (x :: l)
 | [] => .refl _
 | y :: l => by
  unfold withI
  split
  ·exact .refl _
  ·exact ((withI_perm x l).cons y).trans (.swap x y l)
theorem withI_ordered (x : It) : ∀ l : List It, l.Pairwise leI → (withI x l).Pairwise leI
 | [], _ => by simp [withI]
 | y :: l, h => by
  obtain ⟨h1, h2⟩ := List.pairwise_cons.1 h
  unfold withI
  split
  ·rename_i hc
   have hxy : leI x y := leI_of_lt ((cmpI_lt _ _).1 hc)
   refine List.pairwise_cons.2 ⟨fun z hz => ?_, h⟩
   rcases List.mem_cons.1 hz with rfl | hz
   ·exact hxy
   ·exact leI_trans hxy (h1 z hz)
  ·rename_i hc
   have hyx : leI y x := (cmpI_ge _ _).1 (by omega)
   refine List.pairwise_cons.2 ⟨fun z hz => ?_, withI_ordered x l h2⟩
   rcases List.mem_cons.1 ((withI_perm x l).mem_iff.1 hz) with rfl | hz
   ·exact hyx
   ·exact h1 z hz
def withs (l : List It) (o : List It) : List It := l.foldl (fun o x => withI x o) o
end Go.AM

namespace Go.AM
structure Mem.good (m : Mem) : Prop where
 len : m.cs.length ≤ 1000
 ck : m.ck < 1000000000
 it : ∀ c ∈ m.cs, c.l.length ≤ 62 ∧ ∀ x ∈ c.l, x.ok
 num : ∀ c ∈ m.cs, -1125899906842624 ≤ c.n ∧ c.n ≤ 1125899906842624
 ver : ∀ c ∈ m.cs, c.v ≤ m.ck ∧ (c.n ≠ 0 → c.v ≠ 0)
 dis : ∀ i j : Nat, ∀ c d, m.cs[i]? = some c → m.cs[j]? = some d → c.v = d.v → c.v ≠ 0 → i = j
theorem Mem.good.ok {m : Mem} (h : m.good) : ∀ c ∈ m.cs, c.ok := fun c hc => by have := (h.it c hc).1; unfold Cl.ok; omega
def bagM (m : Mem) : Nat → List It
 | 0 => []
 | p + 1 => bagM m p ++ (rdM m p).l
def sumM (m : Mem) (f : Nat) : Nat → Int
 | 0 => 0
 | p + 1 => sumM m f p + (rdM m ((f + p : Nat) : Int)).n
def fullM (m : Mem) : List Cl := (m.cs.drop 2).filter (fun c => c.n == 1)
def lineM (m : Mem) : List It := ((fullM m).mergeSort (fun a b => decide (a.v ≤ b.v))).flatMap (·.l)
def eCz (c : Cl) : D := .a [.i .u64 c.v, .i .i64 c.n, .l .z 2 (c.l.map eI)]
end Go.AM

namespace Go.AM
theorem call_lib {E : En} {f : FuncId} {ds : List D} {d : D} {sg : List (List D)} (hn : E.fn f = none) (hl : E.lib f ds = some d) : (lim E).call f ds sg sg.length = some (d, sg, sg.length) :=
 call_of (by unfold stepCall; simp [hn, hl])
def clnK (l : List It) : K := if l.length = 0 then .n else .x
theorem c_slices_Clone (l : List It) (h : l.length ≤ 1000000) (sg) : LL.call n_slices_Clone_pile_Item_pile_Item [.l .z 2 (l.map eI)] sg sg.length = some (.l (clnK l) 2 (l.map eI), sg, sg.length) := by
 refine call_lib (by kernel_rfl) ?_
 rw [show EE.lib = libL from rfl]
 have : clnD (l.map eI) = .l (clnK l) 2 (l.map eI) := by
  unfold clnD clnK
  cases l <;> simp
 unfold libL
 rw [if_neg (by decide), if_pos (by decide)]
 simp only [clnL]
 rw [if_pos (by simp; omega), this]
theorem c_slices_Delete (l : List It) (i : Nat) (hi : i < l.length) (sg) : LL.call n_slices_Delete_pile_Item_pile_Item [.l .x 2 (l.map eI), .i .i64 i, .i .i64 ((i : Int) + 1)] sg sg.length = some (.l .x 2 ((l.eraseIdx i).map eI), sg, sg.length) := by
 refine call_lib (by kernel_rfl) ?_
 rw [show EE.lib = libL from rfl]
 unfold libL
 rw [if_pos (by decide)]
 have e1 : ((i : Int) + 1).toNat = i + 1 := by omega
 have e2 : l.eraseIdx i = l.take i ++ l.drop (i + 1) := List.eraseIdx_eq_take_drop_succ l i
 simp only [delL]
 rw [if_pos ⟨by omega, by omega, by simp; omega⟩, e1, e2]
 simp
end Go.AM

namespace Go.AM
theorem wc_lst {α β : Type} {B : C} {Q : Rs → Prop} {s : St} (l : List α) (st : Nat → β → St) (P : Nat → List α → β → Prop) (b : β) (hs : s = st 0 b) (hb : P 0 l b)
    (h : ∀ i x r b (hi : i < l.length), l[i] = x → P i (x :: r) b → (∀ b', P (i + 1) r b' → @WC (.loop B) (st (i + 1) b') ⟨Q⟩ trivial) → @WC B (st i b) ⟨fun r => @SqQ (.loop B) ⟨Q⟩ r trivial⟩ trivial)
    (he : ∀ b, P l.length [] b → @WC B (st l.length b) ⟨fun r => @SqQ (.loop B) ⟨Q⟩ r trivial⟩ trivial) : @WC (.loop B) s ⟨Q⟩ trivial := by
 rw [hs]
 refine wc_ind (fun a : Nat × β => st a.1 a.2) (fun a => l.length - a.1) (fun a => a.1 ≤ l.length ∧ P a.1 (l.drop a.1) a.2) ?_ (0, b) ⟨by simp, by simpa using hb⟩
 rintro ⟨i, b⟩ ⟨h1, h2⟩ ih
 simp only at h1 h2 ih ⊢
 rcases Nat.lt_or_eq_of_le h1 with h3 | h3
 ·rw [List.drop_eq_getElem_cons h3] at h2
  exact h i l[i] _ b h3 rfl h2 (fun b' hb' => ih (i + 1, b') (by simp; omega) ⟨h3, hb'⟩)
 ·subst h3; rw [List.drop_length] at h2; exact he b h2
theorem c_without_1 (x y : It) (hx : x.ok) (hy : y.ok) (sg) (r : Nat) (hr : sg[r]? = some [.f .f64 x.p, .i .i64 x.v]) :
    LL.call n_value_Value_without_1 [eI y, .p r 0] sg sg.length = some (.b (decide (x.canon = y.canon)), sg, sg.length) := by
 refine wp_call e_value_Value_without_1 rfl ?_
 have h1 := c_pile_Item_Cmp x y hx hy sg
 simp at h1
 simp [F_value_Value_without_1, hr, h1]
 have hz := cmpI_zero hx hy
 by_cases h : cmpI x y = 0
 ·simp [h, hz.1 h]
 ·have h2 : ¬ x.canon = y.canon := fun h' => h (hz.2 h')
  simp [h, h2]
def findI (x : It) : List It → Nat → Int
 | [], _ => -1
 | y :: l, i => if x.canon = y.canon then i else findI x l (i + 1)
theorem c_IndexFunc (x : It) (hx : x.ok) (l : List It) (hl : ∀ y ∈ l, y.ok) (hn : l.length ≤ 1099511627776) (sg) (r : Nat) (hr : sg[r]? = some [.f .f64 x.p, .i .i64 x.v]) :
    LL.call n_slices_IndexFunc_pile_Item_pile_Item [.l .z 2 (l.map eI), .fn n_value_Value_without_1 [.p r 0]] sg sg.length = some (.i .i64 (findI x l 0), sg, sg.length) := by
 generalize hT : findI x l 0 = T
 refine wp_call e_slices_IndexFunc_pile_Item_pile_Item rfl ?_
 simp [F_slices_IndexFunc_pile_Item_pile_Item]
 refine wc_lst l (fun i (_ : Unit) => ⟨[(0, .v (.l .z 2 (l.map eI))), (1, .v (.fn n_value_Value_without_1 [.p r 0])), (7, .v (.i .i64 l.length)), (8, .v (.i .i64 i))], [], sg, sg.length⟩)
  (fun i rest _ => findI x rest i = T) () (by simp) hT ?_ ?_
 ·rintro i y rest _ hlt hx1 h1 ih
  have hlt' : (i : Int) < l.length := by omega
  have hy := hl y (by rw [← hx1]; exact List.getElem_mem _)
  have C1 := c_without_1 x y hx hy sg r hr
  have w1 : IntKind.i64.wrap ((i : Int) + 1) = i + 1 := wrap64 (by omega)
  simp at C1
  unfold findI at h1
  by_cases hc : x.canon = y.canon
  ·rw [if_pos hc] at h1
   subst h1
   simp [hlt, hlt', hx1, C1, hc]
  ·rw [if_neg hc] at h1
   have ih := ih () h1
   simp at ih
   simp [hlt, hlt', hx1, C1, hc, w1]
   exact ih
 ·intro _ h1
  simp [findI] at h1
  subst h1
  simp
theorem findI_rng (x : It) : ∀ (l : List It) (i : Nat), findI x l i = -1 ∨ ∃ j : Nat, findI x l i = ((i + j : Nat) : Int) ∧ j < l.length
 | [], i => .inl rfl
 | y :: l, i => by
  unfold findI
  split
  ·exact .inr ⟨0, by simp, by simp⟩
  ·rcases findI_rng x l (i + 1) with h | ⟨j, h, hj⟩
   ·exact .inl h
   ·exact .inr ⟨j + 1, by rw [h]; omega, by simp; omega⟩
def outI (x : It) (l : List It) (most : Int) : Option (List It) := if findI x l 0 < 0 ∨ most ≤ findI x l 0 then none else some (l.eraseIdx (findI x l 0).toNat)
theorem c_value_without (v : Vl) (x : It) (hx : x.ok) (most : Int) (hl : ∀ y ∈ v.is, y.ok) (hn : v.is.length ≤ 1000000) (sg) :
    LL.call n_value_Value_without [eVl .z v, eI x, .i .i64 most] sg sg.length = some (.t [match outI x v.is most with | some l => eVl .o ⟨v.k, l, v.n⟩ | none => eVl .z v, .b (outI x v.is most).isSome], sg, sg.length) := by
 generalize hT : outI x v.is most = T
 refine wp_call e_value_Value_without rfl ?_
 have hg : (sg ++ [[D.f .f64 x.p, D.i .i64 x.v]])[sg.length]? = some [.f .f64 x.p, .i .i64 x.v] := by simp
 have I1 := c_IndexFunc x hx v.is hl (by omega) (sg ++ [[.f .f64 x.p, .i .i64 x.v]]) sg.length hg
 have C1 := c_slices_Clone v.is hn (sg ++ [[.f .f64 x.p, .i .i64 x.v]])
 have C2 := c_slices_Clone v.is hn sg
 have hr := findI_rng x v.is 0
 unfold outI at hT
 generalize findI x v.is 0 = f at *
 simp at I1 C1 C2
 by_cases h1 : f < 0
 ·rw [if_pos (.inl h1)] at hT
  subst hT
  simp [F_value_Value_without, eVl, I1, h1]
 ·by_cases h2 : most ≤ f
  ·rw [if_pos (.inr h2)] at hT
   subst hT
   simp [F_value_Value_without, eVl, I1, h1, h2]
  ·rw [if_neg (by omega)] at hT
   obtain ⟨j, hj, hjl⟩ : ∃ j : Nat, f = j ∧ j < v.is.length := by
    rcases hr with h | ⟨j, h, hj⟩
    ·omega
    ·exact ⟨j, by simpa using h, hj⟩
   subst hj
   have hK : clnK v.is = .x := by unfold clnK; rw [if_neg (by omega)]
   have D1 := fun sg => c_slices_Delete v.is j hjl sg
   have D1a := D1 sg
   have D1b := D1 (sg ++ [[.f .f64 x.p, .i .i64 x.v]])
   have w1 : IntKind.i64.wrap ((j : Int) + 1) = j + 1 := wrap64 (by omega)
   simp at D1a D1b hT
   rw [hK] at C1 C2
   subst hT
   simp [F_value_Value_without, eVl, I1, h1, h2, C1, C2, D1a, D1b, w1]
end Go.AM

namespace Go.AM
def ofM (k : Int) (p : Nat) (m : Mem) : Vl :=
 if k = 1 then ⟨1, sortI ((bagM m p).map It.canon), 0⟩ else if k = 2 then ⟨2, lineM m, 0⟩ else if k = 3 then ⟨3, [], sumM m 0 p⟩ else ⟨4, [], sumM m (gatesN p).length p⟩
end Go.AM

namespace Go.AM
theorem c_ref12_same (x y : It) (hx : x.ok) (hy : y.ok) (sg) : LL.call n_c_ref12_same [eR x, eR y] sg sg.length = some (.b (decide (x.canon = y.canon)), sg, sg.length) := by
 refine wp_call e_c_ref12_same rfl ?_
 have h1 := c_ref04_Cmp x y hx hy sg
 simp at h1
 simp [F_c_ref12_same, h1]
 have hz := cmpI_zero hx hy
 by_cases h : cmpI x y = 0
 ·simp [h, hz.1 h]
 ·have h2 : ¬ x.canon = y.canon := fun h' => h (hz.2 h')
  simp [h, h2]
theorem c_ref12_Without (l : List It) (i : Nat) (hi : i < l.length) (hn : l.length ≤ 1000000) (sg) : LL.call n_c_ref12_Without [.l .z 2 (l.map eR), .i .i64 i] sg sg.length = some (.l .o 2 ((l.eraseIdx i).map eR), sg, sg.length) := by
 refine wp_call e_c_ref12_Without rfl ?_
 have e2 : l.eraseIdx i = l.take i ++ l.drop (i + 1) := List.eraseIdx_eq_take_drop_succ l i
 have w1 : IntKind.i64.wrap ((i : Int) + 1) = i + 1 := wrap64 (by omega)
 have h1 : ((i : Int) + 1) ≤ l.length := by omega
 have h2 : (i : Int) ≤ l.length := by omega
 have h3 : i ≤ l.length := by omega
 have h4 : i + 1 ≤ l.length := by omega
 have e3 : ((i : Int) + 1).toNat = i + 1 := by omega
 simp [F_c_ref12_Without, w1, h1, h2, h3, h4, e3, e2]
 have ht : List.take l.length (l.map eR) = l.map eR := by
  have := List.take_length (l := l.map eR)
  rwa [List.length_map] at this
 exact ⟨by omega, by omega, by omega, by rw [ht]⟩
end Go.AM

namespace Go.AM
def opA (k : Int) : Int := 2 * k - 1
def opN (k : Int) : Int := if k = 4 then 1 else 2
theorem c_op_Of4 (k : Int) (hk : 1 ≤ k ∧ k ≤ 4) (sg) : LL.call n_op_Of [.i .i64 k] sg sg.length = some (.l .o 1 (if k = 4 then [.i .i64 7] else [.i .i64 (2 * k - 1), .i .i64 (2 * k)]), sg, sg.length) := by
 have : k = 1 ∨ k = 2 ∨ k = 3 ∨ k = 4 := by omega
 rcases this with rfl | rfl | rfl | rfl
 all_goals
  refine wp_call e_op_Of rfl ?_
  simp [F_op_Of]
theorem c_ref06_Of (k : Int) (hk : 1 ≤ k ∧ k ≤ 4) (sg) : LL.call n_c_ref06_Of [.i .i64 k] sg sg.length = some (.t [.i .i64 (2 * k - 1), .i .i64 (if k = 4 then 7 else 2 * k)], sg, sg.length) := by
 have : k = 1 ∨ k = 2 ∨ k = 3 ∨ k = 4 := by omega
 rcases this with rfl | rfl | rfl | rfl
 all_goals
  refine wp_call e_c_ref06_Of rfl ?_
  simp [F_c_ref06_Of]
theorem c_op_Check_ok (k o : Int) (hk : 1 ≤ k ∧ k ≤ 4) (ho : 2 * k - 1 ≤ o ∧ o ≤ if k = 4 then 7 else 2 * k) (p : Nat) (v a b : Int) (hv : o = 5 → 0 ≤ v ∧ v ≤ 4294967296) (sg) :
    LL.call n_op_Op_Check [.a [.i .i64 o, .f .f64 p, .i .i64 v, .i .i64 a, .i .i64 b], .i .i64 k] sg sg.length = some (.i .i64 0, sg, sg.length) := by
 have O := c_op_Of4 k hk sg
 have w1 : IntKind.i64.wrap 1 = 1 := by decide
 refine wp_call e_op_Op_Check rfl ?_
 have hc : (k = 1 ∧ (o = 1 ∨ o = 2)) ∨ (k = 2 ∧ (o = 3 ∨ o = 4)) ∨ (k = 3 ∧ (o = 5 ∨ o = 6)) ∨ (k = 4 ∧ o = 7) := by
  have : k = 1 ∨ k = 2 ∨ k = 3 ∨ k = 4 := by omega
  rcases this with rfl | rfl | rfl | rfl <;> simp at ho <;> omega
 rcases hc with ⟨rfl, rfl | rfl⟩ | ⟨rfl, rfl | rfl⟩ | ⟨rfl, rfl | rfl⟩ | ⟨rfl, rfl⟩
 all_goals
  simp at O
  simp [F_op_Op_Check, O]
  refine wc_loop ?_
  first
   | (simp; done)
   | (obtain ⟨v1, v2⟩ := hv rfl
      have v1 : ¬ v < 0 := by omega
      have v2 : ¬ 4294967296 < v := by omega
      simp [v1, v2]; done)
   | (simp [w1]
      refine wc_loop ?_
      simp [w1]; done)
end Go.AM

namespace Go.AM
def aftV (v : Vl) (o : Int) (x : It) (ok : Bool) (ai : It) (param : Int) : Vl × Bool :=
 if ok = false then (v, decide (o ≤ 4)) else
 if o = 1 then (⟨v.k, sortI ((v.is ++ [x]).map It.canon), v.n⟩, true) else
 if o = 3 then (⟨v.k, v.is ++ [x.canon], v.n⟩, true) else
 if o = 2 then (match outI ai v.is v.is.length with | some l => (⟨v.k, l, v.n⟩, true) | none => (v, false)) else
 if o = 4 then (match outI ai v.is param with | some l => (⟨v.k, l, v.n⟩, true) | none => (v, false)) else
 if o = 5 then (⟨v.k, v.is, v.n + x.v⟩, true) else
 if o = 7 then (⟨v.k, v.is, v.n + 1⟩, true) else (v, true)
theorem c_value_After (v : Vl) (o : Int) (x : It) (a b : Int) (ok : Bool) (ai : It) (n param : Int) (hk : 1 ≤ v.k ∧ v.k ≤ 4) (ho : 2 * v.k - 1 ≤ o ∧ o ≤ if v.k = 4 then 7 else 2 * v.k) (hv : o = 5 → 0 ≤ x.v ∧ x.v ≤ 4294967296)
    (hx : x.ok) (hai : ai.ok) (hl : ∀ y ∈ v.is, y.ok) (hn : v.is.length ≤ 1000) (hvn : 0 ≤ v.n ∧ v.n ≤ 1125899906842624) (sg) :
    ∃ K, (K = .z ∨ K = .o) ∧ LL.call n_value_Value_After [eVl .z v, .a [.i .i64 o, .f .f64 x.p, .i .i64 x.v, .i .i64 a, .i .i64 b], .a [.b ok, .f .f64 ai.p, .i .i64 ai.v, .i .i64 n], .i .i64 param] sg sg.length =
     some (.t [eVl K (aftV v o x ok ai param).1, .b (aftV v o x ok ai param).2], sg, sg.length) := by
 have Ck := c_op_Check_ok v.k o hk ho x.p x.v a b hv sg
 have W1 := c_value_without v ai hai v.is.length hl (by omega) sg
 have W2 := c_value_without v ai hai param hl (by omega) sg
 have Cl := c_slices_Clone v.is (by omega) sg
 have So := c_pile_Sorted (v.is ++ [x]) (by simp; omega) (fun y hy => by
  rcases List.mem_append.1 hy with hy | hy
  ·exact hl y hy
  ·simp at hy; subst hy; exact hx) sg
 rw [allH_sort _ (fun y hy => by
  rcases List.mem_append.1 hy with hy | hy
  ·exact hl y hy
  ·simp at hy; subst hy; exact hx)] at So
 have Cn := c_pile_Item_Canon x hx sg
 simp [eVl] at W1 W2 So Cn
 have w5 : o = 5 → IntKind.i64.wrap (v.n + x.v) = v.n + x.v := fun h => wrap64 (by have := hv h; omega)
 have w7 : IntKind.i64.wrap (v.n + 1) = v.n + 1 := wrap64 (by omega)
 cases ok with
 | false =>
  refine ⟨.z, by simp, wp_call e_value_Value_After rfl ?_⟩
  by_cases h4 : o ≤ 4
  ·simp [F_value_Value_After, eVl, Ck, aftV, h4]
  ·simp [F_value_Value_After, eVl, Ck, aftV, h4]
 | true =>
  have hc : o = 1 ∨ o = 2 ∨ o = 3 ∨ o = 4 ∨ o = 5 ∨ o = 6 ∨ o = 7 := by
   have : v.k = 1 ∨ v.k = 2 ∨ v.k = 3 ∨ v.k = 4 := by omega
   rcases this with h | h | h | h <;> simp [h] at ho <;> omega
  rcases hc with rfl | rfl | rfl | rfl | rfl | rfl | rfl
  ·refine ⟨.o, by simp, wp_call e_value_Value_After rfl ?_⟩
   have hap : (v.is.length + 1) * 16 ≤ 140737488355328 := by omega
   unfold clnK at Cl
   by_cases h0 : v.is.length = 0
   ·have h00 : v.is = [] := List.length_eq_zero_iff.1 h0
    simp [h00] at Cl So
    simp [F_value_Value_After, eVl, Ck, Cl, So, aftV, h00]
   ·simp [h0] at Cl
    simp [F_value_Value_After, eVl, Ck, Cl, So, aftV, hap]
  ·cases hO : outI ai v.is v.is.length with
   | none =>
    rw [hO] at W1
    refine ⟨.z, by simp, wp_call e_value_Value_After rfl ?_⟩
    simp at W1
    simp [F_value_Value_After, eVl, Ck, W1, aftV, hO]
   | some l =>
    rw [hO] at W1
    refine ⟨.z, by simp, wp_call e_value_Value_After rfl ?_⟩
    simp at W1
    simp [F_value_Value_After, eVl, Ck, W1, aftV, hO]
  ·refine ⟨.o, by simp, wp_call e_value_Value_After rfl ?_⟩
   have hap : (v.is.length + 1) * 16 ≤ 140737488355328 := by omega
   unfold clnK at Cl
   by_cases h0 : v.is.length = 0
   ·have h00 : v.is = [] := List.length_eq_zero_iff.1 h0
    simp [h00] at Cl
    simp [F_value_Value_After, eVl, Ck, Cl, Cn, aftV, h00]
   ·simp [h0] at Cl
    simp [F_value_Value_After, eVl, Ck, Cl, Cn, aftV, hap]
  ·cases hO : outI ai v.is param with
   | none =>
    rw [hO] at W2
    refine ⟨.z, by simp, wp_call e_value_Value_After rfl ?_⟩
    simp at W2
    simp [F_value_Value_After, eVl, Ck, W2, aftV, hO]
   | some l =>
    rw [hO] at W2
    refine ⟨.z, by simp, wp_call e_value_Value_After rfl ?_⟩
    simp at W2
    simp [F_value_Value_After, eVl, Ck, W2, aftV, hO]
  ·refine ⟨.z, by simp, wp_call e_value_Value_After rfl ?_⟩
   simp [F_value_Value_After, eVl, Ck, aftV, w5 rfl]
  ·refine ⟨.z, by simp, wp_call e_value_Value_After rfl ?_⟩
   simp [F_value_Value_After, eVl, Ck, aftV]
  ·refine ⟨.z, by simp, wp_call e_value_Value_After rfl ?_⟩
   simp [F_value_Value_After, eVl, Ck, aftV, w7]
end Go.AM

namespace Go.AM
theorem c_law12_Is (v w : Vl) (hv : v.is.length ≤ 1099511627776) (sg) : LL.call n_c_law12_Is [eVl .z v, eVr .z w] sg sg.length = some (.i .i64 (if v = w then 0 else -1), sg, sg.length) := by
 generalize hr : (if v = w then (0 : Int) else -1) = r
 have A1 := c_law04_Are v.is w.is hv sg
 obtain ⟨k, is, n⟩ := v
 obtain ⟨k', is', n'⟩ := w
 simp at A1
 refine wp_call e_c_law12_Is rfl ?_
 simp [F_c_law12_Is, eVl, eVr]
 repeat' (refine bq_i (fun h => ?_) (fun h => ?_) <;> (have h' := h) <;> (try simp at h') <;> simp [h, h', A1])
 all_goals (subst hr; simp_all)
end Go.AM

namespace Go.AM
structure Rw where
 k : Int
 x : It
 a : Int
 b : Int
 deriving DecidableEq, Inhabited
def eRw (r : Rw) : D := .a [.i .i64 r.k, .i .u64 r.x.p, .i .i64 r.x.v, .i .i64 r.a, .i .i64 r.b]
def eOp (r : Rw) : D := .a [.i .i64 r.k, .f .f64 r.x.p, .i .i64 r.x.v, .i .i64 r.a, .i .i64 r.b]
instance : Flat eRw := ⟨fun _ => rfl, fun _ => rfl, fun _ _ => rfl⟩
instance : Flat eOp := ⟨fun _ => rfl, fun _ => rfl, fun _ _ => rfl⟩
def Rw.ok (r : Rw) : Prop := r.x.ok ∧ (-9223372036854775808 ≤ r.k ∧ r.k ≤ 9223372036854775807) ∧ (-9223372036854775808 ≤ r.a ∧ r.a ≤ 9223372036854775807) ∧ (-9223372036854775808 ≤ r.b ∧ r.b ≤ 9223372036854775807)
def into (d n : Int) : Int := if n < 1 then 0 else d % n
theorem tmod_emod (d n : Int) (h : 1 ≤ n) : (if d.tmod n < 0 then d.tmod n + n else d.tmod n) = d % n := by
 have h0 := Int.emod_nonneg d (show n ≠ 0 by omega)
 have h1 := Int.emod_lt_of_pos d (show 0 < n by omega)
 have e := @Int.tmod_eq_emod d n
 have hn : (n.natAbs : Int) = n := by omega
 by_cases hc : 0 ≤ d ∨ n ∣ d
 ·rw [if_pos hc] at e
  simp at e
  rw [e, if_neg (by omega)]
 ·rw [if_neg hc, hn] at e
  rw [e, if_pos (by omega)]; omega
theorem into_rng (d n : Int) (h : 1 ≤ n) : 0 ≤ into d n ∧ into d n < n := by
 unfold into
 rw [if_neg (by omega)]
 exact ⟨Int.emod_nonneg d (by omega), Int.emod_lt_of_pos d (by omega)⟩
theorem c_ref06_Into (d n : Int) (hn : n ≤ 1000000000) (sg) : LL.call n_c_ref06_Into [.i .i64 d, .i .i64 n] sg sg.length = some (.i .i64 (into d n), sg, sg.length) := by
 refine wp_call e_c_ref06_Into rfl ?_
 by_cases h : n < 1
 ·simp [F_c_ref06_Into, h, into]
 ·have e := tmod_emod d n (by omega)
  have h0 := Int.emod_nonneg d (show n ≠ 0 by omega)
  have h1 := Int.emod_lt_of_pos d (show 0 < n by omega)
  have hz : n ≠ 0 := by omega
  by_cases h2 : d.tmod n < 0
  ·rw [if_pos h2] at e
   have w1 : IntKind.i64.wrap (d.tmod n + n) = d % n := by rw [e]; exact wrap64 (by omega)
   simp [F_c_ref06_Into, h, into, hz, h2, w1]
  ·rw [if_neg h2] at e
   have h3 : ¬ d % n < 0 := by omega
   simp [F_c_ref06_Into, h, into, hz, h3, e]
theorem i64_32 (x : Int) : bits .and .i64 x 4294967295 = x % 4294967296 := i64_mask 32 (by decide) x
def ownO (kind : Int) (r : Rw) : Rw :=
 let k := opA kind + into r.k (opN kind)
 ⟨k, ⟨r.x.p, if k = 5 then r.x.v % 4294967296 else r.x.v⟩, r.a, r.b⟩
theorem ownO_rng (kind : Int) (hk : 1 ≤ kind ∧ kind ≤ 4) (r : Rw) : 2 * kind - 1 ≤ (ownO kind r).k ∧ (ownO kind r).k ≤ (if kind = 4 then 7 else 2 * kind) := by
 have h := into_rng r.k (opN kind) (by unfold opN; split <;> omega)
 unfold ownO opA
 unfold opN at h ⊢
 simp only
 split <;> rename_i h4 <;> simp only [h4, if_true, if_false] at h ⊢ <;> omega
theorem ownO_ok {kind : Int} (hk : 1 ≤ kind ∧ kind ≤ 4) {r : Rw} (h : r.ok) : (ownO kind r).ok ∧ ((ownO kind r).k = 5 → 0 ≤ (ownO kind r).x.v ∧ (ownO kind r).x.v ≤ 4294967296) := by
 have hr := ownO_rng kind hk r
 obtain ⟨⟨h1, h2⟩, h3, h4, h5⟩ := h
 have e : (ownO kind r).x.v = if (ownO kind r).k = 5 then r.x.v % 4294967296 else r.x.v := rfl
 refine ⟨⟨⟨h1, ?_⟩, ?_, h4, h5⟩, fun h5 => by rw [e, if_pos h5]; omega⟩
 ·rw [e]; split <;> omega
 ·split at hr <;> omega
theorem c_law06_Own (kind : Int) (hk : 1 ≤ kind ∧ kind ≤ 4) (r : Rw) (sg) : LL.call n_c_law06_Own [.i .i64 kind, eRw r] sg sg.length = some (eOp (ownO kind r), sg, sg.length) := by
 refine wp_call e_c_law06_Own rfl ?_
 have O := c_ref06_Of kind hk sg
 have I := c_ref06_Into r.k (opN kind) (by unfold opN; split <;> omega) sg
 have W := c_law04_Own r.x sg
 have hin := into_rng r.k (opN kind) (by unfold opN; split <;> omega)
 have hb : 1 ≤ opN kind ∧ opN kind ≤ 2 := by unfold opN; split <;> omega
 have e1 : IntKind.i64.wrap (IntKind.i64.wrap ((if kind = 4 then 7 else 2 * kind) - (2 * kind - 1)) + 1) = opN kind := by
  unfold opN
  split
  ·rename_i h; subst h; decide
  ·have e0 : IntKind.i64.wrap (2 * kind - (2 * kind - 1)) = 1 := by rw [show 2 * kind - (2 * kind - 1) = 1 by omega]; decide
   rw [e0]; decide
 have e2 : IntKind.i64.wrap (2 * kind - 1 + into r.k (opN kind)) = opA kind + into r.k (opN kind) := by unfold opA; exact wrap64 (by omega)
 simp at W
 simp [F_c_law06_Own, eRw, O, e1, I, W, e2]
 refine bq_i (fun c => ?_) (fun c => ?_) <;> (have c' := c) <;> simp at c'
 ·simp [c, i64_32, eOp, ownO, c']
 ·simp [c, eOp, ownO, c']
structure FrR where
 o : Rw
 pc : Int
 at_ : Int
 seen : Int
 seg : Int
 tot : Int
 em : Bool
 v0 : Nat
 v1 : Nat
 n0 : Int
 l0 : List It
 n1 : Int
 l1 : List It
 deriving DecidableEq, Inhabited
def eFrK (K0 K1 : K) (f : FrR) : D := .a [.i .i64 f.o.k, .i .u64 f.o.x.p, .i .i64 f.o.x.v, .i .i64 f.o.a, .i .i64 f.o.b, .i .i64 f.pc, .i .i64 f.at_, .i .i64 f.seen, .i .i64 f.seg, .i .i64 f.tot, .b f.em, .i .i64 f.v0, .i .i64 f.v1,
 .i .i64 f.n0, .l K0 2 (f.l0.map eR), .i .i64 f.n1, .l K1 2 (f.l1.map eR)]
def eFr : FrR → D := eFrK .z .z
def newF (o : Rw) : FrR := ⟨⟨o.k, o.x.canon, o.a, o.b⟩, 0, 0, 0, 0, 0, false, 0, 0, 0, [], 0, []⟩
structure An where
 ok : Bool
 x : It
 n : Int
 deriving DecidableEq, Inhabited
def eAn (a : An) : D := .a [.b a.ok, .f .f64 a.x.p, .i .i64 a.x.v, .i .i64 a.n]
def eAr (a : An) : D := .a [.b a.ok, .i .u64 a.x.p, .i .i64 a.x.v, .i .i64 a.n]
instance : Flat eAn := ⟨fun _ => rfl, fun _ => rfl, fun _ _ => rfl⟩
instance : Flat eAr := ⟨fun _ => rfl, fun _ => rfl, fun _ _ => rfl⟩
theorem c_law12_Told (v : Vl) (h : ∀ y ∈ v.is, y.ok) (hn : v.is.length ≤ 1000000000) (sg) : LL.call n_c_law12_Told [eVl .z v] sg sg.length = some (eVr .o ⟨v.k, v.is.map It.canon, v.n⟩, sg, sg.length) := by
 generalize hr : eVr .o ⟨v.k, v.is.map It.canon, v.n⟩ = r
 refine wp_call e_c_law12_Told rfl ?_
 simp [F_c_law12_Told, eVl]
 refine wc_list v.is (fun i (o : List It) => ⟨[(2, .q (.ptr 2 0)), (3, .q (.ptr 3 0)), (12, .v (.l .z 2 (v.is.map eI))), (13, .v (.i .i64 v.is.length)), (14, .v (.i .i64 i))],
  [(2, [.i .i64 0, .l .o 2 [], .i .i64 0]), (3, [.i .i64 v.k, .l .o 2 (o.map eR), .i .i64 v.n])], sg, sg.length⟩) (fun r o => o ++ r.map It.canon = v.is.map It.canon ∧ o.length + r.length = v.is.length) ?_ ?_ [] ⟨rfl, by simp⟩
 ·rintro i y r o hi hlt ⟨h1, h2⟩ ih
  have hlt' : (i : Int) < v.is.length := by omega
  simp at h2
  have B := c_law04_Bits y (h y (mem_of_get hi)) sg
  simp at B
  have w : IntKind.i64.wrap (↑i + 1) = (i : Int) + 1 := wrap64 (by omega)
  have p1 : (o.length + 1) * 16 ≤ 140737488355328 := by omega
  simp [hlt', hi, B, w, p1]
  simpa [It.canon] using ih (o ++ [y.canon]) ⟨by rw [← h1]; simp, by simp; omega⟩
 ·rintro o ⟨h1, h2⟩
  simp at h1
  simp [h1, ← hr, eVr]
end Go.AM

namespace Go.AM
theorem map_canon_id (l : List It) (h : ∀ y ∈ l, y.canon = y) : l.map It.canon = l := (List.map_congr_left h).trans (List.map_id _)
theorem withI_sort (x : It) (l : List It) (hx : x.ok ∧ x.canon = x) (h : ∀ y ∈ l, y.ok ∧ y.canon = y) (hs : l.Pairwise leI) : withI x l = sortI ((l ++ [x]).map It.canon) := by
 have hm : (l ++ [x]).map It.canon = l ++ [x] := map_canon_id _ (fun y hy => by
  rcases List.mem_append.1 hy with hy | hy
  ·exact (h y hy).2
  ·simp at hy; subst hy; exact hx.2)
 rw [hm]
 have hp : (withI x l).Perm (l ++ [x]) := (withI_perm x l).trans (by simpa using (List.perm_append_comm (l₁ := [x]) (l₂ := l)))
 refine ordered_unique (fun y hy => ?_) (withI_ordered x l hs) ((ordered_pw _).1 (sortI_ordered _)) (hp.trans (sortI_perm _).symm)
 rcases List.mem_cons.1 ((withI_perm x l).mem_iff.1 hy) with rfl | hy
 ·exact hx
 ·exact h y hy
theorem c_ref12_After (v : Vl) (f : FrR) (a : An) (param : Int) (hk : 1 ≤ v.k ∧ v.k ≤ 4) (ho : 1 ≤ f.o.k ∧ f.o.k ≤ 7) (hv : f.o.k = 5 → 0 ≤ f.o.x.v ∧ f.o.x.v ≤ 4294967296)
    (hx : f.o.x.ok ∧ f.o.x.canon = f.o.x) (hai : a.x.ok) (hl : ∀ y ∈ v.is, y.ok ∧ y.canon = y) (hso : f.o.k = 1 → v.is.Pairwise leI) (hn : v.is.length ≤ 1000000) (hvn : 0 ≤ v.n ∧ v.n ≤ 1152921504606846976) (sg) :
    ∃ K, (K = .z ∨ K = .o) ∧ LL.call n_c_ref12_After [eVr .z v, eFr f, eAr a, .i .i64 param] sg sg.length = some (.t [eVr K (aftV v f.o.k f.o.x a.ok a.x param).1, .b (aftV v f.o.k f.o.x a.ok a.x param).2], sg, sg.length) := by
 obtain ⟨⟨o, x, d0, d1⟩, pc, at_, seen, seg, tot, em, v0, v1, n0, l0, n1, l1⟩ := f
 obtain ⟨ok, ai, n⟩ := a
 simp only at ho hv hx hai hso
 have hlk : ∀ y ∈ v.is, y.ok := fun y hy => (hl y hy).1
 have hap : v.is.length * 16 ≤ 140737488355328 := by omega
 have ht : List.take v.is.length (v.is.map eR) = v.is.map eR := by
  have := List.take_length (l := v.is.map eR)
  rwa [List.length_map] at this
 cases ok with
 | false =>
  refine ⟨.z, by simp, wp_call e_c_ref12_After rfl ?_⟩
  by_cases h4 : o ≤ 4
  ·have h5 : o < 5 := by omega
   simp [F_c_ref12_After, eVr, eFr, eFrK, eAr, aftV, h4, h5]
  ·have h5 : ¬ o < 5 := by omega
   simp [F_c_ref12_After, eVr, eFr, eFrK, eAr, aftV, h4, h5]
 | true =>
  have W := c_ref04_With x v.is hx.1 hlk (by omega) sg
  simp at W
  have hc : o = 1 ∨ o = 3 ∨ (o = 2 ∨ o = 4) ∨ o = 5 ∨ o = 6 ∨ o = 7 := by omega
  rcases hc with rfl | rfl | hc | rfl | rfl | rfl
  ·rw [withI_sort x v.is hx hl (hso rfl)] at W
   refine ⟨.o, by simp, wp_call e_c_ref12_After rfl ?_⟩
   simp [F_c_ref12_After, eVr, eFr, eFrK, eAr, aftV, W, hap, ht] at W ⊢
  ·have hap2 : (v.is.length + 1) * 16 ≤ 140737488355328 := by omega
   refine ⟨.o, by simp, wp_call e_c_ref12_After rfl ?_⟩
   simp [F_c_ref12_After, eVr, eFr, eFrK, eAr, aftV, hap, ht, hap2, hx.2]
  ·have hcs : ∃ most, aftV v o x true ai param = (match outI ai v.is most with | some l => (⟨v.k, l, v.n⟩, true) | none => (v, false)) ∧ (most = if o = 4 then param else v.is.length) := by
    rcases hc with rfl | rfl
    ·exact ⟨_, rfl, rfl⟩
    ·exact ⟨_, rfl, rfl⟩
   obtain ⟨most, hm, hmost⟩ := hcs
   rw [hm]
   have hrng := findI_rng ai v.is 0
   generalize hT : findI ai v.is 0 = T at hrng
   have key : ∀ r, r = (match outI ai v.is most with | some l => (.t [eVr .o ⟨v.k, l, v.n⟩, .b true], sg, sg.length) | none => (D.t [eVr .z v, .b false], sg, sg.length)) →
       LL.call n_c_ref12_After [eVr .z v, eFr ⟨⟨o, x, d0, d1⟩, pc, at_, seen, seg, tot, em, v0, v1, n0, l0, n1, l1⟩, eAr ⟨true, ai, n⟩, .i .i64 param] sg sg.length = some r := by
    intro r hr
    refine wp_call e_c_ref12_After rfl ?_
    unfold outI at hr
    rw [hT] at hr
    obtain ⟨oo, hoo⟩ : ∃ oo, oo = o := ⟨_, rfl⟩
    rcases hc with rfl | rfl
    all_goals
     simp at hmost
     simp [F_c_ref12_After, eVr, eFr, eFrK, eAr, hap, ht]
     refine wc_lst v.is (fun i (_ : Unit) => ⟨[(3, .v (.i .i64 param)), (4, .q (.ptr 4 0)), (5, .q (.ptr 5 0)), (6, .q (.ptr 6 0)), (8, .q (.ptr 8 0)), (10, .q (.ptr 10 0)), (52, .v (.i .i64 v.is.length)), (53, .v (.i .i64 i))],
      [(4, [.i .i64 v.k, .l .z 2 (v.is.map eR), .i .i64 v.n]), (5, [.i .i64 oo, .i .u64 x.p, .i .i64 x.v, .i .i64 d0, .i .i64 d1, .i .i64 pc, .i .i64 at_, .i .i64 seen, .i .i64 seg, .i .i64 tot, .b em, .i .i64 v0, .i .i64 v1, .i .i64 n0, .l .z 2 (l0.map eR), .i .i64 n1, .l .z 2 (l1.map eR)]),
       (6, [.b true, .i .u64 ai.p, .i .i64 ai.v, .i .i64 n]), (8, [.i .i64 0, .l .o 2 [], .i .i64 0]), (10, [.i .i64 v.k, .l .o 2 (v.is.map eR), .i .i64 v.n])], sg, sg.length⟩)
      (fun i rest _ => findI ai rest i = T) () (by simp [hoo]) hT ?_ ?_
     ·rintro i y rest _ hlt hx1 h1 ih
      have hlt' : (i : Int) < v.is.length := by omega
      have hy := hlk y (by rw [← hx1]; exact List.getElem_mem _)
      have S := c_ref12_same y ai hy hai sg
      have Wo := c_ref12_Without v.is i hlt (by omega) sg
      have w1 : IntKind.i64.wrap ((i : Int) + 1) = i + 1 := wrap64 (by omega)
      have h0 : ¬ (i : Int) < 0 := by omega
      have h9 : ¬ v.is.length ≤ i := by omega
      simp at S Wo
      unfold findI at h1
      by_cases hcn : ai.canon = y.canon
      ·rw [if_pos hcn] at h1
       subst h1
       by_cases hp : param ≤ i
       ·simp [hlt, hlt', hx1, S, hcn.symm, hoo, hp, Wo]
        simp [hr, hmost, hp, eVr, h0, h9]
       ·simp [hlt, hlt', hx1, S, hcn.symm, hoo, hp, Wo]
        simp [hr, hmost, hp, eVr, h0, h9]
      ·rw [if_neg hcn] at h1
       have hcn' : ¬ y.canon = ai.canon := fun h => hcn h.symm
       have ih := ih () h1
       simp at ih
       simp [hlt, hlt', hx1, S, hcn', w1]
       exact ih
     ·intro _ h1
      simp [findI] at h1
      subst h1
      simp [hr, eVr]
   cases hO : outI ai v.is most with
   | none => rw [hO] at key; exact ⟨.z, by simp, key _ rfl⟩
   | some l => rw [hO] at key; exact ⟨.o, by simp, key _ rfl⟩
  ·have w : IntKind.i64.wrap (v.n + x.v) = v.n + x.v := wrap64 (by have := hv rfl; omega)
   refine ⟨.o, by simp, wp_call e_c_ref12_After rfl ?_⟩
   simp [F_c_ref12_After, eVr, eFr, eFrK, eAr, aftV, hap, ht, w]
  ·refine ⟨.o, by simp, wp_call e_c_ref12_After rfl ?_⟩
   simp [F_c_ref12_After, eVr, eFr, eFrK, eAr, aftV, hap, ht]
  ·have w : IntKind.i64.wrap (v.n + 1) = v.n + 1 := wrap64 (by omega)
   refine ⟨.o, by simp, wp_call e_c_ref12_After rfl ?_⟩
   simp [F_c_ref12_After, eVr, eFr, eFrK, eAr, aftV, hap, ht, w]
end Go.AM

namespace Go.AM
end Go.AM

namespace Go.AM
def checkO (k o v : Int) : Int := if k < 1 ∨ 4 < k then 6 else if o < 2 * k - 1 ∨ (if k = 4 then 7 else 2 * k) < o then 6 else if o = 5 ∧ (v < 0 ∨ 4294967296 < v) then 4 else 0
theorem c_ref06_OfO (k : Int) (hk : k < 1 ∨ 4 < k) (sg) : LL.call n_c_ref06_Of [.i .i64 k] sg sg.length = some (.t [.i .i64 0, .i .i64 (-1)], sg, sg.length) := by
 refine wp_call e_c_ref06_Of rfl ?_
 have h1 : (k == 1) = false := by simp; omega
 have h2 : (k == 2) = false := by simp; omega
 have h3 : (k == 3) = false := by simp; omega
 have h4 : (k == 4) = false := by simp; omega
 simp [F_c_ref06_Of, h1, h2, h3, h4]
theorem c_ref06_Check (k o v : Int) (sg) : LL.call n_c_ref06_Check [.i .i64 k, .i .i64 o, .i .i64 v] sg sg.length = some (.i .i64 (checkO k o v), sg, sg.length) := by
 generalize hr : checkO k o v = r
 refine wp_call e_c_ref06_Check rfl ?_
 by_cases hk : k < 1 ∨ 4 < k
 ·have O := c_ref06_OfO k hk sg
  unfold checkO at hr
  rw [if_pos hk] at hr
  subst hr
  simp [F_c_ref06_Check, O]
  repeat' (refine bq_i (fun h => ?_) (fun h => ?_) <;> (have h' := h) <;> (try simp at h') <;> simp [h, h'])
  all_goals omega
 ·have O := c_ref06_Of k (by omega) sg
  unfold checkO at hr
  rw [if_neg hk] at hr
  obtain ⟨t, ht⟩ : ∃ t, t = (if k = 4 then (7 : Int) else 2 * k) := ⟨_, rfl⟩
  rw [← ht] at O hr
  simp [F_c_ref06_Check, O]
  repeat' (refine bq_i (fun h => ?_) (fun h => ?_) <;> (have h' := h) <;> (try simp at h') <;> simp [h, h'])
  all_goals (subst hr; (repeat' split) <;> first | rfl | omega)
def sameV (v w : Vl) : Prop := v.k = w.k ∧ v.n = w.n ∧ v.is.map It.canon = w.is.map It.canon
instance (v w : Vl) : Decidable (sameV v w) := by unfold sameV; infer_instance
end Go.AM

namespace Go.AM
def eC1 (t b e : Int) : D := .a [.i .i64 t, .i .i64 0, .f .f64 0, .i .i64 0, .i .i64 0, .i .i64 0, .i .i64 b, .i .i64 e, .b false, .f .f64 0, .i .i64 0, .i .i64 0]
def chk1c (t b e : Int) : Int := if t < 0 ∨ 6 ≤ t then 4 else if b < 0 ∨ e < -1 ∨ (0 ≤ e ∧ e < b) then 14 else 0
def lax1 (k p t b e : Int) : Int × Int × Int := if legal k p ≠ 0 then (0, -1, legal k p) else if chk1c t b e ≠ 0 then (0, -1, chk1c t b e) else if e < 0 then (k, -1, 0) else (k, 0, 12)
end Go.AM

namespace Go.AM
structure Cll where
 t : Nat
 o : Rw
 b : Int
 e : Int
 a : An
def eCll (c : Cll) : D := .a [.i .i64 c.t, .i .i64 c.o.k, .f .f64 c.o.x.p, .i .i64 c.o.x.v, .i .i64 c.o.a, .i .i64 c.o.b, .i .i64 c.b, .i .i64 c.e, .b c.a.ok, .f .f64 c.a.x.p, .i .i64 c.a.x.v, .i .i64 c.a.n]
instance : Flat eCll := ⟨fun _ => rfl, fun _ => rfl, fun _ _ => rfl⟩
end Go.AM

namespace Go.AM
theorem wc_upb {β : Type} {B : C} {Q : Rs → Prop} (n : Nat) (st : Nat → β → St) (P : Nat → β → Prop)
    (h : ∀ i b, i < n → P i b → (∀ b', P (i + 1) b' → @WC (.loop B) (st (i + 1) b') ⟨Q⟩ trivial) → @WC B (st i b) ⟨fun r => @SqQ (.loop B) ⟨Q⟩ r trivial⟩ trivial)
    (he : ∀ b, P n b → @WC B (st n b) ⟨fun r => @SqQ (.loop B) ⟨Q⟩ r trivial⟩ trivial) : ∀ b, P 0 b → @WC (.loop B) (st 0 b) ⟨Q⟩ trivial := by
 intro b hb
 refine wc_ind (fun a : Nat × β => st a.1 a.2) (fun a => n - a.1) (fun a => a.1 ≤ n ∧ P a.1 a.2) ?_ (0, b) ⟨by simp, hb⟩
 rintro ⟨i, b⟩ ⟨h1, h2⟩ ih
 simp only at h1 h2 ih ⊢
 rcases Nat.lt_or_eq_of_le h1 with h3 | h3
 ·exact h i b h3 h2 (fun b' hb' => ih (i + 1, b') (by simp; omega) ⟨by omega, hb'⟩)
 ·subst h3; exact he b h2
structure Cls (l : List Cll) : Prop where
 t : ∀ c ∈ l, c.t < 6
 b : ∀ c ∈ l, 0 ≤ c.b ∧ (c.e = -1 ∨ c.b < c.e) ∧ c.e ≤ 100000
 o : ∀ (i : Nat) c d, l[i]? = some c → l[i + 1]? = some d → c.b ≤ d.b
 e : ∀ (i j : Nat) c d, i < j → l[i]? = some c → l[j]? = some d → 0 ≤ c.e → 0 ≤ d.e → c.e < d.e
 n : l.length ≤ 1000
structure Clw (l : List Cll) : Prop where
 t : ∀ c ∈ l, c.t < 6
 b : ∀ c ∈ l, 0 ≤ c.b ∧ (c.e = -1 ∨ c.b ≤ c.e) ∧ c.e ≤ 100000
 o : ∀ (i : Nat) c d, l[i]? = some c → l[i + 1]? = some d → c.b ≤ d.b
 e : ∀ (i j : Nat) c d, i < j → l[i]? = some c → l[j]? = some d → 0 ≤ c.e → 0 ≤ d.e → c.e ≠ d.e
 n : l.length ≤ 1000
theorem Cls.w {l : List Cll} (h : Cls l) : Clw l :=
 ⟨h.t, fun c hc => ⟨(h.b c hc).1, by have := (h.b c hc).2.1; omega, (h.b c hc).2.2⟩, h.o, fun i j c d hl hc hd h0 h1 => by have := h.e i j c d hl hc hd h0 h1; omega, h.n⟩
def pairC (d c : Cll) : Prop := d.t = c.t ∧ ¬ (0 ≤ d.e ∧ d.e < c.b)
instance (d c : Cll) : Decidable (pairC d c) := by unfold pairC; infer_instance
def badC (l : List Cll) : Prop := ∃ (i j : Nat) (d c : Cll), i < j ∧ l[i]? = some d ∧ l[j]? = some c ∧ pairC d c
theorem c_history_Ahead (c d : Cll) (sg) : LL.call n_history_Call_Ahead [eCll c, eCll d] sg sg.length = some (.b (decide (0 ≤ c.e ∧ c.e < d.b)), sg, sg.length) := by
 refine wp_call e_history_Call_Ahead rfl ?_
 by_cases h1 : 0 ≤ c.e
 ·by_cases h2 : c.e < d.b
  ·simp [F_history_Call_Ahead, eCll, h1, h2]
  ·simp [F_history_Call_Ahead, eCll, h1, h2]
 ·simp [F_history_Call_Ahead, eCll, h1]
def eP (c : Cll) : D := .a [.i .i64 c.t, .i .i64 c.b, .i .i64 c.e]
instance : Flat eP := ⟨fun _ => rfl, fun _ => rfl, fun _ _ => rfl⟩
theorem c_ref14_Ahead (c d : Cll) (he : -1 ≤ c.e) (sg) : LL.call n_c_ref14_Ahead [eP c, eP d] sg sg.length = some (.b (decide (0 ≤ c.e ∧ c.e < d.b)), sg, sg.length) := by
 refine wp_call e_c_ref14_Ahead rfl ?_
 by_cases h1 : 0 ≤ c.e
 ·have h1' : (c.e != -1) = true := by simp; omega
  by_cases h2 : c.e < d.b
  ·simp [F_c_ref14_Ahead, eP, h1, h1', h2]
  ·simp [F_c_ref14_Ahead, eP, h1, h1', h2]
 ·have h1' : (c.e != -1) = false := by simp; omega
  simp [F_c_ref14_Ahead, eP, h1, h1']
section
variable (l : List Cll) (H : Clw l) (T : Int) (hB : badC l → T = 14) (hG : ¬ badC l → T = 0) (sg : List (List D))
include H hB hG
set_option maxHeartbeats 4000000 in
theorem c_history_CheckL : LL.call n_history_Check [.l .z 12 (l.map eCll)] sg sg.length = some (.i .i64 T, sg, sg.length) := by
 refine wp_call e_history_Check rfl ?_
 simp [F_history_Check]
 refine wc_up l.length (fun i => ⟨[(0, .v (.l .z 12 (l.map eCll))), (7, .v (.l .z 12 (l.map eCll))), (8, .v (.i .i64 l.length)), (9, .v (.i .i64 i))], [], sg, sg.length⟩)
  (fun i => ∀ (k j : Nat) d c, k < j → j < i → l[k]? = some d → l[j]? = some c → ¬ pairC d c) ?_ ?_ 0 (by omega) (fun _ _ _ _ _ h => by omega)
 ·intro i hi hp ih
  obtain ⟨c, q0⟩ : ∃ c, l[i] = c := ⟨_, rfl⟩
  have q1 : l[i]? = some c := by rw [← q0]; exact List.getElem?_eq_getElem hi
  have hc := mem_of_get q1
  have ht := H.t c hc
  obtain ⟨hb0, hbe, hbm⟩ := H.b c hc
  have n1 : ¬ ((c.t : Int) < 0) := by omega
  have n2 : ¬ (6 ≤ (c.t : Int)) := by omega
  have n3 : ¬ (c.b < 0) := by omega
  have n4 : ¬ (c.e < -1) := by omega
  have n5 : ¬ (0 ≤ c.e ∧ c.e < c.b) := by omega
  have w1 : IntKind.i64.wrap ((i : Int) + 1) = (i : Int) + 1 := wrap64 (by have := H.n; omega)
  have hn := H.n
  have hcase : (0 ≤ c.e ∧ ¬ c.e < c.b) ∨ ¬ 0 ≤ c.e := by omega
  have hprev : (¬ 0 < i) ∨ (0 < i ∧ ∃ d, l[i - 1]? = some d ∧ IntKind.i64.wrap ((i : Int) - 1) = ((i - 1 : Nat) : Int) ∧ ¬ c.b < d.b) := by
   by_cases h0 : 0 < i
   ·obtain ⟨d, q⟩ : ∃ d, l[i - 1]? = some d := ⟨_, List.getElem?_eq_getElem (by omega)⟩
    have := H.o (i - 1) d c q (by rw [show i - 1 + 1 = i by omega]; exact q1)
    exact .inr ⟨h0, d, q, by rw [show (i : Int) - 1 = ((i - 1 : Nat) : Int) by omega]; exact wrap64 (by omega), by omega⟩
   ·exact .inl h0
  have hpair : ∀ (j : Nat) d, j < i → l[j]? = some d → pairC d c → T = 14 := fun j d hj hd hq => hB ⟨j, i, d, c, hj, hd, q1, hq⟩
  have hne : ∀ (j : Nat) d, j < i → l[j]? = some d → 0 ≤ d.e → ¬ d.e = c.e := fun j d hj hd h0 => by
   intro h
   have := H.e j i d c hj hd q1 h0 (by omega)
   omega
  rcases hcase with ⟨h5, h6⟩ | h5
  rotate_left
  have h6 := trivial
  rotate_left
  all_goals
   rcases hprev with h7 | ⟨h7, d0, h8, h9, h10⟩
   rotate_left
   rotate_left
   have h8 := trivial
   have h9 := trivial
   have h10 := trivial
   rotate_left
   all_goals
    simp [hi, q0, q1, eCll, n1, n2, n3, n4, h5, h6, h7, h8, h9, h10]
    refine ⟨by omega, ?_⟩
    rw [show min i l.length = i by omega]
    refine wc_up i (fun j => ⟨[(0, .v (.l .z 12 (l.map eCll))), (4, .q (.ptr 4 0)), (7, .v (.l .z 12 (l.map eCll))), (8, .v (.i .i64 l.length)), (9, .v (.i .i64 i)), (61, .v (.l .z 12 (List.take i (l.map eCll)))), (62, .v (.i .i64 i)), (63, .v (.i .i64 j))],
     [(4, (eCll c).cells)], sg, sg.length⟩) (fun j => ∀ (k : Nat) d, k < j → l[k]? = some d → ¬ pairC d c) ?_ ?_ 0 (by omega) (fun _ _ h => by omega)
    ·intro j hj hp2 ih2
     obtain ⟨d, q2⟩ : ∃ d, l[j]? = some d := ⟨_, List.getElem?_eq_getElem (by omega)⟩
     have w2 : IntKind.i64.wrap ((j : Int) + 1) = (j : Int) + 1 := wrap64 (by omega)
     have A := c_history_Ahead d c sg
     have P1 := hpair j d hj q2
     have P2 := hne j d hj q2
     have hjl : j < l.length := by omega
     have q3 : l[j] = d := by have := q2; rw [List.getElem?_eq_getElem hjl] at this; exact Option.some.inj this
     simp only [eCll] at A
     by_cases hq : pairC d c
     ·have hT := P1 hq
      subst hT
      obtain ⟨e1, e2⟩ := hq
      have e2' : (decide (0 ≤ d.e ∧ d.e < c.b)) = false := by simpa using e2
      rw [e2', e1] at A
      simp [hj, hjl, q3, eCll, e1, A]
     ·have ih2 := ih2 (fun k d' hk hd' => by
       by_cases e : k = j
       ·subst e; rw [q2] at hd'; cases hd'; exact hq
       ·exact hp2 k d' (by omega) hd')
      by_cases e1 : d.t = c.t
      ·have e2 : decide (0 ≤ d.e ∧ d.e < c.b) = true := by
        by_cases h : 0 ≤ d.e ∧ d.e < c.b
        ·exact decide_eq_true h
        ·exact absurd ⟨e1, h⟩ hq
       rw [e2, e1] at A
       have e3 := of_decide_eq_true e2
       have e4 : (d.e == c.e) = false := by simpa using P2 e3.1
       simp [hj, hjl, q3, eCll, e1, A, e3.1, e4, w2]
       simpa [eCll] using ih2
      ·have e1' : ((d.t : Int) == (c.t : Int)) = false := by simp; omega
       by_cases e3 : 0 ≤ d.e
       ·have e4 : (d.e == c.e) = false := by simpa using P2 e3
        simp [hj, hjl, q3, eCll, e1, e1', e3, e4, w2]
        simpa [eCll] using ih2
       ·simp [hj, hjl, q3, eCll, e1, e1', e3, w2]
        simpa [eCll] using ih2
    ·intro hp2
     have ih := ih (fun k j d c' h1 h2 h3 h4 => by
      by_cases e : j = i
      ·subst e; rw [q1] at h4; cases h4; exact hp2 k d h1 h3
      ·exact hp k j d c' h1 (by omega) h3 h4)
     simp [w1]
     simpa using ih
 ·intro hp
  have : ¬ badC l := by
   rintro ⟨k, j, d, c, h1, h2, h3, h4⟩
   exact hp k j d c h1 (List.getElem?_eq_some_iff.1 h3).1 h2 h3 h4
  have := hG this
  subst this
  simp
end
section
variable (l : List Cll) (H : Cls l) (T : Int) (hB : badC l → T = 14) (hG : ¬ badC l → T = 0) (sg : List (List D))
include H hB hG
set_option maxHeartbeats 4000000 in
theorem c_ref14_CheckL : LL.call n_c_ref14_Check [.l .z 3 (l.map eP)] sg sg.length = some (.i .i64 T, sg, sg.length) := by
 refine wp_call e_c_ref14_Check rfl ?_
 simp [F_c_ref14_Check]
 refine wc_up l.length (fun i => ⟨[(0, .v (.l .z 3 (l.map eP))), (6, .v (.l .z 3 (l.map eP))), (7, .v (.i .i64 l.length)), (8, .v (.i .i64 i))], [], sg, sg.length⟩)
  (fun i => ∀ (k j : Nat) d c, k < j → j < i → l[k]? = some d → l[j]? = some c → ¬ pairC d c) ?_ ?_ 0 (by omega) (fun _ _ _ _ _ h => by omega)
 ·intro i hi hp ih
  obtain ⟨c, q0⟩ : ∃ c, l[i] = c := ⟨_, rfl⟩
  have q1 : l[i]? = some c := by rw [← q0]; exact List.getElem?_eq_getElem hi
  have hc := mem_of_get q1
  have ht := H.t c hc
  obtain ⟨hb0, hbe, hbm⟩ := H.b c hc
  have n1 : ¬ ((c.t : Int) < 0) := by omega
  have n2 : ¬ (5 < (c.t : Int)) := by omega
  have n3 : ¬ (c.b < 0) := by omega
  have n4 : ¬ (c.e < -1) := by omega
  have w1 : IntKind.i64.wrap ((i : Int) + 1) = (i : Int) + 1 := wrap64 (by have := H.n; omega)
  have hn := H.n
  have hcase : ((c.e != -1) = true ∧ ¬ c.e < c.b) ∨ (c.e != -1) = false := by
   rcases hbe with h | h
   ·exact .inr (by simp [h])
   ·exact .inl ⟨by simp; omega, by omega⟩
  have hprev : (¬ 0 < i) ∨ (0 < i ∧ ∃ d, l[i - 1]? = some d ∧ IntKind.i64.wrap ((i : Int) - 1) = ((i - 1 : Nat) : Int) ∧ ¬ c.b < d.b) := by
   by_cases h0 : 0 < i
   ·obtain ⟨d, q⟩ : ∃ d, l[i - 1]? = some d := ⟨_, List.getElem?_eq_getElem (by omega)⟩
    have := H.o (i - 1) d c q (by rw [show i - 1 + 1 = i by omega]; exact q1)
    exact .inr ⟨h0, d, q, by rw [show (i : Int) - 1 = ((i - 1 : Nat) : Int) by omega]; exact wrap64 (by omega), by omega⟩
   ·exact .inl h0
  have hpair : ∀ (j : Nat) d, j < i → l[j]? = some d → pairC d c → T = 14 := fun j d hj hd hq => hB ⟨j, i, d, c, hj, hd, q1, hq⟩
  have hne : ∀ (j : Nat) d, j < i → l[j]? = some d → c.e = -1 ∨ ¬ d.e = c.e := fun j d hj hd => by
   by_cases h : c.e = -1
   ·exact .inl h
   ·refine .inr fun h2 => ?_
    have := H.e j i d c hj hd q1 (by omega) (by omega)
    omega
  rcases hcase with ⟨h5, h6⟩ | h5
  rotate_left
  have h6 := trivial
  rotate_left
  all_goals
   rcases hprev with h7 | ⟨h7, d0, h8, h9, h10⟩
   rotate_left
   rotate_left
   have h8 := trivial
   have h9 := trivial
   have h10 := trivial
   rotate_left
   all_goals
    simp [hi, q0, q1, eP, n1, n2, n3, n4, h5, h6, h7, h8, h9, h10]
    refine wc_up i (fun j => ⟨[(0, .v (.l .z 3 (l.map eP))), (3, .v (.i .i64 i)), (4, .q (.ptr 4 0)), (5, .v (.i .i64 j)), (6, .v (.l .z 3 (l.map eP))), (7, .v (.i .i64 l.length)), (8, .v (.i .i64 i))],
     [(4, (eP c).cells)], sg, sg.length⟩) (fun j => ∀ (k : Nat) d, k < j → l[k]? = some d → ¬ pairC d c) ?_ ?_ 0 (by omega) (fun _ _ h => by omega)
    ·intro j hj hp2 ih2
     obtain ⟨d, q2⟩ : ∃ d, l[j]? = some d := ⟨_, List.getElem?_eq_getElem (by omega)⟩
     have w2 : IntKind.i64.wrap ((j : Int) + 1) = (j : Int) + 1 := wrap64 (by omega)
     have hde : -1 ≤ d.e := by have := (H.b d (mem_of_get q2)).2.1; have := (H.b d (mem_of_get q2)).1; omega
     have A := c_ref14_Ahead d c hde sg
     have P1 := hpair j d hj q2
     have P2 := hne j d hj q2
     have hjl : j < l.length := by omega
     have q3 : l[j] = d := by have := q2; rw [List.getElem?_eq_getElem hjl] at this; exact Option.some.inj this
     have e4 : (c.e != -1) = false ∨ ((c.e != -1) = true ∧ (d.e == c.e) = false) := by
      rcases P2 with h | h
      ·exact .inl (by simp [h])
      ·by_cases h2 : c.e = -1
       ·exact .inl (by simp [h2])
       ·exact .inr ⟨by simp [h2], by simpa using h⟩
     simp only [eP] at A
     by_cases hq : pairC d c
     ·have hT := P1 hq
      subst hT
      obtain ⟨e1, e2⟩ := hq
      have e2' : (decide (0 ≤ d.e ∧ d.e < c.b)) = false := by simpa using e2
      rw [e2', e1] at A
      simp [hj, hjl, q3, eP, e1, A]
     ·have ih2 := ih2 (fun k d' hk hd' => by
       by_cases e : k = j
       ·subst e; rw [q2] at hd'; cases hd'; exact hq
       ·exact hp2 k d' (by omega) hd')
      by_cases e1 : d.t = c.t
      ·have e2 : decide (0 ≤ d.e ∧ d.e < c.b) = true := by
        by_cases h : 0 ≤ d.e ∧ d.e < c.b
        ·exact decide_eq_true h
        ·exact absurd ⟨e1, h⟩ hq
       rw [e2, e1] at A
       rcases e4 with e4 | ⟨e4, e5⟩
       ·simp [hj, hjl, q3, eP, e1, A, e4, w2]
        simpa [eP] using ih2
       ·simp [hj, hjl, q3, eP, e1, A, e4, e5, w2]
        simpa [eP] using ih2
      ·have e1' : ((d.t : Int) == (c.t : Int)) = false := by simp; omega
       rcases e4 with e4 | ⟨e4, e5⟩
       ·simp [hj, hjl, q3, eP, e1, e1', e4, w2]
        simpa [eP] using ih2
       ·simp [hj, hjl, q3, eP, e1, e1', e4, e5, w2]
        simpa [eP] using ih2
    ·intro hp2
     have ih := ih (fun k j d c' h1 h2 h3 h4 => by
      by_cases e : j = i
      ·subst e; rw [q1] at h4; cases h4; exact hp2 k d h1 h3
      ·exact hp k j d c' h1 (by omega) h3 h4)
     simp [w1]
     simpa using ih
 ·intro hp
  have : ¬ badC l := by
   rintro ⟨k, j, d, c, h1, h2, h3, h4⟩
   exact hp k j d c h1 (List.getElem?_eq_some_iff.1 h3).1 h2 h3 h4
  have := hG this
  subst this
  simp
end
end Go.AM

namespace Go.AM
def dnF (l : List Cll) : Nat → List Nat
 | 0 => []
 | i + 1 => match l[i]? with
  | some c => if 0 ≤ c.e then dnF l i ++ [i] else dnF l i
  | none => dnF l i
def dnL (l : List Cll) : List Nat := dnF l l.length
theorem dnF_mem (l : List Cll) : ∀ (n j : Nat), j ∈ dnF l n → j < n ∧ ∃ c, l[j]? = some c ∧ 0 ≤ c.e
 | 0, j, h => by cases h
 | n + 1, j, h => by
  unfold dnF at h
  split at h
  ·rename_i c hc
   split at h
   ·rename_i h0
    rcases List.mem_append.1 h with h | h
    ·have := dnF_mem l n j h; exact ⟨by omega, this.2⟩
    ·simp at h; subst h; exact ⟨by omega, c, hc, h0⟩
   ·have := dnF_mem l n j h; exact ⟨by omega, this.2⟩
  ·have := dnF_mem l n j h; exact ⟨by omega, this.2⟩
theorem dnF_len (l : List Cll) : ∀ n, (dnF l n).length ≤ n
 | 0 => by simp [dnF]
 | n + 1 => by
  have := dnF_len l n
  unfold dnF
  split
  ·split
   ·simp; omega
   ·omega
  ·omega
theorem dnF_pw (l : List Cll) : ∀ n, (dnF l n).Pairwise (· < ·)
 | 0 => by simp [dnF]
 | n + 1 => by
  have ih := dnF_pw l n
  unfold dnF
  split
  ·split
   ·rw [List.pairwise_append]
    refine ⟨ih, by simp, fun a ha b hb => ?_⟩
    have hb' : b = n := by simpa using hb
    rw [hb']
    exact (dnF_mem l n a ha).1
   ·exact ih
  ·exact ih
theorem dnF_pre (l : List Cll) (i : Nat) : ∀ n, i ≤ n → ∃ r, dnF l n = dnF l i ++ r
 | 0, h => by obtain rfl : i = 0 := by omega
              exact ⟨[], by simp⟩
 | n + 1, h => by
  by_cases e : i = n + 1
  ·subst e; exact ⟨[], by simp⟩
  ·obtain ⟨r, hr⟩ := dnF_pre l i n (by omega)
   rw [dnF]
   split
   ·split
    ·exact ⟨r ++ [n], by rw [hr, List.append_assoc]⟩
    ·exact ⟨r, hr⟩
   ·exact ⟨r, hr⟩
theorem dnL_at (l : List Cll) {i : Nat} {c : Cll} (h : l[i]? = some c) (h0 : 0 ≤ c.e) : (dnL l)[(dnF l i).length]? = some i := by
 have hi := (List.getElem?_eq_some_iff.1 h).1
 obtain ⟨r, hr⟩ := dnF_pre l (i + 1) l.length (by omega)
 have e : dnF l (i + 1) = dnF l i ++ [i] := by rw [dnF, h]; simp only; rw [if_pos h0]
 rw [dnL, hr, e, List.append_assoc, List.getElem?_append_right (Nat.le_refl _)]
 simp
theorem dnL_lt (l : List Cll) {a b x y : Nat} (h : a < b) (hx : (dnL l)[a]? = some x) (hy : (dnL l)[b]? = some y) : x < y := by
 obtain ⟨h1, rfl⟩ := List.getElem?_eq_some_iff.1 hx
 obtain ⟨h2, rfl⟩ := List.getElem?_eq_some_iff.1 hy
 exact List.pairwise_iff_getElem.1 (dnF_pw l l.length) a b h1 h2 h
def nxD (l : List Cll) (k i : Nat) : Int := match i with
 | 0 => -1
 | i + 1 => match (dnL l)[k]? with
  | some j => if j < i + 1 then (j : Int) else -1
  | none => -1
theorem nxD_eq (l : List Cll) (k i : Nat) : nxD l k i = match (dnL l)[k]? with
    | some j => if j < i then (j : Int) else -1
    | none => -1 := by
 cases i with
 | zero =>
  unfold nxD
  cases (dnL l)[k]? <;> simp
 | succ i => rfl
def laD (l : List Cll) (k : Nat) : Int := match k with
 | 0 => -1
 | k + 1 => match (dnL l)[k]? with
  | some j => match l[j]? with
   | some c => c.e
   | none => 0
  | none => 0
theorem c_ref14_behind (r : List Nat) (i : Nat) (hr : r.length < 1000000) (sg) : LL.call n_c_ref14_behind [.l .z 1 ((r ++ [i]).map eN), .i .i64 i] sg sg.length = some (.b false, sg, sg.length) := by
 refine wp_call e_c_ref14_behind rfl ?_
 have w1 : IntKind.i64.wrap (r.length : Int) = (r.length : Int) := wrap64 (by omega)
 have h0 : ¬ (r.length : Int) + 1 = 0 := by omega
 have h0' : ((r.length : Int) + 1 == 0) = false := by simp; omega
 simp [F_c_ref14_behind, w1, h0, h0', eN]
section
variable (l : List Cll) (H : Cls l) (sg : List (List D))
include H
set_option maxHeartbeats 4000000 in
theorem c_history_DoneL : LL.call n_history_Done [.l .z 12 (l.map eCll)] sg sg.length = some (.l .x 1 ((dnL l).map eN), sg, sg.length) := by
 refine wp_call e_history_Done rfl ?_
 simp [F_history_Done]
 refine wc_upb l.length (fun i (b : Bool) => if b then ⟨[(0, .v (.l .z 12 (l.map eCll))), (3, .q (.hdr 3)), (7, .v (.l .z 12 (l.map eCll))), (8, .v (.i .i64 l.length)), (9, .v (.i .i64 i))], [(3, [.l .x 1 ((dnF l i).map eN)])], sg, sg.length⟩
     else ⟨[(0, .v (.l .z 12 (l.map eCll))), (3, .v (.l .x 1 ((dnF l i).map eN))), (7, .v (.l .z 12 (l.map eCll))), (8, .v (.i .i64 l.length)), (9, .v (.i .i64 i))], [], sg, sg.length⟩)
  (fun i _ => True) ?_ ?_ false trivial
 ·intro i bb hi _ ih
  have ihf := ih false trivial
  have iht := ih true trivial
  simp only [if_true, if_false, Bool.false_eq_true] at ihf iht
  obtain ⟨c, q0⟩ : ∃ c, l[i] = c := ⟨_, rfl⟩
  have q1 : l[i]? = some c := by rw [← q0]; exact List.getElem?_eq_getElem hi
  have hc := mem_of_get q1
  obtain ⟨hb0, hbe, hbm⟩ := H.b c hc
  have hn := H.n
  have w1 : IntKind.i64.wrap ((i : Int) + 1) = (i : Int) + 1 := wrap64 (by omega)
  have hln := dnF_len l i
  by_cases h0 : c.e < 0
  ·have e1 : dnF l (i + 1) = dnF l i := by rw [dnF, q1]; simp only; rw [if_neg (by omega)]
   rw [e1] at ihf iht
   cases bb with
   | false =>
    simp [hi, q0, q1, eCll, h0, w1]
    simpa using ihf
   | true =>
    simp [hi, q0, q1, eCll, h0, w1]
    simpa using iht
  ·have e1 : dnF l (i + 1) = dnF l i ++ [i] := by rw [dnF, q1]; simp only; rw [if_pos (by omega)]
   rw [e1] at iht
   have hap : (dnF l i).length * 8 ≤ 140737488355328 := by omega
   have hap2 : ((dnF l i).length + 1) * 8 ≤ 140737488355328 := by omega
   cases bb
   all_goals
    simp [hi, q0, q1, eCll, h0, w1, hap, hap2]
    refine wc_loop ?_
    rcases List.eq_nil_or_concat (dnF l i) with h | ⟨r, k, h⟩
    ·rw [h] at iht ⊢
     simp [w1]
     simpa [eN] using iht
    ·rw [List.concat_eq_append] at h
     obtain ⟨hk, d, q2, h2⟩ := dnF_mem l i k (by rw [h]; simp)
     have h3 : ¬ c.e < d.e := by have := H.e k i d c hk q2 q1 h2 (by omega); omega
     rw [h] at iht ⊢
     have w2 : IntKind.i64.wrap (r.length : Int) = (r.length : Int) := wrap64 (by rw [h] at hln; simp at hln; omega)
     simp [w1, w2, q2, h3, eN, eCll]
     simpa [eN] using iht
 ·intro bb _
  cases bb <;> simp [dnL]
set_option maxHeartbeats 4000000 in
theorem c_ref14_DoneL : LL.call n_c_ref14_Done [.l .z 3 (l.map eP)] sg sg.length = some (.l .o 1 ((dnL l).map eN), sg, sg.length) := by
 refine wp_call e_c_ref14_Done rfl ?_
 have hn := H.n
 have hdl := dnF_len l l.length
 have hgo : ∀ (k : Nat) , k ≤ (dnL l).length → k < (dnL l).length → ∃ j c, (dnL l)[k]? = some j ∧ l[j]? = some c ∧ 0 ≤ c.e ∧ j < l.length := fun k _ h => by
  have hm := List.getElem_mem h
  obtain ⟨h1, c, h2, h3⟩ := dnF_mem l l.length _ hm
  exact ⟨_, c, List.getElem?_eq_getElem h, h2, h3, h1⟩
 simp [F_c_ref14_Done]
 refine wc_upb ((dnL l).length + 1) (fun k (_ : Unit) => ⟨[(0, .v (.l .z 3 (l.map eP))), (3, .v (.l .o 1 (((dnL l).take k).map eN))), (4, .v (.i .i64 (laD l k)))], [], sg, sg.length⟩)
  (fun k _ => k ≤ (dnL l).length) ?_ (fun _ h => by omega) () (by omega)
 intro k _ hk _ ih
 have hk' : k ≤ (dnL l).length := by omega
 have hlt : ((dnL l).take k).length = k := by simp; omega
 by_cases hfull : k = l.length
 ·have hd : (dnL l).length = k := by unfold dnL at hk' ⊢; omega
  have ht : (dnL l).take k = dnL l := by rw [← hd]; exact List.take_length
  rw [ht]
  have e : ¬ ((dnL l).length < l.length) := by omega
  simp [e]
 have hkl : k < l.length := by unfold dnL at hk'; omega
 generalize hou : (dnL l).take k = ou at *
 have e3 : ou.length < l.length := by omega
 simp [e3]
 refine wc_up l.length (fun i => ⟨[(0, .v (.l .z 3 (l.map eP))), (3, .v (.l .o 1 (ou.map eN))), (4, .v (.i .i64 (laD l k))), (5, .v (.i .i64 (nxD l k i))), (15, .v (.l .z 3 (l.map eP))), (16, .v (.i .i64 l.length)), (17, .v (.i .i64 i))], [], sg, sg.length⟩)
  (fun i => True) ?_ ?_ 0 (by omega) trivial
 ·intro i hi _ ih2
  have ih2 := ih2 trivial
  obtain ⟨c, q0⟩ : ∃ c, l[i] = c := ⟨_, rfl⟩
  have q1 : l[i]? = some c := by rw [← q0]; exact List.getElem?_eq_getElem hi
  obtain ⟨hb0, hbe, hbm⟩ := H.b c (mem_of_get q1)
  have w1 : IntKind.i64.wrap ((i : Int) + 1) = (i : Int) + 1 := wrap64 (by omega)
  by_cases h0 : c.e < 0
  ·have e4 : nxD l k (i + 1) = nxD l k i := by
    rw [nxD_eq, nxD_eq]
    cases hj : (dnL l)[k]? with
    | none => rfl
    | some j =>
     simp only
     have hne : j ≠ i := by
      rintro rfl
      obtain ⟨_, d, h2, h3⟩ := dnF_mem l l.length j (mem_of_get hj)
      rw [q1] at h2; cases h2; omega
     by_cases h : j < i
     ·rw [if_pos h, if_pos (by omega)]
     ·rw [if_neg h, if_neg (by omega)]
   rw [e4] at ih2
   simp [hi, q0, q1, eP, h0, w1]
   simpa [eP] using ih2
  ·have hat := dnL_at l q1 (by omega)
   generalize ha : (dnF l i).length = a at hat
   have hcase : (a < k ∧ ((c.e < laD l k) ∨ (¬ c.e < laD l k ∧ (c.e == laD l k) = true ∧ ∃ r, ou = r ++ [i]))) ∨ (k ≤ a ∧ ¬ c.e < laD l k ∧ (c.e == laD l k) = false) := by
    cases k with
    | zero => exact .inr ⟨by omega, by simp [laD]; omega, by simp [laD]; omega⟩
    | succ k =>
     obtain ⟨j, d, g1, g2, g3, g4⟩ := hgo k (by omega) (by omega)
     have el : laD l (k + 1) = d.e := by simp [laD, g1, g2]
     rw [el]
     rcases Nat.lt_trichotomy a k with h | h | h
     ·have := H.e i j c d (dnL_lt l h hat g1) q1 g2 (by omega) g3
      exact .inl ⟨by omega, .inl this⟩
     ·subst h
      rw [hat] at g1
      cases g1
      rw [q1] at g2
      cases g2
      refine .inl ⟨by omega, .inr ⟨by omega, by simp, (dnL l).take a, ?_⟩⟩
      rw [← hou, List.take_add_one, hat]; rfl
     ·have := H.e j i d c (dnL_lt l h g1 hat) g2 q1 g3 (by omega)
      exact .inr ⟨by omega, by omega, by simp; omega⟩
   rcases hcase with ⟨h1, h2⟩ | ⟨h1, h2, h3⟩
   ·have e4 : nxD l k (i + 1) = nxD l k i := by
     rw [nxD_eq, nxD_eq]
     cases hj : (dnL l)[k]? with
     | none => rfl
     | some j =>
      simp only
      have := dnL_lt l h1 hat hj
      rw [if_neg (by omega), if_neg (by omega)]
    rw [e4] at ih2
    rcases h2 with h2 | ⟨h2, h3, r, rfl⟩
    ·simp [hi, q0, q1, eP, h0, w1, h2]
     simpa [eP] using ih2
    ·have Bh := c_ref14_behind r i (by simp at hlt; omega) sg
     simp [eN] at Bh
     simp [hi, q0, q1, eP, h0, w1, h2, h3, Bh, eN]
     simpa [eP, eN] using ih2
   ·by_cases h4 : a = k
    ·subst h4
     have e4 : nxD l a i = -1 := by rw [nxD_eq, hat]; simp
     have e5 : nxD l a (i + 1) = i := by rw [nxD_eq, hat]; simp
     rw [e5] at ih2
     rw [e4]
     simp [hi, q0, q1, eP, h0, w1, h2, h3]
     simpa [eP] using ih2
    ·obtain ⟨j, d, g1, g2, g3, g4⟩ := hgo k hk' (by have := (List.getElem?_eq_some_iff.1 hat).1; omega)
     have hji := dnL_lt l (show k < a by omega) g1 hat
     have e4 : nxD l k i = j := by rw [nxD_eq, g1]; simp [hji]
     have e5 : nxD l k (i + 1) = j := by rw [nxD_eq, g1]; simp only; rw [if_pos (by omega)]
     have g5 := H.e j i d c hji g2 q1 g3 (by omega)
     have g6 : ¬ c.e < d.e := by omega
     rw [e5] at ih2
     rw [e4]
     have n0 : ¬ ((j : Int) < 0) := by omega
     have g7 : l[j] = d := by have := g2; rw [List.getElem?_eq_getElem g4] at this; exact Option.some.inj this
     simp [hi, q0, q1, eP, h0, w1, h2, h3, g4, g7, g6, n0]
     simpa [eP] using ih2
 ·intro _
  by_cases hf : k < (dnL l).length
  ·obtain ⟨j, d, g1, g2, g3, g4⟩ := hgo k hk' hf
   have e4 : nxD l k l.length = j := by rw [nxD_eq, g1]; simp [g4]
   have ih := ih () (by omega)
   have e5 : laD l (k + 1) = d.e := by simp [laD, g1, g2]
   have e6 : (dnL l).take (k + 1) = ou ++ [j] := by rw [List.take_add_one, hou, g1]; rfl
   rw [e5, e6] at ih
   have hap : ou.length * 8 ≤ 140737488355328 := by omega
   have hap2 : (ou.length + 1) * 8 ≤ 140737488355328 := by omega
   rw [e4]
   have n0 : ¬ ((j : Int) < 0) := by omega
   have g7 : l[j] = d := by have := g2; rw [List.getElem?_eq_getElem g4] at this; exact Option.some.inj this
   simp [g4, g7, n0, eP, hap, hap2]
   simpa [eP, eN] using ih
  ·have e4 : nxD l k l.length = -1 := by rw [nxD_eq, List.getElem?_eq_none (by omega)]
   have e7 : ou = dnL l := by rw [← hou]; exact List.take_of_length_le (by omega)
   rw [e4]
   simp [e7]
end
end Go.AM

namespace Go.AM
def addO (at_ : Int) : Int → List Cll → Int
 | n, [] => n
 | n, c :: r => addO at_ (if c.o.k = 5 ∧ 0 ≤ c.e ∧ c.e < at_ then n + c.o.x.v else n) r
def cntO (at_ : Int) : Int → List Cll → Int
 | n, [] => n
 | n, c :: r => cntO at_ (if c.o.k = 7 ∧ c.b ≤ at_ then n + 1 else n) r
def mapC (N : List Int) : List D := N.flatMap (fun n => [.i .i64 n, .i .i64 1])
theorem mfind_mapC (n : Int) : ∀ N : List Int, mfind false (.i .i64 n) (mapC N) = some (if n ∈ N then some (.i .i64 1) else none)
 | [] => rfl
 | m :: N => by
  have e : mapC (m :: N) = .i .i64 m :: .i .i64 1 :: mapC N := rfl
  rw [e, mfind, mkey]
  by_cases h : n = m
  ·subst h; simp
  ·have h' : (n == m) = false := by simp [h]
   simp [h, h', mfind_mapC n N]
theorem mset_mapC (n : Int) : ∀ N : List Int, n ∉ N → mset false (.i .i64 n) (.i .i64 1) (mapC N) = some (mapC (N ++ [n]))
 | [], _ => by simp [mapC, mset, mkey]
 | m :: N, h => by
  have e : mapC (m :: N) = .i .i64 m :: .i .i64 1 :: mapC N := rfl
  have h1 : ¬ n = m := fun h2 => h (by simp [h2])
  have h2 : n ∉ N := fun h2 => h (by simp [h2])
  rw [e, mset, mkey]
  simp only [if_true, beq_eq_false_iff_ne.2 h1, mset_mapC n N h2]
  rfl
def mayO (n0 : Int) (l : List Cll) (N : List Int) (c : Cll) : Bool :=
 if c.o.k = 6 then decide (addO c.b n0 l ≤ c.a.n ∧ c.a.n ≤ addO c.e n0 l) else
 if c.o.k = 7 then decide (c.a.n ∉ N ∧ n0 ≤ c.a.n ∧ c.a.n < cntO c.e n0 l) else true
def eJ (K : K) (v0 v : Vl) (p : Int) (l : List Cll) (mr : Nat) : List D :=
 [.i .i64 v0.k, .l .z 2 (v0.is.map eI), .i .i64 v0.n, .i .i64 v.k, .l K 2 (v.is.map eI), .i .i64 v.n, .i .i64 p, .l .z 12 (l.map eCll), .mo mr]
section
variable (K : AM.K) (v0 v : Vl) (p : Int) (l : List Cll) (mr : Nat) (sg : List (List D)) (jr : Nat) (hJ : sg[jr]? = some (eJ K v0 v p l mr))
 (hv : ∀ c ∈ l, c.o.k = 5 → 0 ≤ c.o.x.v ∧ c.o.x.v ≤ 4294967296) (hn : l.length ≤ 1000) (h0 : 0 ≤ v0.n ∧ v0.n ≤ 1125899906842624)
include hJ hv hn h0
set_option maxHeartbeats 2000000 in
theorem c_lax_added (at_ : Int) : LL.call n_lax_judge_added [.p jr 0, .i .i64 at_] sg sg.length = some (.i .i64 (addO at_ v0.n l), sg, sg.length) := by
 refine wp_call e_lax_judge_added rfl ?_
 simp [eJ] at hJ
 simp [F_lax_judge_added, hJ]
 refine wc_list l (fun i (b : Int) => ⟨[(1, .v (.i .i64 at_)), (5, .v (.i .i64 b)), (16, .v (.l .z 12 (l.map eCll))), (17, .v (.i .i64 l.length)), (18, .v (.i .i64 i))], [], sg, sg.length⟩)
  (fun r b => addO at_ b r = addO at_ v0.n l ∧ (∀ c ∈ r, c ∈ l) ∧ 0 ≤ b ∧ b + r.length * 4294967296 ≤ 1125899906842624 + 1000 * 4294967296) ?_ ?_ v0.n ⟨rfl, fun _ h => h, h0.1, by omega⟩
 ·rintro i c r b q1 hi ⟨g1, g2, g3, g4⟩ ih
  have w1 : IntKind.i64.wrap ((i : Int) + 1) = (i : Int) + 1 := wrap64 (by omega)
  simp only [addO, List.length_cons] at g1 g4
  have g4' : b + 4294967296 + r.length * 4294967296 ≤ 1125899906842624 + 1000 * 4294967296 := by push_cast at g4; omega
  have q0 : l[i] = c := by have := q1; rw [List.getElem?_eq_getElem hi] at this; exact Option.some.inj this
  by_cases h1 : c.o.k = 5
  ·have hx := hv c (g2 c (by simp)) h1
   by_cases h2 : 0 ≤ c.e
   ·by_cases h3 : c.e < at_
    ·rw [if_pos ⟨h1, h2, h3⟩] at g1
     have ih := ih (b + c.o.x.v) ⟨g1, fun d hd => g2 d (by simp [hd]), by omega, by omega⟩
     have w2 : IntKind.i64.wrap (b + c.o.x.v) = b + c.o.x.v := wrap64 (by omega)
     simp [hi, q0, eCll, h1, h2, h3, w1, w2]
     simpa [eCll] using ih
    ·rw [if_neg (by omega)] at g1
     have ih := ih b ⟨g1, fun d hd => g2 d (by simp [hd]), by omega, by omega⟩
     simp [hi, q0, eCll, h1, h2, h3, w1]
     simpa [eCll] using ih
   ·rw [if_neg (by omega)] at g1
    have ih := ih b ⟨g1, fun d hd => g2 d (by simp [hd]), by omega, by omega⟩
    simp [hi, q0, eCll, h1, h2, w1]
    simpa [eCll] using ih
  ·rw [if_neg (by omega)] at g1
   have ih := ih b ⟨g1, fun d hd => g2 d (by simp [hd]), by omega, by omega⟩
   have h1' : (c.o.k == 5) = false := by simp [h1]
   simp [hi, q0, eCll, h1', w1]
   simpa [eCll] using ih
 ·rintro b ⟨g1, _⟩
  simp only [addO] at g1
  subst g1
  simp
set_option maxHeartbeats 2000000 in
theorem c_lax_came (at_ : Int) : LL.call n_lax_judge_came [.p jr 0, .i .i64 at_] sg sg.length = some (.i .i64 (cntO at_ v0.n l), sg, sg.length) := by
 refine wp_call e_lax_judge_came rfl ?_
 simp [eJ] at hJ
 simp [F_lax_judge_came, hJ]
 refine wc_list l (fun i (b : Int) => ⟨[(1, .v (.i .i64 at_)), (5, .v (.i .i64 b)), (16, .v (.l .z 12 (l.map eCll))), (17, .v (.i .i64 l.length)), (18, .v (.i .i64 i))], [], sg, sg.length⟩)
  (fun r b => cntO at_ b r = cntO at_ v0.n l ∧ 0 ≤ b ∧ b + r.length ≤ 1125899906842624 + 1000) ?_ ?_ v0.n ⟨rfl, h0.1, by omega⟩
 ·rintro i c r b q1 hi ⟨g1, g3, g4⟩ ih
  have w1 : IntKind.i64.wrap ((i : Int) + 1) = (i : Int) + 1 := wrap64 (by omega)
  simp only [cntO, List.length_cons] at g1 g4
  have q0 : l[i] = c := by have := q1; rw [List.getElem?_eq_getElem hi] at this; exact Option.some.inj this
  by_cases h1 : c.o.k = 7
  ·by_cases h2 : c.b ≤ at_
   ·rw [if_pos ⟨h1, h2⟩] at g1
    have ih := ih (b + 1) ⟨g1, by omega, by omega⟩
    have w2 : IntKind.i64.wrap (b + 1) = b + 1 := wrap64 (by omega)
    simp [hi, q0, eCll, h1, h2, w1, w2]
    simpa [eCll] using ih
   ·rw [if_neg (by omega)] at g1
    have ih := ih b ⟨g1, by omega, by omega⟩
    simp [hi, q0, eCll, h1, h2, w1]
    simpa [eCll] using ih
  ·rw [if_neg (by omega)] at g1
   have ih := ih b ⟨g1, by omega, by omega⟩
   have h1' : (c.o.k == 7) = false := by simp [h1]
   simp [hi, q0, eCll, h1', w1]
   simpa [eCll] using ih
 ·rintro b ⟨g1, _⟩
  simp only [cntO] at g1
  subst g1
  simp
theorem c_lax_may (N : List Int) (hm : sg[mr]? = some (.u :: mapC N)) (c : Cll) :
    LL.call n_lax_judge_may [.p jr 0, eCll c] sg sg.length = some (.b (mayO v0.n l N c), if c.o.k = 7 ∧ mayO v0.n l N c = true then sg.set mr (.u :: mapC (N ++ [c.a.n])) else sg, sg.length) := by
 have A1 := c_lax_added K v0 v p l mr sg jr hJ hv hn h0 c.b
 have A2 := c_lax_added K v0 v p l mr sg jr hJ hv hn h0 c.e
 have C1 := c_lax_came K v0 v p l mr sg jr hJ hv hn h0 c.e
 have M := mfind_mapC c.a.n N
 simp [eJ] at hJ
 refine wp_call e_lax_judge_may rfl ?_
 by_cases h6 : c.o.k = 6
 ·have e : mayO v0.n l N c = decide (addO c.b v0.n l ≤ c.a.n ∧ c.a.n ≤ addO c.e v0.n l) := by unfold mayO; rw [if_pos h6]
  rw [if_neg (by omega), e]
  by_cases g1 : addO c.b v0.n l ≤ c.a.n
  ·by_cases g2 : c.a.n ≤ addO c.e v0.n l
   ·simp [F_lax_judge_may, eCll, h6, A1, A2, g1, g2]
   ·simp [F_lax_judge_may, eCll, h6, A1, A2, g1, g2]
  ·simp [F_lax_judge_may, eCll, h6, A1, A2, g1]
 ·have h6' : (c.o.k == 6) = false := by simp [h6]
  by_cases h7 : c.o.k = 7
  ·have e : mayO v0.n l N c = decide (c.a.n ∉ N ∧ v0.n ≤ c.a.n ∧ c.a.n < cntO c.e v0.n l) := by unfold mayO; rw [if_neg h6, if_pos h7]
   rw [e]
   by_cases g1 : c.a.n ∈ N
   ·rw [if_pos g1] at M
    simp [F_lax_judge_may, eCll, h6', h7, hJ, hm, M, g1]
   ·rw [if_neg g1] at M
    have S := mset_mapC c.a.n N g1
    by_cases g2 : v0.n ≤ c.a.n
    ·have g2' : ¬ c.a.n < v0.n := by omega
     by_cases g3 : c.a.n < cntO c.e v0.n l
     ·have g3' : ¬ cntO c.e v0.n l ≤ c.a.n := by omega
      have w1 : IntKind.i64.wrap 1 = 1 := by decide
      simp [F_lax_judge_may, eCll, h6', h7, hJ, hm, M, g1, g2, g2', g3, g3', C1, w1, S]
      exact List.take_of_length_le (by simp)
     ·have g3' : cntO c.e v0.n l ≤ c.a.n := by omega
      simp [F_lax_judge_may, eCll, h6', h7, hJ, hm, M, g1, g2, g2', g3, g3', C1]
    ·have g2' : c.a.n < v0.n := by omega
     simp [F_lax_judge_may, eCll, h6', h7, hJ, hm, M, g1, g2, g2']
  ·have h7' : (c.o.k == 7) = false := by simp [h7]
   have e : mayO v0.n l N c = true := by unfold mayO; rw [if_neg h6, if_neg h7]
   rw [if_neg (by omega), e]
   simp [F_lax_judge_may, eCll, h6', h7']
end
end Go.AM

namespace Go.AM
def eTc (K : K) (c : Cll) : List D := [.i .i64 c.o.k, .i .u64 c.o.x.canon.p, .i .i64 c.o.x.v, .i .i64 0, .i .i64 0, .i .i64 0, .i .i64 0, .i .i64 0, .i .i64 0, .i .i64 0, .b false, .i .i64 0, .i .i64 0, .i .i64 0, .l K 2 [], .i .i64 0, .l K 2 [],
 .i .i64 c.b, .i .i64 c.e, .b c.a.ok, .i .u64 c.a.x.canon.p, .i .i64 c.a.x.v, .i .i64 c.a.n]
def eTl (K : K) (c : Cll) : D := .a (eTc K c)
instance : Flat (eTl .z) := ⟨fun _ => rfl, fun _ => rfl, fun _ _ => rfl⟩
theorem zzs_eTc (c : Cll) : D.zzs (eTc .z c) = eTc .z c := rfl
def numsD (l : List Cll) (dk : List Nat) : List Int := dk.filterMap (fun j => match l[j]? with
 | some d => if d.o.k = 7 then some d.a.n else none
 | none => none)
theorem numsD_snoc (l : List Cll) (dk : List Nat) (j : Nat) (d : Cll) (h : l[j]? = some d) : numsD l (dk ++ [j]) = numsD l dk ++ (if d.o.k = 7 then [d.a.n] else []) := by
 unfold numsD
 rw [List.filterMap_append]
 congr 1
 simp only [List.filterMap_cons, h, List.filterMap_nil]
 split <;> rename_i h' <;> split at h' <;> simp_all
section
variable (l : List Cll) (n0 : Int) (c : Cll) (dk : List Nat) (sg : List (List D))
 (hv : ∀ c ∈ l, c.o.k = 5 → 0 ≤ c.o.x.v ∧ c.o.x.v ≤ 4294967296) (hn : l.length ≤ 1000) (h0 : 0 ≤ n0 ∧ n0 ≤ 1125899906842624) (hdk : ∀ j ∈ dk, j < l.length) (hdn : dk.length ≤ 1000)
include hv hn h0 hdk hdn
set_option maxHeartbeats 4000000 in
theorem c_ref15_number : LL.call n_c_ref15_number [.i .i64 n0, .l .z 23 (l.map (eTl .z)), .l .z 1 (dk.map eN), eTl .z c] sg sg.length = some (.b (mayO n0 l (numsD l dk) c), sg, sg.length) := by
 generalize hT : mayO n0 l (numsD l dk) c = T
 unfold mayO at hT
 refine wp_call e_c_ref15_number rfl ?_
 simp [F_c_ref15_number]
 simp [eTl, zzs_eTc]
 refine wc_list l (fun i (b : Int × Int) => ⟨[(0, .v (.i .i64 n0)), (1, .v (.l .z 23 (l.map (eTl .z)))), (2, .v (.l .z 1 (dk.map eN))), (7, .q (.ptr 7 0)), (9, .v (.i .i64 b.1)), (10, .v (.i .i64 b.2)), (20, .v (.l .z 23 (l.map (eTl .z)))), (21, .v (.i .i64 l.length)), (22, .v (.i .i64 i))], [(7, eTc .z c)], sg, sg.length⟩)
  (fun r b => (addO c.b b.1 r = addO c.b n0 l ∧ addO c.e b.2 r = addO c.e n0 l) ∧ (∀ c ∈ r, c ∈ l) ∧ (0 ≤ b.1 ∧ b.1 + r.length * 4294967296 ≤ 1125899906842624 + 1000 * 4294967296) ∧ (0 ≤ b.2 ∧ b.2 + r.length * 4294967296 ≤ 1125899906842624 + 1000 * 4294967296)) ?_ ?_ (n0, n0) ⟨⟨rfl, rfl⟩, fun _ h => h, ⟨h0.1, by simp only; omega⟩, ⟨h0.1, by simp only; omega⟩⟩
 ·rintro i d r ⟨b1, b2⟩ q1 hi ⟨⟨g1, g1'⟩, g2, ⟨g3, g4⟩, ⟨g5, g6⟩⟩ ih
  have w1 : IntKind.i64.wrap ((i : Int) + 1) = (i : Int) + 1 := wrap64 (by omega)
  simp only [addO, List.length_cons] at g1 g1' g3 g4 g5 g6
  have g4' : b1 + 4294967296 + r.length * 4294967296 ≤ 1125899906842624 + 1000 * 4294967296 := by push_cast at g4; omega
  have g6' : b2 + 4294967296 + r.length * 4294967296 ≤ 1125899906842624 + 1000 * 4294967296 := by push_cast at g6; omega
  have q0 : l[i] = d := by have := q1; rw [List.getElem?_eq_getElem hi] at this; exact Option.some.inj this
  have g2r : ∀ c ∈ r, c ∈ l := fun d hd => g2 d (by simp [hd])
  by_cases h1 : d.o.k = 5
  ·have hx := hv d (g2 d (by simp)) h1
   have w2 : IntKind.i64.wrap (b1 + d.o.x.v) = b1 + d.o.x.v := wrap64 (by omega)
   have w3 : IntKind.i64.wrap (b2 + d.o.x.v) = b2 + d.o.x.v := wrap64 (by omega)
   by_cases h2 : 0 ≤ d.e
   ·by_cases h3 : d.e < c.b
    ·rw [if_pos ⟨h1, h2, h3⟩] at g1
     by_cases h4 : d.e < c.e
     ·rw [if_pos ⟨h1, h2, h4⟩] at g1'
      have ih := ih (b1 + d.o.x.v, b2 + d.o.x.v) ⟨⟨g1, g1'⟩, g2r, ⟨by simp only; omega, by simp only; omega⟩, ⟨by simp only; omega, by simp only; omega⟩⟩
      simp [hi, q0, eTl, eTc, h1, h2, h3, h4, w1, w2, w3]
      simpa [eTl, eTc] using ih
     ·rw [if_neg (by omega)] at g1'
      have ih := ih (b1 + d.o.x.v, b2) ⟨⟨g1, g1'⟩, g2r, ⟨by simp only; omega, by simp only; omega⟩, ⟨by simp only; omega, by simp only; omega⟩⟩
      simp [hi, q0, eTl, eTc, h1, h2, h3, h4, w1, w2, w3]
      simpa [eTl, eTc] using ih
    ·rw [if_neg (by omega)] at g1
     by_cases h4 : d.e < c.e
     ·rw [if_pos ⟨h1, h2, h4⟩] at g1'
      have ih := ih (b1, b2 + d.o.x.v) ⟨⟨g1, g1'⟩, g2r, ⟨by simp only; omega, by simp only; omega⟩, ⟨by simp only; omega, by simp only; omega⟩⟩
      simp [hi, q0, eTl, eTc, h1, h2, h3, h4, w1, w2, w3]
      simpa [eTl, eTc] using ih
     ·rw [if_neg (by omega)] at g1'
      have ih := ih (b1, b2) ⟨⟨g1, g1'⟩, g2r, ⟨by simp only; omega, by simp only; omega⟩, ⟨by simp only; omega, by simp only; omega⟩⟩
      simp [hi, q0, eTl, eTc, h1, h2, h3, h4, w1, w2, w3]
      simpa [eTl, eTc] using ih
   ·rw [if_neg (by omega)] at g1 g1'
    have ih := ih (b1, b2) ⟨⟨g1, g1'⟩, g2r, ⟨by simp only; omega, by simp only; omega⟩, ⟨by simp only; omega, by simp only; omega⟩⟩
    simp [hi, q0, eTl, eTc, h1, h2, w1]
    simpa [eTl, eTc] using ih
  ·rw [if_neg (by omega)] at g1 g1'
   have ih := ih (b1, b2) ⟨⟨g1, g1'⟩, g2r, ⟨by simp only; omega, by simp only; omega⟩, ⟨by simp only; omega, by simp only; omega⟩⟩
   have h1' : (d.o.k == 5) = false := by simp [h1]
   simp [hi, q0, eTl, eTc, h1', w1]
   simpa [eTl, eTc] using ih
 ·rintro ⟨b1, b2⟩ ⟨⟨g1, g1'⟩, _⟩
  simp only [addO] at g1 g1'
  subst g1 g1'
  by_cases h6 : c.o.k = 6
  ·rw [if_pos h6] at hT
   subst hT
   by_cases e1 : addO c.b n0 l ≤ c.a.n
   ·by_cases e2 : c.a.n ≤ addO c.e n0 l
    ·simp [eTc, h6, e1, e2]
    ·simp [eTc, h6, e1, e2]
   ·simp [eTc, h6, e1]
  ·rw [if_neg h6] at hT
   have h6' : (c.o.k == 6) = false := by simp [h6]
   by_cases h7 : c.o.k = 7
   ·rw [if_pos h7] at hT
    have h7' : (c.o.k != 7) = false := by simp [h7]
    simp [eTc, h6', h7']
    refine wc_list l (fun i (b : Int) => ⟨[(0, .v (.i .i64 n0)), (1, .v (.l .z 23 (l.map (eTl .z)))), (2, .v (.l .z 1 (dk.map eN))), (7, .q (.ptr 7 0)), (13, .v (.i .i64 b)), (92, .v (.l .z 23 (l.map (eTl .z)))), (93, .v (.i .i64 l.length)), (94, .v (.i .i64 i))], [(7, eTc .z c)], sg, sg.length⟩)
     (fun r b => cntO c.e b r = cntO c.e n0 l ∧ 0 ≤ b ∧ b + r.length ≤ 1125899906842624 + 1000) ?_ ?_ n0 ⟨rfl, h0.1, by omega⟩
    ·rintro i d r b q1 hi ⟨g1, g3, g4⟩ ih
     have w1 : IntKind.i64.wrap ((i : Int) + 1) = (i : Int) + 1 := wrap64 (by omega)
     simp only [cntO, List.length_cons] at g1 g4
     have q0 : l[i] = d := by have := q1; rw [List.getElem?_eq_getElem hi] at this; exact Option.some.inj this
     by_cases h1 : d.o.k = 7
     ·by_cases h2 : d.b ≤ c.e
      ·rw [if_pos ⟨h1, h2⟩] at g1
       have ih := ih (b + 1) ⟨g1, by omega, by omega⟩
       have w2 : IntKind.i64.wrap (b + 1) = b + 1 := wrap64 (by omega)
       simp [hi, q0, eTl, eTc, h1, h2, w1, w2]
       simpa [eTl, eTc] using ih
      ·rw [if_neg (by omega)] at g1
       have ih := ih b ⟨g1, by omega, by omega⟩
       simp [hi, q0, eTl, eTc, h1, h2, w1]
       simpa [eTl, eTc] using ih
     ·rw [if_neg (by omega)] at g1
      have ih := ih b ⟨g1, by omega, by omega⟩
      have h1' : (d.o.k == 7) = false := by simp [h1]
      simp [hi, q0, eTl, eTc, h1', w1]
      simpa [eTl, eTc] using ih
    ·rintro b ⟨g1, _⟩
     simp only [cntO] at g1
     subst g1
     simp
     refine wc_up dk.length (fun i => ⟨[(0, .v (.i .i64 n0)), (1, .v (.l .z 23 (l.map (eTl .z)))), (7, .q (.ptr 7 0)), (13, .v (.i .i64 (cntO c.e n0 l))), (112, .v (.l .z 1 (dk.map eN))), (113, .v (.i .i64 dk.length)), (114, .v (.i .i64 i))], [(7, eTc .z c)], sg, sg.length⟩)
      (fun i => c.a.n ∉ numsD l (dk.take i)) ?_ ?_ 0 (by omega) (by simp [numsD])
     ·intro i hi hp ih
      have w1 : IntKind.i64.wrap ((i : Int) + 1) = (i : Int) + 1 := wrap64 (by omega)
      obtain ⟨j, q0⟩ : ∃ j, dk[i] = j := ⟨_, rfl⟩
      have q1 : dk[i]? = some j := by rw [← q0]; exact List.getElem?_eq_getElem hi
      have hj := hdk j (mem_of_get q1)
      obtain ⟨d, q2⟩ : ∃ d, l[j] = d := ⟨_, rfl⟩
      have q3 : l[j]? = some d := by rw [← q2]; exact List.getElem?_eq_getElem hj
      have et : dk.take (i + 1) = dk.take i ++ [j] := by rw [List.take_add_one, q1]; rfl
      rw [et, numsD_snoc l _ j d q3] at ih
      have eal : numsD l dk = numsD l (dk.take i) ++ ((if d.o.k = 7 then [d.a.n] else []) ++ numsD l (dk.drop (i + 1))) := by
       rw [← List.append_assoc, ← numsD_snoc l _ j d q3, ← et]
       unfold numsD
       rw [← List.filterMap_append, List.take_append_drop]
      by_cases h1 : d.o.k = 7
      ·rw [if_pos h1] at ih eal
       by_cases h2 : d.a.n = c.a.n
       ·have : c.a.n ∈ numsD l dk := by rw [eal, ← h2]; simp
        have hT' : T = false := by rw [← hT]; simp [this]
        subst hT'
        simp [hi, q0, hj, q2, eTl, eTc, h1, h2, eN]
       ·have ih := ih (by simp only [List.mem_append, List.mem_singleton, not_or]; exact ⟨hp, fun h => h2 h.symm⟩)
        have h2' : (d.a.n == c.a.n) = false := by simp [h2]
        simp [hi, q0, hj, q2, eTl, eTc, h1, h2', eN, w1]
        simpa [eTl, eTc, eN] using ih
      ·rw [if_neg h1] at ih
       have ih := ih (by simpa using hp)
       have h1' : (d.o.k == 7) = false := by simp [h1]
       simp [hi, q0, hj, q2, eTl, eTc, h1', eN, w1]
       simpa [eTl, eTc, eN] using ih
     ·intro hp
      rw [List.take_length] at hp
      subst hT
      by_cases e1 : n0 ≤ c.a.n
      ·by_cases e2 : c.a.n < cntO c.e n0 l
       ·simp [eTc, hp, e1, e2]
       ·simp [eTc, hp, e1, e2]
      ·simp [eTc, hp, e1]
   ·rw [if_neg h7] at hT
    subst hT
    have h7' : (c.o.k != 7) = true := by simp [h7]
    simp [eTc, h6', h7']
end
end Go.AM

namespace Go.AM
theorem canonOk {x : It} (h : x.ok) : x.canon.ok := ⟨canon_lt h.1, h.2⟩
theorem canonTwo (x : It) : x.canon.canon = x.canon := by simp [It.canon, canon_canon]
theorem aftV_cn (v : Vl) (o : Int) (x : It) (ok : Bool) (ai : It) (param : Int) : aftV v o x.canon ok ai param = aftV v o x ok ai param := by
 have e2 : x.canon.v = x.v := rfl
 simp only [aftV, List.map_append, List.map_cons, List.map_nil, canonTwo, e2]
structure GV (k : Int) (m : Nat) (v : Vl) : Prop where
 kd : v.k = k
 it : ∀ y ∈ v.is, y.ok ∧ y.canon = y
 so : k = 1 → v.is.Pairwise leI
 l : v.is.length ≤ 20 + m
 n : 0 ≤ v.n ∧ v.n ≤ 1099511627776 + m * 4294967296
structure Cops (k : Int) (l : List Cll) : Prop where
 o : ∀ c ∈ l, 2 * k - 1 ≤ c.o.k ∧ c.o.k ≤ (if k = 4 then 7 else 2 * k)
 v : ∀ c ∈ l, c.o.k = 5 → 0 ≤ c.o.x.v ∧ c.o.x.v ≤ 4294967296
 x : ∀ c ∈ l, c.o.x.ok
 a : ∀ c ∈ l, c.a.x.ok
theorem outI_mem {x : It} {l l' : List It} {m : Int} (h : outI x l m = some l') : (∀ y ∈ l', y ∈ l) ∧ l'.length ≤ l.length ∧ (l.Pairwise leI → l'.Pairwise leI) := by
 unfold outI at h
 split at h
 ·cases h
 ·cases h
  exact ⟨fun y hy => List.mem_of_mem_eraseIdx hy, by rw [List.length_eraseIdx]; split <;> omega, fun hp => hp.sublist (List.eraseIdx_sublist _ _)⟩
theorem GV.aft {k : Int} {m : Nat} {v : Vl} (h : GV k m v) (hk : 1 ≤ k ∧ k ≤ 4) {o : Int} {x ai : It} {ok : Bool} {p : Int} (ho : 2 * k - 1 ≤ o ∧ o ≤ (if k = 4 then 7 else 2 * k)) (hv : o = 5 → 0 ≤ x.v ∧ x.v ≤ 4294967296) (hx : x.ok) :
    GV k (m + 1) (aftV v o x ok ai p).1 := by
 obtain ⟨f1, f2, f3, f4, f5⟩ := h
 have same : GV k (m + 1) v := ⟨f1, f2, f3, by omega, by push_cast; omega⟩
 unfold aftV
 split
 ·exact same
 split
 ·rename_i h1
  refine ⟨f1, ?_, fun _ => (ordered_pw _).1 (sortI_ordered _), ?_, by simp only; push_cast; omega⟩
  ·intro y hy
   obtain ⟨z, hz, rfl⟩ := List.mem_map.1 ((sortI_perm _).mem_iff.1 hy)
   refine ⟨canonOk ?_, canonTwo z⟩
   rcases List.mem_append.1 hz with hz | hz
   ·exact (f2 z hz).1
   ·simp at hz; subst hz; exact hx
  ·simp only [sortI_len, List.length_map, List.length_append, List.length_singleton]; omega
 split
 ·rename_i h1
  refine ⟨f1, ?_, fun h => by split at ho <;> omega, by simp; omega, by simp only; push_cast; omega⟩
  intro y hy
  rcases List.mem_append.1 hy with hy | hy
  ·exact f2 y hy
  ·simp at hy; subst hy; exact ⟨canonOk hx, canonTwo x⟩
 split
 ·split
  ·rename_i l' hl
   obtain ⟨g1, g2, g3⟩ := outI_mem hl
   exact ⟨f1, fun y hy => f2 y (g1 y hy), fun h => g3 (f3 h), by simp only; omega, by simp only; push_cast; omega⟩
  ·exact same
 split
 ·split
  ·rename_i l' hl
   obtain ⟨g1, g2, g3⟩ := outI_mem hl
   exact ⟨f1, fun y hy => f2 y (g1 y hy), fun h => g3 (f3 h), by simp only; omega, by simp only; push_cast; omega⟩
  ·exact same
 split
 ·rename_i h5
  have := hv h5
  exact ⟨f1, f2, f3, by simp only; omega, by simp only; push_cast; omega⟩
 split
 ·exact ⟨f1, f2, f3, by simp only; omega, by simp only; push_cast; omega⟩
 ·exact same
theorem checkO_0 {k o v : Int} (hk : 1 ≤ k ∧ k ≤ 4) (ho : 2 * k - 1 ≤ o ∧ o ≤ (if k = 4 then 7 else 2 * k)) (hv : o = 5 → 0 ≤ v ∧ v ≤ 4294967296) : checkO k o v = 0 := by
 unfold checkO
 rw [if_neg (by omega), if_neg (by omega), if_neg]
 rintro ⟨h1, h2⟩
 have := hv h1
 omega
def tF (c : Cll) : FrR := ⟨⟨c.o.k, c.o.x.canon, 0, 0⟩, 0, 0, 0, 0, 0, false, 0, 0, 0, [], 0, []⟩
def runL (n0 p : Int) (l : List Cll) : Vl → List Nat → List Nat → Vl × Int
 | v, _, [] => (v, -1)
 | v, dk, j :: r => match l[j]? with
  | none => (v, -1)
  | some c => if (aftV v c.o.k c.o.x c.a.ok c.a.x p).2 = true ∧ mayO n0 l (numsD l dk) c = true then runL n0 p l (aftV v c.o.k c.o.x c.a.ok c.a.x p).1 (dk ++ [j]) r else (v, j)
def stJ (sg : List (List D)) (N : List Int) (K : K) (v0 v : Vl) (p : Int) (l : List Cll) : List (List D) := sg ++ [.u :: mapC N, eJ K v0 v p l sg.length]
section
variable (sg : List (List D)) (N : List Int) (K : AM.K) (v0 v : Vl) (p : Int) (l : List Cll)
theorem stJ_0 : (stJ sg N K v0 v p l)[sg.length]? = some (.u :: mapC N) := by simp [stJ]
theorem stJ_1 : (stJ sg N K v0 v p l)[sg.length + 1]? = some (eJ K v0 v p l sg.length) := by simp [stJ]
theorem stJ_g1 (h) : (stJ sg N K v0 v p l)[sg.length + 1]'h = eJ K v0 v p l sg.length := by simp [stJ]
theorem stJ_len : (stJ sg N K v0 v p l).length = sg.length + 1 + 1 := by simp [stJ]
theorem stJ_take : List.take sg.length (stJ sg N K v0 v p l) = sg := by simp [stJ]
theorem stJ_set0 (N' : List Int) : (stJ sg N K v0 v p l).set sg.length (.u :: mapC N') = stJ sg N' K v0 v p l := by simp [stJ, List.set_append_right]
theorem stJ_set1 (K' : AM.K) (v' : Vl) : (stJ sg N K v0 v p l).set (sg.length + 1) (eJ K' v0 v' p l sg.length) = stJ sg N K' v0 v' p l := by simp [stJ, List.set_append_right]
end
section
variable (k p : Int) (v0 : Vl) (l : List Cll) (hC : ∀ sg, LL.call n_history_Check [.l .z 12 (l.map eCll)] sg sg.length = some (.i .i64 0, sg, sg.length)) (ds : List Nat) (hD : ∀ sg, LL.call n_history_Done [.l .z 12 (l.map eCll)] sg sg.length = some (.l .x 1 (ds.map eN), sg, sg.length)) (hds : ∀ j ∈ ds, j < l.length) (hdl : ds.length ≤ 900) (HO : Cops k l) (hl : legal k p = 0) (h0 : GV k 0 v0) (hn : l.length ≤ 900) (sg : List (List D))
include hC hD hds hdl HO hl h0 hn
set_option maxHeartbeats 8000000 in
theorem c_lax_CheckG : ∀ R, runL v0.n p l v0 [] ds = R → LL.call n_lax_Check [eVl .z v0, .i .i64 p, .l .z 12 (l.map eCll)] sg sg.length =
    some (.t [eVl .z R.1, .i .i64 R.2, .i .i64 (if R.2 = -1 then 0 else 12)], sg, sg.length) := by
 intro R hR
 have hk := legal_k hl
 have L := c_op_Legal k p sg
 rw [hl] at L
 have C := hC sg
 have hs1 : stJ sg [] .z v0 v0 p l = sg ++ [[.u], [.i .i64 v0.k, .l .z 2 (v0.is.map eI), .i .i64 v0.n, .i .i64 v0.k, .l .z 2 (v0.is.map eI), .i .i64 v0.n, .i .i64 p, .l .z 12 (l.map eCll), .mo sg.length]] := rfl
 have Dn := hD (stJ sg [] .z v0 v0 p l)
 have hmin2 : min sg.length (sg.length + 1 + 1) = sg.length := by omega
 have hk0 : v0.k = k := h0.kd
 rw [← hk0] at L
 refine wp_call e_lax_Check rfl ?_
 simp [F_lax_Check, eVl, L, C, ← hs1, Dn]
 rw [stJ_len, hmin2]
 refine wc_upb ds.length (fun i (b : AM.K × Vl × List Int) => ⟨[(1, .v (.i .i64 p)), (2, .v (.l .z 12 (l.map eCll))), (6, .q (.ptr 6 0)), (11, .v (.p (sg.length + 1) 0)), (39, .v (.l .o 1 (ds.map eN))), (40, .v (.i .i64 ds.length)), (41, .v (.i .i64 i))],
     [(6, [.i .i64 0, .l .o 2 [], .i .i64 0])], stJ sg b.2.2 b.1 v0 b.2.1 p l, sg.length⟩)
  (fun i b => (b.1 = .z ∨ b.1 = .o) ∧ GV k i b.2.1 ∧ b.2.2 = numsD l (ds.take i) ∧ runL v0.n p l b.2.1 (ds.take i) (ds.drop i) = R) ?_ ?_ (.z, v0, []) ⟨.inl rfl, h0, rfl, by simpa using hR⟩
 ·rintro i ⟨K, v, N⟩ hi ⟨hK, G, hN, hrun⟩ ih
  simp only at hK G hN hrun
  obtain ⟨j, q0⟩ : ∃ j, ds[i] = j := ⟨_, rfl⟩
  have q1 : ds[i]? = some j := by rw [← q0]; exact List.getElem?_eq_getElem hi
  have hjl := hds j (mem_of_get q1)
  obtain ⟨c, q2⟩ : ∃ c, l[j]? = some c := ⟨_, List.getElem?_eq_getElem hjl⟩
  have q3 : l[j] = c := by have := q2; rw [List.getElem?_eq_getElem hjl] at this; exact Option.some.inj this
  have hcm := mem_of_get q2
  have w1 : IntKind.i64.wrap ((i : Int) + 1) = (i : Int) + 1 := wrap64 (by omega)
  have et : ds.take (i + 1) = ds.take i ++ [j] := by rw [List.take_add_one, q1]; rfl
  have ed : ds.drop i = j :: ds.drop (i + 1) := by rw [List.drop_eq_getElem_cons hi, q0]
  rw [ed, runL, q2] at hrun
  simp only at hrun
  obtain ⟨K', hK', A⟩ := c_value_After v c.o.k c.o.x c.o.a c.o.b c.a.ok c.a.x c.a.n p (by rw [G.kd]; exact hk) (by rw [G.kd]; exact HO.o c hcm) (HO.v c hcm) (HO.x c hcm) (HO.a c hcm) (fun y hy => (G.it y hy).1) (by have := G.l; omega) ⟨G.n.1, by have := G.n.2; omega⟩ (stJ sg N K v0 v p l)
  have M := c_lax_may K v0 v p l sg.length (stJ sg N K v0 v p l) (sg.length + 1) (stJ_1 ..) HO.v (by omega) ⟨h0.n.1, by have := h0.n.2; omega⟩ N (stJ_0 ..) c
  have G2 := G.aft hk (HO.o c hcm) (HO.v c hcm) (HO.x c hcm) (ai := c.a.x) (ok := c.a.ok) (p := p)
  rw [← hN] at hrun
  generalize ha : aftV v c.o.k c.o.x c.a.ok c.a.x p = a at A G2 hrun
  obtain ⟨v', ok⟩ := a
  simp only at G2 hrun A
  have hj1 : ¬ (j : Int) = -1 := by omega
  cases ok with
  | false =>
   rw [if_neg (by simp)] at hrun
   subst hrun
   simp [eVl, eCll] at A
   rcases hK with rfl | rfl
   all_goals
    rcases hK' with rfl | rfl
    all_goals
     simp [hi, q0, hjl, q3, eCll, eN, stJ_1, eJ, A, hj1, eVl]
     simp [stJ_len, stJ_take, hmin2]
  | true =>
   by_cases hmay : mayO v0.n l N c = true
   ·rw [if_pos ⟨rfl, hmay⟩] at hrun
    have hN2 : (if c.o.k = 7 ∧ mayO v0.n l N c = true then (stJ sg N K v0 v p l).set sg.length (.u :: mapC (N ++ [c.a.n])) else stJ sg N K v0 v p l) = stJ sg (numsD l (ds.take (i + 1))) K v0 v p l := by
     rw [et, numsD_snoc l _ j c q2, ← hN]
     by_cases h7 : c.o.k = 7
     ·rw [if_pos ⟨h7, hmay⟩, if_pos h7, stJ_set0]
     ·rw [if_neg (fun h => h7 h.1), if_neg h7, List.append_nil]
    rw [hN2, hmay] at M
    generalize hNN : numsD l (ds.take (i + 1)) = N2 at *
    have ih := ih (.z, v', N2) ⟨.inl rfl, G2, rfl, by rw [et]; exact hrun⟩
    simp only at ih
    have s1 := stJ_set1 sg N2 K v0 v p l .z v'
    simp [eVl, eCll] at A M
    simp [eJ] at s1
    rcases hK with rfl | rfl
    all_goals
     rcases hK' with rfl | rfl
     all_goals
      simp [hi, q0, hjl, q3, eCll, eN, stJ_1, eJ, A, M, hj1, eVl, w1, s1]
      rw [stJ_len, hmin2]
      simpa using ih
   ·have hmay' : mayO v0.n l N c = false := by simpa using hmay
    rw [if_neg (by rw [hmay']; simp)] at hrun
    subst hrun
    rw [if_neg (by rw [hmay']; simp), hmay'] at M
    simp [eVl, eCll] at A M
    rcases hK with rfl | rfl
    all_goals
     rcases hK' with rfl | rfl
     all_goals
      simp [hi, q0, hjl, q3, eCll, eN, stJ_1, eJ, A, M, hj1, eVl]
      simp [stJ_len, stJ_take, hmin2]
 ·rintro ⟨K, v, N⟩ ⟨hK, G, hN, hrun⟩
  simp only at hK G hN hrun
  rw [List.drop_length, runL] at hrun
  subst hrun
  rcases hK with rfl | rfl
  all_goals
   simp [stJ_1, stJ_g1, eJ, stJ_len, stJ_take, eVl, hmin2]
end
theorem c_lax_CheckL (k p : Int) (v0 : Vl) (l : List Cll) (H : Cls l) (hg : ¬ badC l) (HO : Cops k l) (hl : legal k p = 0) (h0 : GV k 0 v0) (hn : l.length ≤ 900) (sg : List (List D)) : ∀ R, runL v0.n p l v0 [] (dnL l) = R → LL.call n_lax_Check [eVl .z v0, .i .i64 p, .l .z 12 (l.map eCll)] sg sg.length =
    some (.t [eVl .z R.1, .i .i64 R.2, .i .i64 (if R.2 = -1 then 0 else 12)], sg, sg.length) :=
 c_lax_CheckG k p v0 l (fun sg => c_history_CheckL l H.w 0 (fun h => absurd h hg) (fun _ => rfl) sg) (dnL l) (fun sg => c_history_DoneL l H sg) (fun j hj => (dnF_mem l l.length j hj).1) (by have := dnF_len l l.length; unfold dnL; omega) HO hl h0 hn sg
theorem c_lax_CheckL_bad (k p : Int) (v0 : Vl) (hk : v0.k = k) (l : List Cll) (H : Cls l) (hb : badC l) (hl : legal k p = 0) (sg : List (List D)) :
    LL.call n_lax_Check [eVl .z v0, .i .i64 p, .l .z 12 (l.map eCll)] sg sg.length = some (.t [.a [.i .i64 0, .l .o 2 [], .i .i64 0], .i .i64 (-1), .i .i64 14], sg, sg.length) := by
 have L := c_op_Legal k p sg
 rw [hl, ← hk] at L
 have C := c_history_CheckL l H.w 14 (fun _ => rfl) (fun h => absurd hb h) sg
 refine wp_call e_lax_Check rfl ?_
 simp [F_lax_Check, eVl, L, C]
section
variable (k p : Int) (v0 : Vl) (l : List Cll) (H : Cls l) (HO : Cops k l) (hac : ∀ c ∈ l, c.a.x.canon = c.a.x) (hk : 1 ≤ k ∧ k ≤ 4) (h0 : GV k 0 v0) (hn : l.length ≤ 900) (sg : List (List D))
include H HO h0 hn hac hk
set_option maxHeartbeats 8000000 in
theorem c_ref15_CheckL : ∀ R, runL v0.n p l v0 [] (dnL l) = R → LL.call n_c_ref15_Check [eVr .z v0, .i .i64 p, .l .z 23 (l.map (eTl .z)), .l .z 3 (l.map eP)] sg sg.length =
    some (.t [eVr .z R.1, .i .i64 R.2], sg, sg.length) := by
 intro R hR
 have Dn := c_ref14_DoneL l H sg
 have hdl := dnF_len l l.length
 have hk0 : v0.k = k := h0.kd
 refine wp_call e_c_ref15_Check rfl ?_
 simp [F_c_ref15_Check, eVr, Dn]
 refine wc_upb (dnL l).length (fun i (v : Vl) => ⟨[(1, .v (.i .i64 p)), (2, .v (.l .z 23 (l.map (eTl .z)))), (4, .q (.ptr 4 0)), (8, .q (.ptr 8 0)), (10, .v (.l .o 1 ((dnL l).map eN))), (11, .q (.ptr 11 0)), (20, .v (.l .z 1 ((dnL l).map eN))), (21, .v (.i .i64 (dnL l).length)), (22, .v (.i .i64 i))],
     [(4, [.i .i64 v0.k, .l .z 2 (v0.is.map eR), .i .i64 v0.n]), (8, [.i .i64 0, .l .o 2 [], .i .i64 0]), (11, [.i .i64 v.k, .l .z 2 (v.is.map eR), .i .i64 v.n])], sg, sg.length⟩)
  (fun i v => GV k i v ∧ runL v0.n p l v ((dnL l).take i) ((dnL l).drop i) = R) ?_ ?_ v0 ⟨h0, by simpa using hR⟩
 ·rintro i v hi ⟨G, hrun⟩ ih
  obtain ⟨j, q0⟩ : ∃ j, (dnL l)[i] = j := ⟨_, rfl⟩
  have q1 : (dnL l)[i]? = some j := by rw [← q0]; exact List.getElem?_eq_getElem hi
  obtain ⟨hjl, c, q2, hc0⟩ := dnF_mem l l.length j (mem_of_get q1)
  have q3 : l[j] = c := by have := q2; rw [List.getElem?_eq_getElem hjl] at this; exact Option.some.inj this
  have hcm := mem_of_get q2
  have w1 : IntKind.i64.wrap ((i : Int) + 1) = (i : Int) + 1 := wrap64 (by unfold dnL at hi; omega)
  have et : (dnL l).take (i + 1) = (dnL l).take i ++ [j] := by rw [List.take_add_one, q1]; rfl
  have ed : (dnL l).drop i = j :: (dnL l).drop (i + 1) := by rw [List.drop_eq_getElem_cons hi, q0]
  rw [ed, runL, q2] at hrun
  simp only at hrun
  have hil : i < l.length := by unfold dnL at hi; omega
  have ho := HO.o c hcm
  have ho7 : 1 ≤ c.o.k ∧ c.o.k ≤ 7 := by split at ho <;> omega
  obtain ⟨K', hK', A⟩ := c_ref12_After v (tF c) ⟨c.a.ok, c.a.x.canon, c.a.n⟩ p (by rw [G.kd]; exact hk) ho7 (HO.v c hcm) ⟨canonOk (HO.x c hcm), canonTwo _⟩ (canonOk (HO.a c hcm)) G.it
   (fun h => G.so (by have h' : c.o.k = 1 := h; split at ho <;> omega)) (by have := G.l; omega) ⟨G.n.1, by have := G.n.2; omega⟩ sg
  have ex : (tF c).o.x = c.o.x.canon := rfl
  have ek : (tF c).o.k = c.o.k := rfl
  simp only [ex, ek, aftV_cn, hac c hcm] at A
  have Ck := c_ref06_Check v0.k c.o.k c.o.x.v sg
  rw [hk0, checkO_0 hk ho (HO.v c hcm), ← hk0] at Ck
  have Nm := c_ref15_number l v0.n c ((dnL l).take i) sg HO.v (by omega) ⟨h0.n.1, by have := h0.n.2; omega⟩ (fun j hj => (dnF_mem l l.length j (List.mem_of_mem_take hj)).1) (by simp; unfold dnL; omega)
  have G2 := G.aft hk ho (HO.v c hcm) (HO.x c hcm) (ai := c.a.x) (ok := c.a.ok) (p := p)
  generalize ha : aftV v c.o.k c.o.x c.a.ok c.a.x p = a at A G2 hrun
  obtain ⟨v', ok⟩ := a
  simp only at G2 hrun A
  rw [List.map_take] at Nm
  have ev : c.o.x.canon.v = c.o.x.v := rfl
  simp [eVr, eFr, eFrK, eAr, tF, ev] at A
  simp [eTl, eTc, hac c hcm] at Nm
  have e16 : i ≤ (dnL l).length := by omega
  cases ok with
  | false =>
   rw [if_neg (by simp)] at hrun
   subst hrun
   rcases hK' with rfl | rfl
   all_goals
    simp [hi, q0, hjl, q3, eTl, eTc, eN, A, eVr, Ck, hac c hcm]
  | true =>
   by_cases hmay : mayO v0.n l (numsD l ((dnL l).take i)) c = true
   ·rw [if_pos ⟨rfl, hmay⟩] at hrun
    rw [hmay] at Nm
    have ih := ih v' ⟨G2, by rw [et]; exact hrun⟩
    rcases hK' with rfl | rfl
    all_goals
     simp [hi, q0, hjl, q3, eTl, eTc, eN, A, eVr, Ck, hac c hcm, Nm, w1, e16]
     simpa [eTl, eTc, eN] using ih
   ·have hmay' : mayO v0.n l (numsD l ((dnL l).take i)) c = false := by simpa using hmay
    rw [if_neg (by rw [hmay']; simp)] at hrun
    subst hrun
    rw [hmay'] at Nm
    rcases hK' with rfl | rfl
    all_goals
     simp [hi, q0, hjl, q3, eTl, eTc, eN, A, eVr, Ck, hac c hcm, Nm, e16]
 ·rintro v ⟨G, hrun⟩
  rw [List.drop_length, runL] at hrun
  subst hrun
  simp [eVr]
end
end Go.AM

namespace Go.AM
theorem wf_i64 {n : Int} (h : (Lit.int .i64 n).wf = true) : -9223372036854775808 ≤ n ∧ n ≤ 9223372036854775807 := by
 simpa [Lit.wf, IntKind.min, IntKind.max, IntKind.signed, IntKind.bits] using h
theorem wf_u64 {n : Int} (h : (Lit.int .u64 n).wf = true) : 0 ≤ n ∧ n < 18446744073709551616 := by
 have : 0 ≤ n ∧ n ≤ 18446744073709551615 := by simpa [Lit.wf, IntKind.min, IntKind.max, IntKind.signed, IntKind.bits] using h
 omega
theorem fits_i {k : IntKind} {d : D} (h : Fits (.i k) [d]) : ∃ n, d = .i k n ∧ (Lit.int k n).wf = true := by
 cases h with | i k n h => exact ⟨n, rfl, h⟩
abbrev tItem : Ty := .st [.i .u64, .i .i64]
abbrev tRaw : Ty := .st [.i .i64, .i .i64, .i .u64, .l 2 true tItem, .l 1 false (.i .i64), .i .i64]
theorem fitss_cons1 {f : Ty} {fs : List Ty} {cs : List D} (h : Fitss (f :: fs) cs) (hf : ∀ c, Fits f c → ∃ d, c = [d]) : ∃ d r, cs = d :: r ∧ Fits f [d] ∧ Fitss fs r := by
 cases h with
 | cons h k => obtain ⟨d, rfl⟩ := hf _ h; exact ⟨d, _, rfl, h, k⟩
theorem one_i (k : IntKind) (c : List D) (h : Fits (.i k) c) : ∃ d, c = [d] := by cases h; exact ⟨_, rfl⟩
theorem fitss_nil {cs : List D} (h : Fitss [] cs) : cs = [] := by cases h; rfl
theorem fits_item {cs : List D} (h : Fits tItem cs) : ∃ x : It, D.a cs = eR x ∧ x.ok := by
 cases h with
 | st h =>
  obtain ⟨d1, r, rfl, h1, h⟩ := fitss_cons1 h (one_i _)
  obtain ⟨d2, r, rfl, h2, h⟩ := fitss_cons1 h (one_i _)
  have := fitss_nil h; subst this
  obtain ⟨n1, rfl, w1⟩ := fits_i h1
  obtain ⟨n2, rfl, w2⟩ := fits_i h2
  have := wf_u64 w1
  have := wf_i64 w2
  refine ⟨⟨n1.toNat, n2⟩, ?_, ?_, ?_⟩
  ·have : ((n1.toNat : Nat) : Int) = n1 := by omega
   simp [this]
  ·simp; omega
  ·simpa using this
theorem fits_items : ∀ xs : List D, (∀ x ∈ xs, Fits tItem x.cells) → (∀ x ∈ xs, ∃ cs, x = .a cs) → ∃ ns : List It, xs = ns.map eR ∧ ∀ n ∈ ns, n.ok
 | [], _, _ => ⟨[], rfl, by simp⟩
 | x :: xs, h, hc => by
  obtain ⟨ns, e, hn⟩ := fits_items xs (fun y hy => h y (by simp [hy])) (fun y hy => hc y (by simp [hy]))
  obtain ⟨cs, rfl⟩ := hc x (by simp)
  obtain ⟨y, e2, hy⟩ := fits_item (h _ (by simp : D.a cs ∈ D.a cs :: xs))
  exact ⟨y :: ns, by rw [e, List.map_cons, ← e2]; rfl, by simpa [hy] using hn⟩
end Go.AM

namespace Go.AM
abbrev tRw : Ty := .st [.i .i64, tItem, .i .i64, .i .i64]
theorem fits_rw {cs : List D} (h : Fits tRw cs) : ∃ r : Rw, D.a cs = eRw r ∧ r.ok := by
 cases h with
 | st h =>
  cases h with
  | cons h1 h =>
   cases h with
   | cons h2 h =>
    cases h with
    | cons h3 h =>
     cases h with
     | cons h4 h =>
      cases h
      obtain ⟨x, ex, hx⟩ := fits_item h2
      cases h1 with
      | i _ n1 w1 =>
       cases h3 with
       | i _ n3 w3 =>
        cases h4 with
        | i _ n4 w4 =>
         cases ex
         exact ⟨⟨n1, x, n3, n4⟩, rfl, hx, wf_i64 w1, wf_i64 w3, wf_i64 w4⟩
end Go.AM

namespace Go.AM
structure RwL where
 t : Int
 w : Int
 l : Int
 at_ : Int
 o : Rw
 ok : Bool
 op : Bool
def eRl (r : RwL) : D := .a [.i .i64 r.t, .i .i64 r.w, .i .i64 r.l, .i .i64 r.at_, .i .i64 r.o.k, .i .u64 r.o.x.p, .i .i64 r.o.x.v, .i .i64 r.o.a, .i .i64 r.o.b, .b r.ok, .b r.op]
instance : Flat eRl := ⟨fun _ => rfl, fun _ => rfl, fun _ _ => rfl⟩
def ansI (v : Vl) (r : RwL) : It := match v.is[(r.at_ % 8).toNat]? with
 | some y => y
 | none => (ownO v.k r.o).x.canon
def mkC (v : Vl) (i : Nat) (r : RwL) (a e : Int) : Cll :=
 if r.op then ⟨i % 6, ownO v.k r.o, max (a + r.w % 4) (if i < 6 then 0 else e), -1, ⟨false, ⟨0, 0⟩, 0⟩⟩
 else ⟨i % 6, ownO v.k r.o, max (a + r.w % 4) (if i < 6 then 0 else e), max e (max (a + r.w % 4) (if i < 6 then 0 else e)) + 1 + r.l % 2, ⟨r.ok, ansI v r, v.n + r.at_ % 16 - 3⟩⟩
def mkL (v : Vl) (raw : List RwL) : Nat → List Cll × Int × Int
 | 0 => ([], 0, 0)
 | i + 1 => match raw[i]? with
  | none => mkL v raw i
  | some r => ((mkL v raw i).1 ++ [mkC v i r (mkL v raw i).2.1 (mkL v raw i).2.2], (mkC v i r (mkL v raw i).2.1 (mkL v raw i).2.2).b, if r.op then (mkL v raw i).2.2 else (mkC v i r (mkL v raw i).2.1 (mkL v raw i).2.2).e)
def madeL (v : Vl) (raw : List RwL) : List Cll := (mkL v raw (min raw.length 12)).1
structure MkI (i : Nat) (s : List Cll × Int × Int) : Prop where
 l : s.1.length = i
 c : ∀ c ∈ s.1, c.t < 6 ∧ 0 ≤ c.b ∧ (c.e = -1 ∨ c.b < c.e) ∧ c.e ≤ s.2.2 ∧ c.b ≤ s.2.1
 a : 0 ≤ s.2.1 ∧ s.2.1 ≤ 5 * i
 e : 0 ≤ s.2.2 ∧ s.2.2 ≤ 5 * i
 o : ∀ (j : Nat) c d, s.1[j]? = some c → s.1[j + 1]? = some d → c.b ≤ d.b
 x : ∀ (j h : Nat) c d, j < h → s.1[j]? = some c → s.1[h]? = some d → 0 ≤ c.e → 0 ≤ d.e → c.e < d.e
theorem mkC_b (v : Vl) (i : Nat) (r : RwL) (a e : Int) : (mkC v i r a e).b = max (a + r.w % 4) (if i < 6 then 0 else e) ∧ (mkC v i r a e).t = i % 6 ∧ (mkC v i r a e).e = (if r.op then -1 else max e (max (a + r.w % 4) (if i < 6 then 0 else e)) + 1 + r.l % 2) := by
 unfold mkC
 split <;> simp_all
theorem mkL_I (v : Vl) (raw : List RwL) : ∀ i, i ≤ raw.length → MkI i (mkL v raw i)
 | 0, _ => ⟨rfl, by simp [mkL], by simp [mkL], by simp [mkL], by simp [mkL], by simp [mkL]⟩
 | i + 1, h => by
  have ih := mkL_I v raw i (by omega)
  obtain ⟨r, hr⟩ : ∃ r, raw[i]? = some r := ⟨_, List.getElem?_eq_getElem (by omega)⟩
  rw [mkL, hr]
  simp only
  generalize mkL v raw i = s at ih
  obtain ⟨l, a, e⟩ := s
  obtain ⟨f1, f2, f3, f4, f5, f6⟩ := ih
  simp only at f1 f2 f3 f4 f5 f6 ⊢
  obtain ⟨b1, b2, b3⟩ := mkC_b v i r a e
  generalize mkC v i r a e = c at b1 b2 b3
  have hb : a ≤ c.b ∧ c.b ≤ 5 * i + 3 := by rw [b1]; split <;> omega
  have he : c.e = -1 ∧ r.op = true ∨ (r.op = false ∧ e < c.e ∧ c.b < c.e ∧ c.e ≤ 5 * i + 5) := by
   rw [← b1] at b3
   cases ho : r.op with
   | true => rw [ho] at b3; exact .inl ⟨by simpa using b3, rfl⟩
   | false => rw [ho] at b3; simp at b3; exact .inr ⟨rfl, by omega, by omega, by omega⟩
  have hen : e ≤ (if r.op = true then e else c.e) ∧ c.e ≤ (if r.op = true then e else c.e) ∧ (if r.op = true then e else c.e) ≤ 5 * (i + 1) := by
   rcases he with ⟨h1, h2⟩ | ⟨h1, h2, h3, h4⟩
   ·rw [if_pos h2]; omega
   ·rw [if_neg (by simp [h1])]; omega
  refine ⟨by simp [f1], ?_, by push_cast; omega, by push_cast; omega, ?_, ?_⟩
  ·intro d hd
   rcases List.mem_append.1 hd with hd | hd
   ·have := f2 d hd
    exact ⟨this.1, this.2.1, this.2.2.1, by simp only; omega, by simp only; omega⟩
   ·simp at hd; subst hd
    exact ⟨by omega, by omega, by rcases he with h | h <;> omega, by simp only; omega, by simp⟩
  ·intro j x y hx hy
   by_cases hj : j + 1 < l.length
   ·rw [List.getElem?_append_left (by omega)] at hx
    rw [List.getElem?_append_left hj] at hy
    exact f5 j x y hx hy
   ·have hj2 : j + 1 = l.length := by
     have := (List.getElem?_eq_some_iff.1 hy).1
     simp at this; omega
    rw [hj2] at hy
    simp at hy
    subst hy
    rw [List.getElem?_append_left (by omega)] at hx
    have := (f2 x (mem_of_get hx)).2.2.2.2
    omega
  ·intro j h' x y hlt hx hy hx0 hy0
   by_cases hj : h' < l.length
   ·rw [List.getElem?_append_left (by omega)] at hx
    rw [List.getElem?_append_left hj] at hy
    exact f6 j h' x y hlt hx hy hx0 hy0
   ·have hj2 : h' = l.length := by
     have := (List.getElem?_eq_some_iff.1 hy).1
     simp at this; omega
    rw [hj2] at hy
    simp at hy
    subst hy
    rw [List.getElem?_append_left (by omega)] at hx
    have := (f2 x (mem_of_get hx)).2.2.2.1
    rcases he with h | h <;> omega
theorem madeL_cls (v : Vl) (raw : List RwL) : Cls (madeL v raw) ∧ (madeL v raw).length ≤ 12 := by
 have I := mkL_I v raw (min raw.length 12) (by omega)
 have hl : (madeL v raw).length ≤ 12 := by unfold madeL; rw [I.l]; omega
 exact ⟨⟨fun c hc => (I.c c hc).1, fun c hc => ⟨(I.c c hc).2.1, (I.c c hc).2.2.1, by have := (I.c c hc).2.2.2.1; have := I.e.2; omega⟩, I.o, I.x, by omega⟩, hl⟩
theorem ansI_ok (v : Vl) (hv : ∀ y ∈ v.is, y.ok ∧ y.canon = y) (r : RwL) (hk : 1 ≤ v.k ∧ v.k ≤ 4) (hr : r.o.ok) : (ansI v r).ok ∧ (ansI v r).canon = ansI v r := by
 unfold ansI
 split
 ·rename_i y hy
  exact hv y (mem_of_get hy)
 ·exact ⟨canonOk (ownO_ok hk hr).1.1, canonTwo _⟩
theorem mkL_ops (v : Vl) (hv : ∀ y ∈ v.is, y.ok ∧ y.canon = y) (hk : 1 ≤ v.k ∧ v.k ≤ 4) (raw : List RwL) (hr : ∀ r ∈ raw, r.o.ok) : ∀ i, Cops v.k (mkL v raw i).1 ∧ ∀ c ∈ (mkL v raw i).1, c.a.x.canon = c.a.x
 | 0 => ⟨⟨by simp [mkL], by simp [mkL], by simp [mkL], by simp [mkL]⟩, by simp [mkL]⟩
 | i + 1 => by
  obtain ⟨ih, ih2⟩ := mkL_ops v hv hk raw hr i
  rw [mkL]
  split
  ·exact ⟨ih, ih2⟩
  ·rename_i r hrr
   have hro := hr r (mem_of_get hrr)
   have ho := ownO_ok hk hro
   have hg := ownO_rng v.k hk r.o
   simp only
   generalize (mkL v raw i).2.1 = a
   generalize (mkL v raw i).2.2 = e
   have hc : (mkC v i r a e).o = ownO v.k r.o ∧ (mkC v i r a e).a.x.ok ∧ (mkC v i r a e).a.x.canon = (mkC v i r a e).a.x := by
    unfold mkC
    split
    ·exact ⟨rfl, (⟨by decide, by decide⟩ : It.ok ⟨0, 0⟩), (by decide : It.canon ⟨0, 0⟩ = ⟨0, 0⟩)⟩
    ·exact ⟨rfl, ansI_ok v hv r hk hro⟩
   generalize mkC v i r a e = c at hc
   obtain ⟨c1, c2, c3⟩ := hc
   refine ⟨⟨?_, ?_, ?_, ?_⟩, ?_⟩
   all_goals
    intro d hd
    rcases List.mem_append.1 hd with hd | hd
   ·exact ih.o d hd
   ·simp at hd; subst hd; rw [c1]; exact hg
   ·exact ih.v d hd
   ·simp at hd; subst hd; rw [c1]; exact ho.2
   ·exact ih.x d hd
   ·simp at hd; subst hd; rw [c1]; exact ho.1.1
   ·exact ih.a d hd
   ·simp at hd; subst hd; exact c2
   ·exact ih2 d hd
   ·simp at hd; subst hd; exact c3
theorem i64_3 (x : Int) : bits .and .i64 x 3 = x % 4 := i64_mask 2 (by decide) x
theorem i64_15 (x : Int) : bits .and .i64 x 15 = x % 16 := i64_mask 4 (by decide) x
theorem i64_1 (x : Int) : bits .and .i64 x 1 = x % 2 := i64_mask 1 (by decide) x
set_option maxRecDepth 20000 in
set_option maxHeartbeats 4000000 in
theorem c_law15_made (v : Vl) (hv : ∀ y ∈ v.is, y.ok ∧ y.canon = y) (hk : 1 ≤ v.k ∧ v.k ≤ 4) (hvn : 0 ≤ v.n ∧ v.n ≤ 1099511627776) (hvl : v.is.length ≤ 1000) (raw : List RwL) (hr : ∀ r ∈ raw, r.o.ok) (sg : List (List D)) :
    LL.call n_c_law15_made [eVl .z v, .l .z 11 (raw.map eRl)] sg sg.length = some (.l .o 12 ((madeL v raw).map eCll), sg, sg.length) := by
 refine wp_call e_c_law15_made rfl ?_
 simp [F_c_law15_made, eVl]
 refine wc_up (min raw.length 12) (fun i => ⟨[(1, .v (.l .z 11 (raw.map eRl))), (2, .q (.ptr 2 0)), (5, .v (.l .o 12 ((mkL v raw i).1.map eCll))), (6, .v (.i .i64 (mkL v raw i).2.1)), (7, .v (.i .i64 (mkL v raw i).2.2)), (8, .v (.i .i64 i))],
  [(2, [.i .i64 v.k, .l .z 2 (v.is.map eI), .i .i64 v.n])], sg, sg.length⟩) (fun _ => True) ?_ ?_ 0 (by omega) trivial
 ·intro i hi _ ih
  have ih := ih trivial
  have I := mkL_I v raw i (by omega)
  have hil : i < raw.length := by omega
  have hi12 : (i : Int) < 12 := by omega
  obtain ⟨r, q0⟩ : ∃ r, raw[i] = r := ⟨_, rfl⟩
  have q1 : raw[i]? = some r := by rw [← q0]; exact List.getElem?_eq_getElem hil
  have w1 : IntKind.i64.wrap ((i : Int) + 1) = (i : Int) + 1 := wrap64 (by omega)
  have O1 := c_law06_Own v.k hk r.o sg
  have hro := hr r (mem_of_get q1)
  have ho := ownO_ok hk hro
  have C1 := c_pile_Item_Canon (ownO v.k r.o).x ho.1.1 sg
  rw [mkL, q1] at ih
  simp only at ih
  generalize mkL v raw i = s at I ih ⊢
  obtain ⟨l, a, e⟩ := s
  obtain ⟨f1, f2, f3, f4, f5, f6⟩ := I
  simp only at f1 f2 f3 f4 f5 f6 ih ⊢
  simp [eRw, eOp] at O1 C1
  obtain ⟨A, hA⟩ : ∃ A, A = a + r.w % 4 := ⟨_, rfl⟩
  obtain ⟨E, hE⟩ : ∃ E, E = (if i < 6 then 0 else e) := ⟨_, rfl⟩
  obtain ⟨B, hB⟩ : ∃ B, B = max A E := ⟨_, rfl⟩
  obtain ⟨M, hM⟩ : ∃ M, M = max e B := ⟨_, rfl⟩
  have hE2 : 0 ≤ E ∧ E ≤ 60 := by rw [hE]; split <;> omega
  have wA : IntKind.i64.wrap (a + r.w % 4) = A := by rw [hA]; exact wrap64 (by omega)
  have wq : IntKind.i64.wrap ((i : Int) / 6) = (i : Int) / 6 := wrap64 (by omega)
  have wE : IntKind.i64.wrap (e * ((i : Int) / 6)) = E := by
   rw [hE]
   split
   ·rw [show (i : Int) / 6 = 0 by omega, Int.mul_zero]; decide
   ·rw [show (i : Int) / 6 = 1 by omega, Int.mul_one]; exact wrap64 (by omega)
  have tm : (i : Int).tmod 6 = ((i % 6 : Nat) : Int) := by rw [Int.tmod_eq_emod_of_nonneg (by omega)]; omega
  have iB : (if A < E then E else A) = B := by rw [hB]; split <;> omega
  have iM : (if e < B then B else e) = M := by rw [hM]; split <;> omega
  have hap : (l.length + 1) * 96 ≤ 140737488355328 := by omega
  cases hop : r.op with
  | true =>
   have hc : mkC v i r a e = ⟨i % 6, ownO v.k r.o, B, -1, ⟨false, ⟨0, 0⟩, 0⟩⟩ := by unfold mkC; rw [if_pos hop, ← hA, ← hE, ← hB]
   rw [hc, if_pos hop] at ih
   simp [eCll] at ih
   simp [hil, hi12, q0, eRl, hop, O1, i64_3, wA, wq, wE, tm, iB, w1, hap]
   simpa [eCll, eRl] using ih
  | false =>
   have hc : mkC v i r a e = ⟨i % 6, ownO v.k r.o, B, M + 1 + r.l % 2, ⟨r.ok, ansI v r, v.n + r.at_ % 16 - 3⟩⟩ := by unfold mkC; rw [if_neg (by simp [hop]), ← hA, ← hE, ← hB, ← hM]
   rw [hc, if_neg (by simp [hop])] at ih
   have wM1 : IntKind.i64.wrap (M + 1) = M + 1 := wrap64 (by omega)
   have wM2 : IntKind.i64.wrap (M + 1 + r.l % 2) = M + 1 + r.l % 2 := wrap64 (by omega)
   have wN1 : IntKind.i64.wrap (v.n + r.at_ % 16) = v.n + r.at_ % 16 := wrap64 (by omega)
   have wN2 : IntKind.i64.wrap (v.n + r.at_ % 16 - 3) = v.n + r.at_ % 16 - 3 := wrap64 (by omega)
   obtain ⟨kk, hkk⟩ : ∃ kk : Nat, r.at_ % 8 = kk := ⟨(r.at_ % 8).toNat, by omega⟩
   have hans : ansI v r = match v.is[kk]? with | some y => y | none => (ownO v.k r.o).x.canon := by unfold ansI; rw [hkk]; rfl
   by_cases hlt : kk < v.is.length
   ·rw [List.getElem?_eq_getElem hlt] at hans
    simp only at hans
    rw [hans] at ih
    simp [eCll] at ih
    simp [hil, hi12, q0, eRl, hop, O1, i64_3, i64_1, i64_15, i64_7, wA, wq, wE, tm, iB, iM, w1, hap, C1, wM1, wM2, wN1, wN2, hkk, hlt]
    simpa [eCll, eRl] using ih
   ·rw [List.getElem?_eq_none (by omega)] at hans
    simp only at hans
    rw [hans] at ih
    simp [eCll] at ih
    simp [hil, hi12, q0, eRl, hop, O1, i64_3, i64_1, i64_15, i64_7, wA, wq, wE, tm, iB, iM, w1, hap, C1, wM1, wM2, wN1, wN2, hkk, hlt]
    simpa [eCll, eRl] using ih
 ·intro _
  have hcase : (raw.length ≤ 12 ∧ min raw.length 12 = raw.length) ∨ (12 < raw.length ∧ min raw.length 12 = 12) := by omega
  rcases hcase with ⟨h1, h2⟩ | ⟨h1, h2⟩
  ·rw [h2]; simp [madeL, h2]
  ·rw [h2]
   have h3 : (12 : Int) < raw.length := by omega
   simp [madeL, h2, h3]
theorem c_law15_Told (c : Cll) (hx : c.o.x.ok) (ha : c.a.x.ok) (sg : List (List D)) : LL.call n_c_law15_Told [eCll c] sg sg.length = some (eTl .o c, sg, sg.length) := by
 refine wp_call e_c_law15_Told rfl ?_
 have B1 := c_law04_Bits c.o.x hx sg
 have B2 := c_law04_Bits c.a.x ha sg
 simp at B1 B2
 simp [F_c_law15_Told, eCll, eTl, eTc, B1, B2, It.canon]
end Go.AM

namespace Go.AM
def chkM (P : Program) (t : TypeId) (nm : String) (f : FuncId) : Bool := match P.info? t with
 | some i => match i.methods.find? (·.name == nm) with
  | some m => m.path.toList.isEmpty && (match m.func with
   | some (g, true) => (match P.underlying t with | some (.pointer _) => g == f && decide (f < Q0) | _ => false)
   | some (g, false) => (match P.underlying t with
    | some (.pointer e) => decide (Q0 ≤ f) && g == f - Q0 && aggT P e == some false && szT P e == some 1
    | some _ => g == f && decide (f < Q0)
    | none => false)
   | none => false)
  | none => false
 | none => false
theorem wrap_ok (ts : Array TypeId) (t : TypeId) (a : Addr) (s1 s2 : String) : Builtin.ssaWrapNilChk_ ts t #[.pointer (some a), strVal s1, strVal s2] = pure (.pointer (some a)) := rfl
theorem meth_one {P : Program} {t nm f} (h : chkM P t nm f = true) :
    (f < Q0 → ∀ v w, (method (P.types.size + Made.depth) t v nm).run P w = .ok (f, v) w) ∧
    (Q0 ≤ f → ∀ b off u w, World.cell? w ⟨b, off, none⟩ = some u → (method (P.types.size + Made.depth) t (.pointer (some ⟨b, off, none⟩)) nm).run P w = .ok (f - Q0, u) w) := by
 unfold chkM at h
 split at h
 ·rename_i i hi
  split at h
  ·rename_i m hm
   simp only [Bool.and_eq_true] at h
   obtain ⟨hp, h⟩ := h
   have hp' : m.path.toList = [] := List.isEmpty_iff.1 hp
   obtain ⟨n, hn⟩ : ∃ n, P.types.size + Made.depth = n + 1 := ⟨P.types.size + 99, rfl⟩
   rw [hn]
   split at h
   ·rename_i g hg
    split at h
    ·rename_i e hu
     simp only [Bool.and_eq_true, beq_iff_eq, decide_eq_true_eq] at h
     obtain ⟨rfl, hf⟩ := h
     refine ⟨fun _ v w => ?_, fun hq => absurd hf (Nat.not_lt.2 hq)⟩
     simp [method, typeInfo, hi, hm, hp', follow, hg, receiverAt, underlying, hu, Place.get]
    ·cases h
   ·rename_i g hg
    split at h
    ·rename_i e hu
     simp only [Bool.and_eq_true, beq_iff_eq, decide_eq_true_eq] at h
     obtain ⟨⟨⟨hf, hgf⟩, ha⟩, hs⟩ := h
     refine ⟨fun hq => absurd hq (Nat.not_lt.2 hf), fun _ b off u w hc => ?_⟩
     have hrun := run_load' (P := P) (w := w) (t := e) (b := b) (off := off) (us := [u]) ha hs (.inr rfl) rfl (fun j v hj => by
      cases j with
      | zero => simp at hj; subst hj; simpa using hc
      | succ j => simp at hj)
     simp only [Instr.loadAt, Instr.sureAddr] at hrun
     have hpe : m.path = #[] := by simpa using hp
     simp at hrun
     simp [method, typeInfo, hi, hm, hp', hpe, follow, hg, receiverAt, underlying, hu, Place.get, wrap_ok, asAddr, hrun, hgf]
    ·rename_i d hne hu
     simp only [Bool.and_eq_true, beq_iff_eq, decide_eq_true_eq] at h
     obtain ⟨rfl, hf⟩ := h
     refine ⟨fun _ v w => ?_, fun hq => absurd hf (Nat.not_lt.2 hq)⟩
     simp [method, typeInfo, hi, hm, hp', follow, hg, receiverAt, underlying, hu, Place.get]
    ·cases h
   ·cases h
  ·cases h
 ·cases h
theorem nil_one {P : Program} {t nm f} (h : chkM P t nm f = true) : NilOK P t nm f := by
 intro hf v w
 unfold chkM at h
 split at h
 ·rename_i i hi
  split at h
  ·rename_i m hm
   simp only [Bool.and_eq_true] at h
   obtain ⟨hp, h⟩ := h
   have hp' : m.path.toList = [] := List.isEmpty_iff.1 hp
   obtain ⟨n, hn⟩ : ∃ n, P.types.size + Made.depth = n + 1 := ⟨P.types.size + 99, rfl⟩
   rw [hn]
   split at h
   ·rename_i g hg
    simp [nilAhead, typeInfo, hi, hm, hp', followBlind, hg]
   ·rename_i g hg
    split at h
    ·rename_i e hu
     simp only [Bool.and_eq_true, beq_iff_eq, decide_eq_true_eq] at h
     exact absurd hf (Nat.not_lt.2 h.1.1.1)
    ·rename_i d hne hu
     simp [nilAhead, typeInfo, hi, hm, hp', followBlind, hg, underlying, hu]
     cases d <;> first | (exfalso; exact hne _ rfl) | rfl
    ·cases h
   ·cases h
  ·cases h
 ·cases h
theorem meth_all {P : Program} {T : List (TypeId × String × FuncId)} (h : T.all (fun p => chkM P p.1 p.2.1 p.2.2) = true) :
    MethOK P (fun t nm => (T.find? fun p => p.1 == t && p.2.1 == nm).map (·.2.2)) := by
 intro t nm f hf
 simp only [Option.map_eq_some_iff] at hf
 obtain ⟨⟨t', nm', f'⟩, h1, rfl⟩ := hf
 have h2 := List.find?_some h1
 simp only [Bool.and_eq_true, beq_iff_eq] at h2
 obtain ⟨rfl, rfl⟩ := h2
 have h3 := List.all_eq_true.1 h _ (List.mem_of_find?_eq_some h1)
 exact ⟨(meth_one h3).1, (meth_one h3).2, nil_one h3⟩
end Go.AM

namespace Go.AM
open Go.Proofs
set_option maxRecDepth 100000
theorem fol : Try.prog.follows .mixedOrders = true := by kernel_rfl
theorem tab_ok : tab.all (fun p => chkFn Try.prog EE.fbits EE.frb (rid p.1) p.2) = true := by kernel_rfl
theorem look_in {α : Type} {k : Nat} {x : α} : ∀ {l : List (Nat × α)}, look k l = some x → (k, x) ∈ l
 | (j, y) :: r, h => by
  simp only [look] at h
  split at h
  ·rename_i e; cases h; subst e; simp
  ·exact List.mem_cons_of_mem _ (look_in h)
theorem libF : LibF Try.prog EE := toldF fun f ds d h => by
 have h : libL f ds = some d := h
 unfold libL at h
 split at h
 ·rename_i e; exact .inl ⟨e, h⟩
 split at h
 ·rename_i e; exact .inr ⟨e, h⟩
 ·cases h
theorem env_ok : EnvOK Try.prog EE := ⟨fun f af h => List.all_eq_true.1 tab_ok (f, af) (look_in h), libF, fun _ _ _ _ _ h => nomatch h⟩
theorem meth_ok : methL.all (fun p => chkM Try.prog p.1 p.2.1 p.2.2) = true := by kernel_rfl
theorem lib_ok : Lib Try.prog EE.fbits EE.frb EE.meth where
 bits := fun f h n w => by cases h; rfl
 frb := fun f h n w => by cases h; rfl
 meth := meth_all meth_ok
end Go.AM

namespace Go.AM
open Go.Proofs
set_option maxRecDepth 100000 in
theorem c_law15_awake : LL.call n_c_law15_awake [] [] 0 = some (.b true, [], 0) := lim_call.2 ⟨100, by kernel_rfl⟩
theorem i64_16 (x : Int) : bits .and .i64 x 65535 = x % 65536 := i64_mask 16 (by decide) x
def begU (k : Int) (l : List It) (n : Int) : Vl :=
 let is := (l.take (min l.length 10)).map It.canon
 if k = 1 then ⟨k, sortI (is.map It.canon), 0⟩ else if k = 2 then ⟨k, is, 0⟩ else ⟨k, [], n % 65536⟩
theorem begU_GV (k : Int) (hk : 1 ≤ k ∧ k ≤ 4) (l : List It) (hl : ∀ x ∈ l, x.ok) (n : Int) : GV k 0 (begU k l n) := by
 have hm : ∀ y ∈ (l.take (min l.length 10)).map It.canon, y.ok ∧ y.canon = y := by
  intro y hy
  obtain ⟨z, hz, rfl⟩ := List.mem_map.1 hy
  exact ⟨canonOk (hl z (List.mem_of_mem_take hz)), canonTwo z⟩
 have hlen : ((l.take (min l.length 10)).map It.canon).length ≤ 20 + 0 := by simp; omega
 unfold begU
 simp only
 split
 ·refine ⟨rfl, ?_, fun _ => (ordered_pw _).1 (sortI_ordered _), ?_, by simp⟩
  ·intro y hy
   simp only at hy
   have := (sortI_perm _).mem_iff.1 hy
   obtain ⟨z, hz, rfl⟩ := List.mem_map.1 this
   exact ⟨canonOk (hm z hz).1, canonTwo z⟩
  ·rw [sortI_len, List.length_map]; exact hlen
 ·split
  ·rename_i h1 h2
   exact ⟨rfl, hm, fun h => absurd h h1, hlen, by simp⟩
  ·rename_i h1 h2
   exact ⟨rfl, by simp, fun h => absurd h h1, by simp, by simp only; omega⟩
theorem runL_facts (k p n0 : Int) (hk : 1 ≤ k ∧ k ≤ 4) (l : List Cll) (HO : Cops k l) : ∀ (r dk : List Nat) (m : Nat) (v : Vl), GV k m v → GV k (m + r.length) (runL n0 p l v dk r).1
 | [], dk, m, v, h => by simpa [runL] using h
 | j :: r, dk, m, v, h => by
  have up : ∀ {m m' : Nat} {v : Vl}, GV k m v → m ≤ m' → GV k m' v := fun h hm => ⟨h.kd, h.it, h.so, by have := h.l; omega, by have := h.n; constructor <;> omega⟩
  rw [runL]
  split
  ·exact up h (by omega)
  ·rename_i c hc
   have hcm := mem_of_get hc
   split
   ·have := runL_facts k p n0 hk l HO r (dk ++ [j]) (m + 1) _ (h.aft hk (HO.o c hcm) (HO.v c hcm) (HO.x c hcm) (ai := c.a.x) (ok := c.a.ok) (p := p))
    exact up this (by simp; omega)
   ·exact up h (by omega)
theorem runL_snd (n0 p : Int) (l : List Cll) : ∀ (r dk : List Nat) (v : Vl), (runL n0 p l v dk r).2 = -1 ∨ 0 ≤ (runL n0 p l v dk r).2
 | [], dk, v => .inl rfl
 | j :: r, dk, v => by
  rw [runL]
  split
  ·exact .inl rfl
  ·split
   ·exact runL_snd n0 p l r _ _
   ·exact .inr (by simp only; omega)
set_option maxRecDepth 20000 in
set_option maxHeartbeats 8000000 in
theorem laxChecks (kind param : Int) (items : List It) (n : Int) (raw : List RwL) (hi : ∀ x ∈ items, x.ok) (hr : ∀ r ∈ raw, r.o.ok) :
    LL.call n_c_law15_LaxChecks [.i .i64 kind, .i .i64 param, .l .z 2 (items.map eR), .i .i64 n, .l .z 11 (raw.map eRl)] [] 0 = some (.b true, [], 0) := by
 have hA := c_law15_awake
 have hK := c_law12_Kind kind param []
 have hk := kindOf_le kind
 have hp := paramOf_le kind param
 have hleg := legal_kind kind param
 generalize kindOf kind = k at *
 generalize paramOf kind param = p at *
 obtain ⟨v, hv⟩ : ∃ v, v = begU k items n := ⟨_, rfl⟩
 have G := begU_GV k hk items hi n
 rw [← hv] at G
 obtain ⟨L, hL⟩ : ∃ L, L = madeL v raw := ⟨_, rfl⟩
 obtain ⟨HC, hL12⟩ := madeL_cls v raw
 have hops := mkL_ops v G.it (by rw [G.kd]; exact hk) raw hr (min raw.length 12)
 have hM := c_law15_made v G.it (by rw [G.kd]; exact hk) ⟨G.n.1, by have := G.n.2; omega⟩ (by have := G.l; omega) raw hr []
 rw [show (mkL v raw (min raw.length 12)).1 = L from hL.symm] at hops
 rw [← hL] at HC hL12 hM
 obtain ⟨HO, hac⟩ := hops
 have hTold := c_law12_Told v (fun y hy => (G.it y hy).1) (by have := G.l; omega) []
 rw [map_canon_id _ (fun y hy => (G.it y hy).2)] at hTold
 rw [show (⟨v.k, v.is, v.n⟩ : Vl) = v from rfl] at hTold
 refine wp_call e_c_law15_LaxChecks rfl ?_
 obtain ⟨t, ht⟩ : ∃ t, t = min items.length 10 := ⟨_, rfl⟩
 simp at hK
 simp [F_c_law15_LaxChecks, hA, hK]
 have hvk := G.kd
 rw [hvk] at HO
 have hAll : (LL.call n_lax_Check [eVl .z v, .i .i64 p, .l .z 12 (L.map eCll)] [] 0 = some (.t [.a [.i .i64 0, .l .o 2 [], .i .i64 0], .i .i64 (-1), .i .i64 14], [], 0) ∧ LL.call n_c_ref14_Check [.l .z 3 (L.map eP)] [] 0 = some (.i .i64 14, [], 0)) ∨
     (∃ (w : Vl) (j : Int), (j = -1 ∨ (0 ≤ j ∧ ¬ j = -1)) ∧ LL.call n_lax_Check [eVl .z v, .i .i64 p, .l .z 12 (L.map eCll)] [] 0 = some (.t [eVl .z w, .i .i64 j, .i .i64 (if j = -1 then 0 else 12)], [], 0) ∧ LL.call n_c_ref14_Check [.l .z 3 (L.map eP)] [] 0 = some (.i .i64 0, [], 0) ∧
      LL.call n_c_ref15_Check [eVr .z v, .i .i64 p, .l .z 23 (L.map (eTl .z)), .l .z 3 (L.map eP)] [] 0 = some (.t [eVr .z w, .i .i64 j], [], 0) ∧ LL.call n_c_law12_Is [eVl .z w, eVr .z w] [] 0 = some (.i .i64 0, [], 0)) := by
  by_cases hb : badC L
  ·exact .inl ⟨c_lax_CheckL_bad k p v G.kd L HC hb hleg [], c_ref14_CheckL L HC 14 (fun _ => rfl) (fun h => absurd hb h) []⟩
  ·have hRl := runL_facts k p v.n hk L HO (dnL L) [] 0 v G
   have hRs := runL_snd v.n p L (dnL L) [] v
   have hdl := dnF_len L L.length
   have hI := c_law12_Is (runL v.n p L v [] (dnL L)).1 (runL v.n p L v [] (dnL L)).1 (by have := hRl.l; unfold dnL at this ⊢; omega) []
   rw [if_pos rfl] at hI
   exact .inr ⟨_, _, by omega, c_lax_CheckL k p v L HC hb HO hleg G (by omega) [] _ rfl, c_ref14_CheckL L HC 0 (fun h => absurd h hb) (fun _ => rfl) [], c_ref15_CheckL k p v L HC HO hac hk G (by omega) [] _ rfl, hI⟩
 by_cases h3 : k < 3
 ·simp [h3]
  refine wc_up t (fun i => ⟨[(0, .v (.i .i64 k)), (1, .v (.i .i64 p)), (2, .v (.l .z 2 (items.map eR))), (4, .v (.l .z 11 (raw.map eRl))), (11, .q (.ptr 11 0)), (12, .v (.i .i64 i))],
   [(11, [.i .i64 k, .l .o 2 (((items.take i).map It.canon).map eI), .i .i64 0])], [], 0⟩) (fun _ => True) ?_ ?_ 0 (by omega) trivial
  ·intro i hi' _ ih
   have ih := ih trivial
   have hi1 : i < items.length := by omega
   have hi2 : (i : Int) < 10 := by omega
   have q1 : items[i]? = some items[i] := List.getElem?_eq_getElem hi1
   have w1 : IntKind.i64.wrap ((i : Int) + 1) = (i : Int) + 1 := wrap64 (by omega)
   have o1 := c_law04_Own items[i] []
   have o2 := c_pile_Item_Canon items[i] (hi _ (List.getElem_mem hi1)) []
   simp at o1 o2
   have e : ((items.take (i + 1)).map It.canon).map eI = ((items.take i).map It.canon).map eI ++ [eI items[i].canon] := by
    rw [List.take_succ_eq_append_getElem hi1, List.map_append, List.map_append]; rfl
   rw [e] at ih
   simp at ih
   simp [hi1, hi2, q1, o1, o2, w1]
   refine ⟨by omega, ?_⟩
   simpa using ih
  ·intro _
   have hcase : (t < items.length ∧ ¬ (t : Int) < 10) ∨ (¬ t < items.length) := by omega
   obtain ⟨is1, his⟩ : ∃ is1, is1 = (items.take t).map It.canon := ⟨_, rfl⟩
   have hisl : is1.length ≤ 10 := by rw [his]; simp; omega
   have hiso : ∀ y ∈ is1, y.ok := by
    intro y hy
    rw [his] at hy
    obtain ⟨z, hz, rfl⟩ := List.mem_map.1 hy
    exact canonOk (hi z (List.mem_of_mem_take hz))
   have S1 := c_Sorted is1 (by omega) hiso []
   simp at S1
   obtain ⟨vk, vis, vn⟩ := v
   simp only at hvk
   subst hvk
   have hvc : (vk = 1 ∧ sortI (is1.map It.canon) = vis ∧ vn = 0) ∨ (vk = 2 ∧ is1 = vis ∧ vn = 0) := by
    rw [his, ht]
    unfold begU at hv
    have : vk = 1 ∨ vk = 2 := by omega
    rcases this with h | h
    ·simp only [h, if_true] at hv
     cases hv
     exact .inl ⟨h, rfl, rfl⟩
    ·simp only [h, if_true] at hv
     cases hv
     exact .inr ⟨h, rfl, rfl⟩
   simp only [← his]
   simp [eVl] at hM
   simp [eVl, eVr] at hTold
   rcases hvc with ⟨rfl, hvi, rfl⟩ | ⟨rfl, rfl, rfl⟩
   ·rw [hvi] at S1
    obtain ⟨cs, hcs⟩ : ∃ cs : List D, cs = [.i .i64 1, .l .o 2 (vis.map eI), .i .i64 0] := ⟨_, rfl⟩
    rcases hcase with ⟨h1, h2⟩ | h1
    rotate_left
    have h2 := trivial
    rotate_left
    all_goals
     simp [h1, h2, S1, hM]
     rw [← hcs]
     refine wc_list L (fun i (o : List Cll) => ⟨[(1, .v (.i .i64 p)), (11, .q (.ptr 11 0)), (13, .v (.l .o 12 (L.map eCll))), (14, .v (.l .o 23 (o.map (eTl .z)))), (15, .v (.l .o 3 (o.map eP))), (71, .v (.l .z 12 (L.map eCll))), (72, .v (.i .i64 L.length)), (73, .v (.i .i64 i))],
      [(11, cs)], [], 0⟩) (fun r o => o ++ r = L) ?_ ?_ [] (by simp)
     ·rintro i c r o q1 hi0 ho ih
      have hcm := mem_of_get q1
      have q0 : L[i] = c := by have := q1; rw [List.getElem?_eq_getElem hi0] at this; exact Option.some.inj this
      have w1 : IntKind.i64.wrap ((i : Int) + 1) = (i : Int) + 1 := wrap64 (by omega)
      have T1 := c_law15_Told c (HO.x c hcm) (HO.a c hcm) []
      have hol : o.length ≤ 12 := by have := congrArg List.length ho; simp at this; omega
      have ih := ih (o ++ [c]) (by simpa using ho)
      have hap1 : o.length * 216 ≤ 140737488355328 := by omega
      have hap2 : (o.length + 1) * 216 ≤ 140737488355328 := by omega
      have hap3 : o.length * 24 ≤ 140737488355328 := by omega
      have hap4 : (o.length + 1) * 24 ≤ 140737488355328 := by omega
      simp [eCll, eTl, eTc] at T1
      simp [hi0, q0, eCll, eTl, eTc, eP, w1, T1, hap1, hap2, hap3, hap4]
      simpa [eCll, eTl, eTc, eP] using ih
     ·intro o ho
      simp only [List.append_nil] at ho
      subst ho
      subst hcs
      rcases hAll with ⟨a1, a2⟩ | ⟨w, j, hj, a1, a2, a3, a4⟩
      ·simp [eVl] at a1
       simp [a1, a2]
      ·simp [eVl, eVr] at a1 a3 a4
       rcases hj with rfl | ⟨hj1, hj2⟩
       ·simp [a1, a2, a3, a4, hTold]
       ·have hj3 : ¬ j < 0 := by omega
        simp [hj2] at a1
        simp [a1, a2, a3, a4, hTold, hj1, hj2, hj3]
   ·obtain ⟨cs, hcs⟩ : ∃ cs : List D, cs = [.i .i64 2, .l .o 2 (is1.map eI), .i .i64 0] := ⟨_, rfl⟩
    rcases hcase with ⟨h1, h2⟩ | h1
    rotate_left
    have h2 := trivial
    rotate_left
    all_goals
     simp [h1, h2, hM]
     rw [← hcs]
     refine wc_list L (fun i (o : List Cll) => ⟨[(1, .v (.i .i64 p)), (11, .q (.ptr 11 0)), (13, .v (.l .o 12 (L.map eCll))), (14, .v (.l .o 23 (o.map (eTl .z)))), (15, .v (.l .o 3 (o.map eP))), (71, .v (.l .z 12 (L.map eCll))), (72, .v (.i .i64 L.length)), (73, .v (.i .i64 i))],
      [(11, cs)], [], 0⟩) (fun r o => o ++ r = L) ?_ ?_ [] (by simp)
     ·rintro i c r o q1 hi0 ho ih
      have hcm := mem_of_get q1
      have q0 : L[i] = c := by have := q1; rw [List.getElem?_eq_getElem hi0] at this; exact Option.some.inj this
      have w1 : IntKind.i64.wrap ((i : Int) + 1) = (i : Int) + 1 := wrap64 (by omega)
      have T1 := c_law15_Told c (HO.x c hcm) (HO.a c hcm) []
      have hol : o.length ≤ 12 := by have := congrArg List.length ho; simp at this; omega
      have ih := ih (o ++ [c]) (by simpa using ho)
      have hap1 : o.length * 216 ≤ 140737488355328 := by omega
      have hap2 : (o.length + 1) * 216 ≤ 140737488355328 := by omega
      have hap3 : o.length * 24 ≤ 140737488355328 := by omega
      have hap4 : (o.length + 1) * 24 ≤ 140737488355328 := by omega
      simp [eCll, eTl, eTc] at T1
      simp [hi0, q0, eCll, eTl, eTc, eP, w1, T1, hap1, hap2, hap3, hap4]
      simpa [eCll, eTl, eTc, eP] using ih
     ·intro o ho
      simp only [List.append_nil] at ho
      subst ho
      subst hcs
      rcases hAll with ⟨a1, a2⟩ | ⟨w, j, hj, a1, a2, a3, a4⟩
      ·simp [eVl] at a1
       simp [a1, a2]
      ·simp [eVl, eVr] at a1 a3 a4
       rcases hj with rfl | ⟨hj1, hj2⟩
       ·simp [a1, a2, a3, a4, hTold]
       ·have hj3 : ¬ j < 0 := by omega
        simp [hj2] at a1
        simp [a1, a2, a3, a4, hTold, hj1, hj2, hj3]
 ·have q2 : (k == 1) = false := by simp; omega
  have hvv : v = ⟨k, [], n % 65536⟩ := by
   rw [hv]; unfold begU; simp only; rw [if_neg (by omega), if_neg (by omega)]
  subst hvv
  simp [eVl] at hM
  simp [eVl, eVr] at hTold
  obtain ⟨cs, hcs⟩ : ∃ cs : List D, cs = [.i .i64 k, .l .o 2 [], .i .i64 (n % 65536)] := ⟨_, rfl⟩
  simp [h3, q2, i64_16, hM]
  rw [← hcs]
  refine wc_list L (fun i (o : List Cll) => ⟨[(1, .v (.i .i64 p)), (11, .q (.ptr 11 0)), (13, .v (.l .o 12 (L.map eCll))), (14, .v (.l .o 23 (o.map (eTl .z)))), (15, .v (.l .o 3 (o.map eP))), (71, .v (.l .z 12 (L.map eCll))), (72, .v (.i .i64 L.length)), (73, .v (.i .i64 i))],
   [(11, cs)], [], 0⟩) (fun r o => o ++ r = L) ?_ ?_ [] (by simp)
  ·rintro i c r o q1 hi0 ho ih
   have hcm := mem_of_get q1
   have q0 : L[i] = c := by have := q1; rw [List.getElem?_eq_getElem hi0] at this; exact Option.some.inj this
   have w1 : IntKind.i64.wrap ((i : Int) + 1) = (i : Int) + 1 := wrap64 (by omega)
   have T1 := c_law15_Told c (HO.x c hcm) (HO.a c hcm) []
   have hol : o.length ≤ 12 := by have := congrArg List.length ho; simp at this; omega
   have ih := ih (o ++ [c]) (by simpa using ho)
   have hap1 : o.length * 216 ≤ 140737488355328 := by omega
   have hap2 : (o.length + 1) * 216 ≤ 140737488355328 := by omega
   have hap3 : o.length * 24 ≤ 140737488355328 := by omega
   have hap4 : (o.length + 1) * 24 ≤ 140737488355328 := by omega
   simp [eCll, eTl, eTc] at T1
   simp [hi0, q0, eCll, eTl, eTc, eP, w1, T1, hap1, hap2, hap3, hap4]
   simpa [eCll, eTl, eTc, eP] using ih
  ·intro o ho
   simp only [List.append_nil] at ho
   subst ho
   subst hcs
   rcases hAll with ⟨a1, a2⟩ | ⟨w, j, hj, a1, a2, a3, a4⟩
   ·simp [eVl] at a1
    simp [a1, a2]
   ·simp [eVl, eVr] at a1 a3 a4
    rcases hj with rfl | ⟨hj1, hj2⟩
    ·simp [a1, a2, a3, a4, hTold]
    ·have hj3 : ¬ j < 0 := by omega
     simp [hj2] at a1
     simp [a1, a2, a3, a4, hTold, hj1, hj2, hj3]
abbrev tRl : Ty := .st [.i .i64, .i .i64, .i .i64, .i .i64, tRw, .b, .b]
theorem fits_rl {cs : List D} (h : Fits tRl cs) : ∃ r : RwL, D.a cs = eRl r ∧ r.o.ok := by
 cases h with
 | st h =>
  cases h with
  | cons h1 h =>
   cases h with
   | cons h2 h =>
    cases h with
    | cons h3 h =>
     cases h with
     | cons h4 h =>
      cases h with
      | cons h5 h =>
       cases h with
       | cons h6 h =>
        cases h with
        | cons h7 h =>
         cases h
         obtain ⟨o, eo, ho⟩ := fits_rw h5
         cases h1 with
         | i _ n1 w1 =>
          cases h2 with
          | i _ n2 w2 =>
           cases h3 with
           | i _ n3 w3 =>
            cases h4 with
            | i _ n4 w4 =>
             cases h6 with
             | b b6 =>
              cases h7 with
              | b b7 =>
               cases eo
               exact ⟨⟨n1, n2, n3, n4, o, b6, b7⟩, rfl, ho⟩
theorem fits_rls : ∀ xs : List D, (∀ x ∈ xs, Fits tRl x.cells) → (∀ x ∈ xs, ∃ cs, x = .a cs) → ∃ ns : List RwL, xs = ns.map eRl ∧ ∀ n ∈ ns, n.o.ok
 | [], _, _ => ⟨[], rfl, by simp⟩
 | x :: xs, h, hc => by
  obtain ⟨ns, e, hn⟩ := fits_rls xs (fun y hy => h y (by simp [hy])) (fun y hy => hc y (by simp [hy]))
  obtain ⟨cs, rfl⟩ := hc x (by simp)
  obtain ⟨y, e2, hy⟩ := fits_rl (h _ (by simp : D.a cs ∈ D.a cs :: xs))
  exact ⟨y :: ns, by rw [e, List.map_cons, ← e2]; rfl, by simpa [hy] using hn⟩
def args_LaxChecks : List (Bool × Ty) := [(false, .i .i64), (false, .i .i64), (false, .l 2 true tItem), (false, .i .i64), (false, .l 11 true tRl)]
theorem args_LaxChecks_ok : tyA Try.prog [3, 3, 81, 2, 82] = some args_LaxChecks := by kernel_rfl
theorem law_LaxChecks (ds : List D) (h : FitA args_LaxChecks ds) : ∃ sg lo, (lim EE).call n_c_law15_LaxChecks ds [] 0 = some (.b true, sg, lo) := by
 cases h with
 | c h1 k =>
 obtain ⟨n1, rfl, w1⟩ := fits_i h1
 cases k with
 | c h2 k =>
 obtain ⟨n2, rfl, w2⟩ := fits_i h2
 cases k with
 | c h3 k =>
 cases h3 with
 | l sz agg e xs hl hx ha =>
 obtain ⟨is, rfl, hi⟩ := fits_items xs hx (by simpa using ha)
 cases k with
 | c h4 k =>
 obtain ⟨n4, rfl, w4⟩ := fits_i h4
 cases k with
 | c h5 k =>
 cases h5 with
 | l sz agg e xs hl hx ha =>
 obtain ⟨rs, rfl, hr⟩ := fits_rls xs hx (by simpa using ha)
 cases k
 exact ⟨[], 0, laxChecks n1 n2 is n4 rs hi hr⟩
end Go.AM
