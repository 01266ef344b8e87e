/- Lemmas: an abstract machine over the loaded program, proved sound against the model once; what the program's functions compute. -/
import Derived.Test.YtkkglhniofchnaaK2
import Derived.Test.YtkkglhniofchnaaK3
import Derived.Laws.BitsLemmas
import Derived.Test.YtkkglhniofchnaaK1
import Derived.Test.YtkkglhniofchnaaProg
set_option linter.all false
namespace Go.AM
noncomputable abbrev LL : Or := lim EE
class Kt (α : Type) where
 q : α → Prop
class K3 where
 q : R → St → Ac → Prop
class Pr where
 p : Prop
def WC (c : C) (s : St) [k : Kt Rs] (_ : True) : Prop := ∃ r, evC EE LL c s = some r ∧ k.q r
def WG (gs : List Gh) (s : St) [k : Kt St] (_ : True) : Prop := ∃ t, evGs gs s = some t ∧ k.q t
def WO (ops : List I) (s : St) [k : Kt St] (_ : True) : Prop := ∃ t, evOps EE LL ops s = some t ∧ k.q t
def WD (ops : List I) (acs : List Ac) (s : St) [k : Kt St] (_ : True) : Prop := ∃ t, evOpsD EE LL ops acs s = some t ∧ k.q t
def W1 (x : Option (R × St × Ac)) [k : K3] (_ : True) : Prop := ∃ r s ac, x = some (r, s, ac) ∧ k.q r s ac
def SqQ (b : C) [k : Kt Rs] (r : Rs) (_ : True) : Prop := match r with
 | .n s => @WC b s k trivial
 | .x i s => k.q (.x i s)
 | .r s => k.q (.r s)
def BkQ (n : Nat) [k : Kt Rs] (r : Rs) (_ : True) : Prop := match r with
 | .n s => k.q (.n s)
 | .x i s => if i = n then k.q (.n s) else k.q (.x i s)
 | .r s => k.q (.r s)
def CdQ (x : Option R) [A : Pr] [B : Pr] (_ : True) : Prop := match x with
 | some (.v (.b t)) => if t = true then A.p else B.p
 | _ => False
def GdQ (x : Option R) (b : Bool) [A : Pr] [B : Pr] (_ : True) : Prop := match x with
 | some (.v (.b t)) => if t = b then A.p else B.p
 | some (.v .u) => B.p
 | _ => False
def FnQ (res : List (Sum Nat (Nat × Bool × Nat))) (n : Nat) (x : D × List (List D) × Nat) (r : Rs) : Prop := fin ⟨0, res, .skip⟩ n (some r) = some x
theorem w1_some (r s ac Q) : @W1 (some (r, s, ac)) ⟨Q⟩ trivial ↔ Q r s ac := by
 unfold W1
 constructor
 ·rintro ⟨_, _, _, h, hq⟩; cases h; exact hq
 ·exact fun h => ⟨_, _, _, rfl, h⟩
theorem w1_none (Q) : @W1 none ⟨Q⟩ trivial ↔ False := by simp [W1]
theorem wc_skip (s Q) : @WC .skip s ⟨Q⟩ trivial ↔ Q (.n s) := by simp [WC, evC]
theorem wc_ret (s Q) : @WC .ret s ⟨Q⟩ trivial ↔ Q (.r s) := by simp [WC, evC]
theorem wc_exit (n s Q) : @WC (.exit n) s ⟨Q⟩ trivial ↔ Q (.x n s) := by simp [WC, evC]
theorem wc_seq (a b s Q) : @WC (.seq a b) s ⟨Q⟩ trivial ↔ @WC a s ⟨fun r => @SqQ b ⟨Q⟩ r trivial⟩ trivial := by
 unfold WC
 simp only [evC]
 constructor
 ·rintro ⟨r, h, hq⟩
  cases h1 : evC EE LL a s with
  | none => rw [h1] at h; simp [sq] at h
  | some r1 =>
   rw [h1] at h
   refine ⟨r1, rfl, ?_⟩
   cases r1 with
   | n s1 => exact ⟨r, h, hq⟩
   | x i s1 => simp [sq] at h; subst h; exact hq
   | r s1 => simp [sq] at h; subst h; exact hq
 ·rintro ⟨r1, h1, hq⟩
  rw [h1]
  cases r1 with
  | n s1 => exact hq
  | x i s1 => exact ⟨_, rfl, hq⟩
  | r s1 => exact ⟨_, rfl, hq⟩
theorem wc_blk (n a s Q) : @WC (.blk n a) s ⟨Q⟩ trivial ↔ @WC a s ⟨fun r => @BkQ n ⟨Q⟩ r trivial⟩ trivial := by
 unfold WC
 simp only [evC]
 constructor
 ·rintro ⟨r, h, hq⟩
  cases h1 : evC EE LL a s with
  | none => rw [h1] at h; simp [bk] at h
  | some r1 =>
   rw [h1] at h
   refine ⟨r1, rfl, ?_⟩
   cases r1 with
   | n s1 => simp [bk] at h; subst h; exact hq
   | r s1 => simp [bk] at h; subst h; exact hq
   | x i s1 =>
    simp only [bk] at h
    simp only [BkQ]
    split at h <;> rename_i e <;> cases h
    ·rw [if_pos e]; exact hq
    ·rw [if_neg e]; exact hq
 ·rintro ⟨r1, h1, hq⟩
  rw [h1]
  cases r1 with
  | n s1 => exact ⟨_, rfl, hq⟩
  | r s1 => exact ⟨_, rfl, hq⟩
  | x i s1 =>
   simp only [BkQ] at hq
   simp only [bk]
   split at hq <;> rename_i e
   ·exact ⟨_, by rw [if_pos e], hq⟩
   ·exact ⟨_, by rw [if_neg e], hq⟩
theorem wc_cond (x a b s Q) : @WC (.cond x a b) s ⟨Q⟩ trivial ↔ @CdQ (look x s.fr) ⟨@WC a s ⟨Q⟩ trivial⟩ ⟨@WC b s ⟨Q⟩ trivial⟩ trivial := by
 unfold WC
 simp only [evC]
 cases h : look x s.fr with
 | none => simp [CdQ]
 | some r =>
  cases r with
  | q q => simp [CdQ]
  | v d =>
   cases d <;> simp [CdQ]
   rename_i t; cases t <;> simp
theorem wc_reg (gs ops ls os s Q) : @WC (.reg gs ops false ls os) s ⟨Q⟩ trivial ↔ @WG gs s ⟨fun s => @WO ops s ⟨fun s => Q (.n { s with fr := forget (AM.Q.dead os) (keep ls s.fr), ob := keep os s.ob })⟩ trivial⟩ trivial := by
 unfold WC WG WO
 simp only [evC]
 cases h : evGs gs s with
 | none => simp
 | some t =>
  simp only [Bool.false_eq_true, if_false]
  cases h2 : evOps EE LL ops t with
  | none => simp [h2]
  | some t2 => simp [h2]
theorem wc_regd (gs ops ls os s Q) : @WC (.reg gs ops true ls os) s ⟨Q⟩ trivial ↔ @WG gs s ⟨fun s => @WD ops [] s ⟨fun s => Q (.n { s with fr := forget (AM.Q.dead os) (keep ls s.fr), ob := keep os s.ob })⟩ trivial⟩ trivial := by
 unfold WC WG WD
 simp only [evC]
 cases h : evGs gs s with
 | none => simp
 | some t =>
  simp only [if_true]
  cases h2 : evOpsD EE LL ops [] t with
  | none => simp [h2]
  | some t2 => simp [h2]
theorem wg_nil (s Q) : @WG [] s ⟨Q⟩ trivial ↔ Q s := by simp [WG, evGs]
theorem wg_cons (g gs s Q) : @WG (g :: gs) s ⟨Q⟩ trivial ↔ ∃ t, evG g s = some t ∧ @WG gs t ⟨Q⟩ trivial := by
 unfold WG
 simp only [evGs]
 cases h : evG g s with
 | none => simp
 | some t => simp
theorem wo_nil (s Q) : @WO [] s ⟨Q⟩ trivial ↔ Q s := by simp [WO, evOps]
theorem wo_cons (d op un fz r s Q) : @WO (⟨d, none, op, un, fz⟩ :: r) s ⟨Q⟩ trivial ↔ @W1 (evO LL EE.meth op s d) ⟨fun x t _ => @WO r (t.put d (fzR fz x)) ⟨Q⟩ trivial⟩ trivial := by
 cases h : evO LL EE.meth op s d with
 | none => rw [w1_none]; simp [WO, evOps, evI, wants, h]
 | some p =>
  obtain ⟨x, t, ac⟩ := p
  rw [w1_some]
  unfold WO
  simp only [evOps, evI, wants, h, Option.map_some]
theorem wo_guard (d k b op un fz r s Q) : @WO (⟨d, some (k, b), op, un, fz⟩ :: r) s ⟨Q⟩ trivial ↔ @GdQ (look k s.fr) b ⟨@W1 (evO LL EE.meth op s d) ⟨fun x t _ => @WO r (t.put d (fzR fz x)) ⟨Q⟩ trivial⟩ trivial⟩ ⟨@WO r (s.put d (.v .u)) ⟨Q⟩ trivial⟩ trivial := by
 have h0 : ∀ t : Bool, look k s.fr = some (.v (.b t)) → (@WO (⟨d, some (k, b), op, un, fz⟩ :: r) s ⟨Q⟩ trivial ↔ @WO (⟨d, none, op, un, fz⟩ :: r) s ⟨Q⟩ trivial ∧ t = b ∨ t ≠ b ∧ @WO r (s.put d (.v .u)) ⟨Q⟩ trivial) := by
  intro t ht
  unfold WO
  simp only [evOps, evI, wants, ht]
  cases t <;> cases b <;> simp
 cases hl : look k s.fr with
 | none => simp [WO, evOps, evI, wants, hl, GdQ]
 | some x =>
  cases x with
  | q q => simp [WO, evOps, evI, wants, hl, GdQ]
  | v v =>
   cases v <;> try (simp [WO, evOps, evI, wants, hl, GdQ]; done)
   rename_i t
   rw [h0 t hl, wo_cons]
   simp only [GdQ]
   cases t <;> cases b <;> simp
theorem wd_nil (acs s Q) : @WD [] acs s ⟨Q⟩ trivial ↔ Q s := by simp [WD, evOpsD]
theorem wd_cons (d op un fz r acs s Q) : @WD (⟨d, none, op, un, fz⟩ :: r) acs s ⟨Q⟩ trivial ↔ @W1 (evO LL EE.meth op s d) ⟨fun x t ac => okA un acs ac = true ∧ @WD r (acs ++ [ac]) (t.put d (fzR fz x)) ⟨Q⟩ trivial⟩ trivial := by
 cases h : evO LL EE.meth op s d with
 | none => rw [w1_none]; simp [WD, evOpsD, evI, wants, h]
 | some p =>
  obtain ⟨x, t, ac⟩ := p
  rw [w1_some]
  unfold WD
  simp only [evOpsD, evI, wants, h, Option.map_some]
  constructor
  ·rintro ⟨t', h1, h2⟩
   split at h1
   ·rename_i hk; exact ⟨hk, t', h1, h2⟩
   ·cases h1
  ·rintro ⟨hk, t2, h1, h2⟩
   exact ⟨t2, by rw [if_pos hk]; exact h1, h2⟩
theorem wd_guard (d k b op un fz r acs s Q) : @WD (⟨d, some (k, b), op, un, fz⟩ :: r) acs s ⟨Q⟩ trivial ↔ @GdQ (look k s.fr) b ⟨@W1 (evO LL EE.meth op s d) ⟨fun x t ac => okA un acs ac = true ∧ @WD r (acs ++ [ac]) (t.put d (fzR fz x)) ⟨Q⟩ trivial⟩ trivial⟩ ⟨okA un acs .no = true ∧ @WD r (acs ++ [.no]) (s.put d (.v .u)) ⟨Q⟩ trivial⟩ trivial := by
 have hu : @WD (⟨d, none, .mv (.c .u), un, 0⟩ :: r) acs s ⟨Q⟩ trivial ↔ (okA un acs .no = true ∧ @WD r (acs ++ [.no]) (s.put d (.v .u)) ⟨Q⟩ trivial) := by
  rw [wd_cons]
  simp only [evO, rx, Option.map_some, R.ac, w1_some, fzR]
 have h0 : ∀ t : Bool, look k s.fr = some (.v (.b t)) → (@WD (⟨d, some (k, b), op, un, fz⟩ :: r) acs s ⟨Q⟩ trivial ↔ @WD (⟨d, none, op, un, fz⟩ :: r) acs s ⟨Q⟩ trivial ∧ t = b ∨ t ≠ b ∧ @WD (⟨d, none, .mv (.c .u), un, 0⟩ :: r) acs s ⟨Q⟩ trivial) := by
  intro t ht
  unfold WD
  simp only [evOpsD, evI, wants, ht, evO, rx, Option.map_some, R.ac, fzR]
  cases t <;> cases b <;> simp
 cases hl : look k s.fr with
 | none => simp [WD, evOpsD, evI, wants, hl, GdQ]
 | some x =>
  cases x with
  | q q => simp [WD, evOpsD, evI, wants, hl, GdQ]
  | v v =>
   cases v <;> try (simp [WD, evOpsD, evI, wants, hl, GdQ]; done)
   ·rename_i t
    rw [h0 t hl, hu, wd_cons]
    simp only [GdQ]
    cases t <;> cases b <;> simp
   ·have : @WD (⟨d, some (k, b), op, un, fz⟩ :: r) acs s ⟨Q⟩ trivial ↔ @WD (⟨d, none, .mv (.c .u), un, 0⟩ :: r) acs s ⟨Q⟩ trivial := by
     unfold WD
     simp only [evOpsD, evI, wants, hl, evO, rx, Option.map_some, R.ac, fzR]
    rw [this, hu]
    simp [GdQ]
theorem gd_u (b A B) : @GdQ (some (.v .u)) b ⟨A⟩ ⟨B⟩ trivial ↔ B := Iff.rfl
theorem sq_n (b Q s) : @SqQ b ⟨Q⟩ (.n s) trivial ↔ @WC b s ⟨Q⟩ trivial := Iff.rfl
theorem sq_x (b Q i s) : @SqQ b ⟨Q⟩ (.x i s) trivial ↔ Q (.x i s) := Iff.rfl
theorem sq_r (b Q s) : @SqQ b ⟨Q⟩ (.r s) trivial ↔ Q (.r s) := Iff.rfl
theorem bk_n (n Q s) : @BkQ n ⟨Q⟩ (.n s) trivial ↔ Q (.n s) := Iff.rfl
theorem bk_x (n Q i s) : @BkQ n ⟨Q⟩ (.x i s) trivial ↔ if i = n then Q (.n s) else Q (.x i s) := Iff.rfl
theorem bk_r (n Q s) : @BkQ n ⟨Q⟩ (.r s) trivial ↔ Q (.r s) := Iff.rfl
theorem wp_call {f : FuncId} {F : F} {ds : List D} {sg : List (List D)} {x : D × List (List D) × Nat} (hF : EE.fn f = some F) (hn : ds.length = F.np)
    (h : @WC F.body ⟨ini 0 ds, [], sg, sg.length⟩ ⟨fun r => FnQ F.res sg.length x r⟩ trivial) (hq : decide (f < Q0) = true := by exact rfl) : LL.call f ds sg sg.length = some x := by
 obtain ⟨r, h1, h2⟩ := h
 refine call_of ?_
 unfold stepCall
 simp only [hF, if_pos hn]
 rw [iniF_lt (of_decide_eq_true hq)]
 simp only
 rw [h1]; exact h2
theorem wc_loop {c s Q} (h : @WC c s ⟨fun r => @SqQ (.loop c) ⟨Q⟩ r trivial⟩ trivial) : @WC (.loop c) s ⟨Q⟩ trivial := by
 obtain ⟨r1, h1, h2⟩ := h
 cases r1 with
 | n s1 =>
  obtain ⟨r, h3, h4⟩ := h2
  refine ⟨r, ?_, h4⟩
  simp only [evC] at h3 ⊢
  refine loop_of ?_
  unfold stepLoop
  rw [h1]; exact h3
 | x i s1 =>
  refine ⟨.x i s1, ?_, h2⟩
  simp only [evC]
  refine loop_of ?_
  unfold stepLoop
  rw [h1]; rfl
 | r s1 =>
  refine ⟨.r s1, ?_, h2⟩
  simp only [evC]
  refine loop_of ?_
  unfold stepLoop
  rw [h1]; rfl
end Go.AM

namespace Go.AM
def O1 {α : Type} (o : Option α) [k : Kt α] (_ : True) : Prop := ∃ a, o = some a ∧ k.q a
theorem o1_some {α : Type} (a : α) (Q) : @O1 _ (some a) ⟨Q⟩ trivial ↔ Q a := by simp [O1]
theorem o1_none {α : Type} (Q : α → Prop) : @O1 _ none ⟨Q⟩ trivial ↔ False := by simp [O1]
theorem o1_map {α β : Type} (o : Option α) (f : α → β) (Q) : @O1 _ (o.map f) ⟨Q⟩ trivial ↔ @O1 _ o ⟨fun a => Q (f a)⟩ trivial := by cases o <;> simp [O1]
theorem o1_if_none {α : Type} (c : Prop) [Decidable c] (o : Option α) (Q) : @O1 _ (if c then none else o) ⟨Q⟩ trivial ↔ ¬ c ∧ @O1 _ o ⟨Q⟩ trivial := by by_cases h : c <;> simp [h, O1]
theorem o1_if {α : Type} (c : Prop) [Decidable c] (o : Option α) (Q) : @O1 _ (if c then o else none) ⟨Q⟩ trivial ↔ c ∧ @O1 _ o ⟨Q⟩ trivial := by by_cases h : c <;> simp [h, O1]
theorem o1_ite {α : Type} (c : Prop) [Decidable c] (a b : α) (Q) : @O1 _ (if c then some a else some b) ⟨Q⟩ trivial ↔ Q (if c then a else b) := by by_cases h : c <;> simp [h, O1]
section
variable (OO : Or) (m : TypeId → String → Option FuncId) (s : St) (d : Option Nat) (Q : R → St → Ac → Prop)
theorem w1_map {α : Type} (o : Option α) (f : α → R × St × Ac) : @W1 (o.map f) ⟨Q⟩ trivial ↔ @O1 _ o ⟨fun a => Q (f a).1 (f a).2.1 (f a).2.2⟩ trivial := by
 cases o with
 | none => simp [W1, O1]
 | some a => rw [Option.map_some, o1_some]; exact w1_some _ _ _ _
theorem w1_o1 (o : Option (R × St × Ac)) : @W1 o ⟨Q⟩ trivial ↔ @O1 _ o ⟨fun p => Q p.1 p.2.1 p.2.2⟩ trivial := by
 cases o with
 | none => simp [W1, O1]
 | some a => obtain ⟨x, t, ac⟩ := a; rw [w1_some, o1_some]
theorem w_mv (x : X) : @W1 (evO OO m (.mv x) s d) ⟨Q⟩ trivial ↔ @O1 _ (rx x s) ⟨fun p => Q p.1 p.2 p.1.ac⟩ trivial := by simp only [evO]; rw [w1_map]
theorem w_bin (op : BinOp) (x y : X) : @W1 (evO OO m (.bin op x y) s d) ⟨Q⟩ trivial ↔ @O1 _ (rxv x s) ⟨fun p => @O1 _ (rxv y p.2) ⟨fun q => @O1 _ (binv op p.1 q.1) ⟨fun r => Q (.v r) q.2 .no⟩ trivial⟩ trivial⟩ trivial := by
 simp only [evO]
 cases rxv x s with
 | none => simp [w1_none, o1_none]
 | some p =>
  obtain ⟨a, s1⟩ := p
  simp only [o1_some]
  cases rxv y s1 with
  | none => simp [w1_none, o1_none]
  | some q => obtain ⟨b, s2⟩ := q; simp only [o1_some]; rw [w1_map]
theorem w_eq (neg : Bool) (c : Ec) (x y : X) : @W1 (evO OO m (.eq neg c x y) s d) ⟨Q⟩ trivial ↔ @O1 _ (rxv x s) ⟨fun p => @O1 _ (rxv y p.2) ⟨fun q => @O1 _ (eq1 c p.1 q.1) ⟨fun t => Q (.v (.b (if neg then !t else t))) q.2 .no⟩ trivial⟩ trivial⟩ trivial := by
 simp only [evO]
 cases rxv x s with
 | none => simp [w1_none, o1_none]
 | some p =>
  obtain ⟨a, s1⟩ := p
  simp only [o1_some]
  cases rxv y s1 with
  | none => simp [w1_none, o1_none]
  | some q => obtain ⟨b, s2⟩ := q; simp only [o1_some]; rw [w1_map]
theorem w_un (op : UnOp) (x : X) : @W1 (evO OO m (.un op x) s d) ⟨Q⟩ trivial ↔ @O1 _ (rxv x s) ⟨fun p => @O1 _ (unv op p.1) ⟨fun r => Q (.v r) p.2 .no⟩ trivial⟩ trivial := by
 simp only [evO]
 cases rxv x s with
 | none => simp [w1_none, o1_none]
 | some p => obtain ⟨a, s1⟩ := p; simp only [o1_some]; rw [w1_map]
theorem w_cv (c : Cv) (x : X) : @W1 (evO OO m (.cv c x) s d) ⟨Q⟩ trivial ↔ @O1 _ (rxv x s) ⟨fun p => @O1 _ (cvv c p.1) ⟨fun r => Q (.v r) p.2 .no⟩ trivial⟩ trivial := by
 simp only [evO]
 cases rxv x s with
 | none => simp [w1_none, o1_none]
 | some p => obtain ⟨a, s1⟩ := p; simp only [o1_some]; rw [w1_map]
theorem w_ia (sz : Nat) (len : Option Nat) (x y : X) : @W1 (evO OO m (.ia sz len x y) s d) ⟨Q⟩ trivial ↔ @O1 _ (rx x s) ⟨fun p => @O1 _ (rxv y p.2) ⟨fun q => match q.1 with | .i _ n => @O1 _ (iav q.2 sz len p.1.fz n) ⟨fun r => Q r.1 q.2 r.2⟩ trivial | _ => False⟩ trivial⟩ trivial := by
 simp only [evO]
 cases rx x s with
 | none => simp [w1_none, o1_none]
 | some p =>
  obtain ⟨a, s1⟩ := p
  simp only [o1_some]
  cases h2 : rxv y s1 with
  | none => simp [w1_none, o1_none, h2]
  | some q =>
   obtain ⟨b, s2⟩ := q
   simp only [o1_some, h2]
   cases b <;> first | rw [w1_none] | skip
   simp only
   rw [w1_map]
theorem o1_iav_l (sz : Nat) (k : K) (sz' : Nat) (xs : List D) (n : Int) (Q : R × Ac → Prop) : @O1 _ (iav s sz none (.v (.l k sz' xs)) n) ⟨Q⟩ trivial ↔ 0 ≤ n ∧ (sz' = sz ∧ k ≠ .x) ∧ @O1 _ xs[n.toNat]? ⟨fun d => Q (.v (.q d.cells 0), .no)⟩ trivial := by
 unfold iav
 by_cases hn : n < 0
 ·simp [hn, o1_none]; omega
 ·rw [if_neg hn]
  simp only
  by_cases hc : sz' = sz ∧ k ≠ .x
  ·rw [if_pos hc]
   cases h : xs[n.toNat]? with
   | none => simp [o1_none]
   | some d => simp [o1_some, hc]; omega
  ·rw [if_neg hc]
   simp only [o1_none, hc, false_and, and_false]
theorem o1_iav_hd (sz : Nat) (pl : Pl) (n : Int) (sz' : Nat) (xs : List D) (h : s.at pl = some (.l .x sz' xs)) (Q : R × Ac → Prop) : @O1 _ (iav s sz none (.q (.hd pl)) n) ⟨Q⟩ trivial ↔ 0 ≤ n ∧ (sz' = sz ∧ n.toNat < xs.length) ∧ Q (.q (.el pl n.toNat 0), pl.rb) := by
 unfold iav
 by_cases hn : n < 0
 ·simp [hn, o1_none]; omega
 ·rw [if_neg hn]
  simp only [hpl, h]
  by_cases hc : sz' = sz ∧ n.toNat < xs.length
  ·rw [if_pos hc, o1_some, hd_ac]; simp [hc]; omega
  ·rw [if_neg hc, o1_none]; simp only [hc, false_and, and_false]
def AtQ (x : Option D) [k : Kt (Nat × List D)] (_ : True) : Prop := ∃ sz xs, x = some (.l .x sz xs) ∧ k.q (sz, xs)
theorem at_some (sz : Nat) (xs : List D) (Q) : @AtQ (some (.l .x sz xs)) ⟨Q⟩ trivial ↔ Q (sz, xs) := by
 constructor
 ·rintro ⟨_, _, h, hq⟩; cases h; exact hq
 ·exact fun h => ⟨_, _, rfl, h⟩
theorem o1_iav_hd' (sz : Nat) (pl : Pl) (n : Int) (Q : R × Ac → Prop) : @O1 _ (iav s sz none (.q (.hd pl)) n) ⟨Q⟩ trivial ↔ 0 ≤ n ∧ @AtQ (s.at pl) ⟨fun a => (a.1 = sz ∧ n.toNat < a.2.length) ∧ Q (.q (.el pl n.toNat 0), pl.rb)⟩ trivial := by
 constructor
 ·intro h
  unfold iav at h
  by_cases hn : n < 0
  ·simp [hn, o1_none] at h
  ·rw [if_neg hn] at h
   simp only [hpl] at h
   split at h
   ·rename_i sz' xs he
    have h' : @O1 _ (iav s sz none (.q (.hd pl)) n) ⟨Q⟩ trivial := by
     unfold iav; rw [if_neg hn]; simp only [hpl, he]; exact h
    rw [o1_iav_hd s sz pl n sz' xs he] at h'
    exact ⟨h'.1, sz', xs, he, h'.2⟩
   ·simp [o1_none] at h
 ·rintro ⟨h0, sz', xs, he, h⟩
  exact (o1_iav_hd s sz pl n sz' xs he Q).2 ⟨h0, h⟩
theorem o1_iav_hdr (sz : Nat) (k : Nat) (n : Int) (sz' : Nat) (xs : List D) (h : s.at (.ob k 0) = some (.l .x sz' xs)) (Q : R × Ac → Prop) : @O1 _ (iav s sz none (.q (.hdr k)) n) ⟨Q⟩ trivial ↔ 0 ≤ n ∧ (sz' = sz ∧ n.toNat < xs.length) ∧ Q (.q (.el (.ob k 0) n.toNat 0), .rb k) := by
 unfold iav
 by_cases hn : n < 0
 ·simp [hn, o1_none]; omega
 ·rw [if_neg hn]
  simp only [hpl, h]
  by_cases hc : sz' = sz ∧ n.toNat < xs.length
  ·rw [if_pos hc, o1_some]; simp [hc]; omega
  ·rw [if_neg hc, o1_none]; simp only [hc, false_and, and_false]
theorem o1_iav_hdr' (sz : Nat) (k : Nat) (n : Int) (Q : R × Ac → Prop) : @O1 _ (iav s sz none (.q (.hdr k)) n) ⟨Q⟩ trivial ↔ 0 ≤ n ∧ @AtQ (s.at (.ob k 0)) ⟨fun a => (a.1 = sz ∧ n.toNat < a.2.length) ∧ Q (.q (.el (.ob k 0) n.toNat 0), .rb k)⟩ trivial := by
 constructor
 ·intro h
  unfold iav at h
  by_cases hn : n < 0
  ·simp [hn, o1_none] at h
  ·rw [if_neg hn] at h
   simp only [hpl] at h
   split at h
   ·rename_i sz' xs he
    have h' : @O1 _ (iav s sz none (.q (.hdr k)) n) ⟨Q⟩ trivial := by
     unfold iav; rw [if_neg hn]; simp only [hpl, he]; exact h
    rw [o1_iav_hdr s sz k n sz' xs he] at h'
    exact ⟨h'.1, sz', xs, he, h'.2⟩
   ·simp [o1_none] at h
 ·rintro ⟨h0, sz', xs, he, h⟩
  exact (o1_iav_hdr s sz k n sz' xs he Q).2 ⟨h0, h⟩
theorem w_sl (sz : Nat) (x : X) (lo hi mx : Option X) : @W1 (evO OO m (.sl sz x lo hi mx) s d) ⟨Q⟩ trivial ↔ @O1 _ (rxv x s) ⟨fun p => @O1 _ (evO.rxo lo p.2) ⟨fun l => @O1 _ (evO.rxo hi l.2) ⟨fun h => @O1 _ (evO.rxo mx h.2) ⟨fun m => @O1 _ (slv sz p.1 l.1 h.1 m.1) ⟨fun r => Q (.v r) m.2 .no⟩ trivial⟩ trivial⟩ trivial⟩ trivial⟩ trivial := by
 simp only [evO]
 cases rxv x s with
 | none => simp [w1_none, o1_none]
 | some p =>
  obtain ⟨a, s1⟩ := p
  simp only [o1_some]
  cases evO.rxo lo s1 with
  | none => simp [w1_none, o1_none]
  | some q =>
   obtain ⟨l, s2⟩ := q
   simp only [o1_some]
   cases evO.rxo hi s2 with
   | none => simp [w1_none, o1_none]
   | some q =>
    obtain ⟨h, s3⟩ := q
    simp only [o1_some]
    cases evO.rxo mx s3 with
    | none => simp [w1_none, o1_none]
    | some q => obtain ⟨mm, s4⟩ := q; simp only [o1_some]; rw [w1_map]
theorem w_ss (x : X) (lo hi : Option X) : @W1 (evO OO m (.ss x lo hi) s d) ⟨Q⟩ trivial ↔ @O1 _ (rxv x s) ⟨fun p => @O1 _ (evO.rxo lo p.2) ⟨fun l => @O1 _ (evO.rxo hi l.2) ⟨fun h => @O1 _ (ssv p.1 l.1 h.1) ⟨fun r => Q (.v r) h.2 .no⟩ trivial⟩ trivial⟩ trivial⟩ trivial := by
 simp only [evO]
 cases rxv x s with
 | none => simp [w1_none, o1_none]
 | some p =>
  obtain ⟨a, s1⟩ := p
  simp only [o1_some]
  cases evO.rxo lo s1 with
  | none => simp [w1_none, o1_none]
  | some q =>
   obtain ⟨l, s2⟩ := q
   simp only [o1_some]
   cases evO.rxo hi s2 with
   | none => simp [w1_none, o1_none]
   | some q => obtain ⟨h, s3⟩ := q; simp only [o1_some]; rw [w1_map]
theorem rxo_none (s : St) : evO.rxo none s = some (none, s) := rfl
theorem rxo_some (x : X) (s : St) : evO.rxo (some x) s = (rxv x s).map fun p => (some p.1, p.2) := rfl
def BdQ (o : Option D) (dflt top : Nat) [k : Kt Nat] (_ : True) : Prop := @O1 _ (bnd o dflt top) k trivial
theorem bd_none (dflt top Q) : @BdQ none dflt top ⟨Q⟩ trivial ↔ Q dflt := by simp [BdQ, bnd, o1_some]
theorem bd_some (k n dflt top Q) : @BdQ (some (.i k n)) dflt top ⟨Q⟩ trivial ↔ (0 ≤ n ∧ n ≤ top) ∧ Q n.toNat := by simp only [BdQ, bnd, o1_if, o1_some]
theorem o1_ssv (v : ByteArray) (lo hi : Option D) (Q : D → Prop) : @O1 _ (ssv (.s v) lo hi) ⟨Q⟩ trivial ↔ @BdQ hi v.size v.size ⟨fun h => @BdQ lo 0 h ⟨fun l => Q (.s (v.extract l h))⟩ trivial⟩ trivial := by
 unfold ssv BdQ
 simp only
 cases bnd hi v.size v.size with
 | none => simp [o1_none]
 | some h =>
  simp only [o1_some]
  cases bnd lo 0 h with
  | none => simp [o1_none]
  | some l => simp [o1_some]
theorem o1_slv2 (sz : Nat) (k : K) (sz' : Nat) (xs : List D) (lo hi : Option D) (Q : D → Prop) : @O1 _ (slv sz (.l k sz' xs) lo hi none) ⟨Q⟩ trivial ↔ sz' = sz ∧ @BdQ hi xs.length xs.length ⟨fun h => @BdQ lo 0 h ⟨fun l => Q (.l (slk k hi.isNone lo.isNone) sz ((xs.take h).drop l))⟩ trivial⟩ trivial := by
 unfold slv BdQ
 simp only [o1_if]
 cases bnd hi xs.length xs.length with
 | none => simp [o1_none]
 | some h =>
  simp only [o1_some]
  cases bnd lo 0 h with
  | none => simp [o1_none]
  | some l => simp [o1_some]
theorem o1_slv3 (sz : Nat) (k : K) (sz' : Nat) (xs : List D) (lo : Option D) (h m : D) (Q : D → Prop) : @O1 _ (slv sz (.l k sz' xs) lo (some h) (some m)) ⟨Q⟩ trivial ↔ sz' = sz ∧ @BdQ (some m) 0 xs.length ⟨fun m => @BdQ (some h) 0 m ⟨fun h => h = m ∧ @BdQ lo 0 h ⟨fun l => k ≠ .x ∧ Q (.l .n sz ((xs.take h).drop l))⟩ trivial⟩ trivial⟩ trivial := by
 unfold slv BdQ
 simp only [o1_if]
 cases bnd (some m) 0 xs.length with
 | none => simp [o1_none]
 | some m =>
  simp only [o1_some]
  cases bnd (some h) 0 m with
  | none => simp [o1_none]
  | some h =>
   simp only [o1_some, o1_if]
   cases bnd lo 0 h with
   | none => simp [o1_none]
   | some l => cases k <;> simp [o1_some, o1_none]
theorem w_ixs (x y : X) : @W1 (evO OO m (.ixs x y) s d) ⟨Q⟩ trivial ↔ @O1 _ (rxv x s) ⟨fun p => @O1 _ (rxv y p.2) ⟨fun q => match p.1, q.1 with | .s v, .i _ n => 0 ≤ n ∧ @O1 _ v.data.toList[n.toNat]? ⟨fun c => Q (.v (.i .u8 c.toNat)) q.2 .no⟩ trivial | _, _ => False⟩ trivial⟩ trivial := by
 simp only [evO]
 cases rxv x s with
 | none => simp [w1_none, o1_none]
 | some p =>
  obtain ⟨a, s1⟩ := p
  simp only [o1_some]
  cases h2 : rxv y s1 with
  | none => cases a <;> simp [w1_none, o1_none, h2]
  | some q =>
   obtain ⟨b, s2⟩ := q
   simp only [o1_some]
   cases a <;> simp only [h2, w1_none]
   cases b <;> simp only [w1_none]
   rename_i v k n
   by_cases hn : 0 ≤ n
   ·rw [if_pos hn]
    cases v.data.toList[n.toNat]? with
    | none => simp [w1_none, o1_none]
    | some c => simp [w1_some, o1_some, hn]
   ·rw [if_neg hn]; simp [w1_none, hn]
theorem w_ixa (agg : Bool) (sz len : Nat) (x y : X) : @W1 (evO OO m (.ixa agg sz len x y) s d) ⟨Q⟩ trivial ↔ @O1 _ (rxv x s) ⟨fun p => @O1 _ (rxv y p.2) ⟨fun q => match p.1, q.1 with | .a cs, .i _ n => (0 ≤ n ∧ n < len) ∧ @O1 _ (sub cs (n.toNat * sz) sz) ⟨fun ds => @O1 _ (ofc agg ds) ⟨fun r => Q (.v r) q.2 .no⟩ trivial⟩ trivial | _, _ => False⟩ trivial⟩ trivial := by
 simp only [evO]
 cases rxv x s with
 | none => simp [w1_none, o1_none]
 | some p =>
  obtain ⟨a, s1⟩ := p
  simp only [o1_some]
  cases h2 : rxv y s1 with
  | none => cases a <;> simp [w1_none, o1_none, h2]
  | some q =>
   obtain ⟨b, s2⟩ := q
   simp only [o1_some]
   cases a <;> simp only [h2, w1_none]
   cases b <;> simp only [w1_none]
   rename_i cs k n
   by_cases hn : 0 ≤ n ∧ n < len
   ·rw [if_pos hn]
    cases sub cs (n.toNat * sz) sz with
    | none => simp [w1_none, o1_none]
    | some c => simp only [o1_some, w1_map, hn, true_and]
   ·rw [if_neg hn]; simp only [w1_none, hn, false_and]
theorem w_app (sz bytes : Nat) (x y : X) : @W1 (evO OO m (.app sz bytes x y) s d) ⟨Q⟩ trivial ↔ @O1 _ (rxv x s) ⟨fun p => @O1 _ (rx y p.2) ⟨fun q => @O1 _ (elems q.2 q.1) ⟨fun e => e.1 = sz ∧ @O1 _ (appv sz bytes p.1 e.2) ⟨fun r => Q (.v r) q.2 q.1.acE⟩ trivial⟩ trivial⟩ trivial⟩ trivial := by
 simp only [evO]
 cases rxv x s with
 | none => simp [w1_none, o1_none]
 | some p =>
  obtain ⟨a, s1⟩ := p
  simp only [o1_some]
  cases h2 : rx y s1 with
  | none => simp [w1_none, o1_none, h2]
  | some q =>
   obtain ⟨b, s2⟩ := q
   simp only [o1_some, h2]
   cases elems s2 b with
   | none => simp [w1_none, o1_none]
   | some e =>
    obtain ⟨sz', ys⟩ := e
    simp only [o1_some]
    by_cases hz : sz' = sz
    ·rw [if_pos hz]; simp only [hz, true_and]; rw [w1_map]
    ·rw [if_neg hz]; simp [w1_none, hz]
theorem w_apps (x y : X) : @W1 (evO OO m (.apps x y) s d) ⟨Q⟩ trivial ↔ @O1 _ (rxv x s) ⟨fun p => @O1 _ (rxv y p.2) ⟨fun q => match q.1 with | .s v => @O1 _ (appv 1 1 p.1 (ofBy v)) ⟨fun r => Q (.v r) q.2 .no⟩ trivial | _ => False⟩ trivial⟩ trivial := by
 simp only [evO]
 cases rxv x s with
 | none => simp [w1_none, o1_none]
 | some p =>
  obtain ⟨a, s1⟩ := p
  simp only [o1_some]
  cases h2 : rxv y s1 with
  | none => simp [w1_none, o1_none, h2]
  | some q =>
   obtain ⟨b, s2⟩ := q
   simp only [o1_some, h2]
   cases b <;> first | rw [w1_none] | skip
   simp only
   rw [w1_map]
theorem o1_app_x (sz bytes sz' : Nat) (xs ys : List D) (Q : D → Prop) : @O1 _ (appv sz bytes (.l .x sz' xs) ys) ⟨Q⟩ trivial ↔ (sz' = sz ∧ (xs.length + ys.length) * bytes ≤ 140737488355328) ∧ Q (.l .x sz (xs ++ ys)) := by
 unfold appv; simp only [o1_if, o1_some]
theorem o1_app_o (sz bytes sz' : Nat) (xs ys : List D) (Q : D → Prop) : @O1 _ (appv sz bytes (.l .o sz' xs) ys) ⟨Q⟩ trivial ↔ (sz' = sz ∧ (xs.length + ys.length) * bytes ≤ 140737488355328) ∧ Q (.l .o sz (xs ++ D.fzs ys)) := by
 unfold appv; simp only [o1_if, o1_some]
theorem o1_app_n (sz bytes sz' : Nat) (xs ys : List D) (Q : D → Prop) : @O1 _ (appv sz bytes (.l .n sz' xs) ys) ⟨Q⟩ trivial ↔ (sz' = sz ∧ (xs.length + ys.length) * bytes ≤ 140737488355328) ∧ Q (if ys.length = 0 then .l .n sz xs else .l .x sz (xs ++ ys)) := by
 unfold appv; simp only [o1_if]; by_cases h : ys.length = 0 <;> simp [h, o1_some]
theorem w_ms (sz bytes : Nat) (z : D) (x y : X) : @W1 (evO OO m (.ms sz bytes z x y) s d) ⟨Q⟩ trivial ↔ @O1 _ (rxv x s) ⟨fun p => @O1 _ (rxv y p.2) ⟨fun q => match p.1, q.1 with | .i .i64 n, .i .i64 c => (0 ≤ n ∧ n ≤ c ∧ c ≤ 9223372036854775807 ∧ c.toNat * bytes ≤ 140737488355328) ∧ Q (.v (.l .x sz (List.replicate n.toNat z))) q.2 .no | _, _ => False⟩ trivial⟩ trivial := by
 simp only [evO]
 cases rxv x s with
 | none => simp [w1_none, o1_none]
 | some p =>
  obtain ⟨a, s1⟩ := p
  simp only [o1_some]
  cases h2 : rxv y s1 with
  | none => cases a <;> simp [w1_none, o1_none, h2]; rename_i k _; cases k <;> simp [w1_none, h2]
  | some q =>
   obtain ⟨b, s2⟩ := q
   simp only [o1_some]
   cases a <;> (try simp only [h2, w1_none])
   rename_i k n
   cases k <;> (try simp only [h2, w1_none])
   cases b <;> (try simp only [w1_none])
   rename_i k c
   cases k <;> (try simp only [w1_none])
   split
   ·rename_i h; simp [w1_some, h]
   ·rename_i h; rw [w1_none]; simp only [h, false_and]
theorem w_call (f : FuncId) (xs : List X) : @W1 (evO OO m (.call f xs) s d) ⟨Q⟩ trivial ↔ @O1 _ (rxs xs s) ⟨fun p => @O1 _ (OO.call f p.1 p.2.sg p.2.sg.length) ⟨fun r => Q (.v r.1) { p.2 with sg := r.2.1, lo := min p.2.lo r.2.2, fr := forget AM.Q.gl p.2.fr } (.cl (D.beqs (r.2.1.map .t) (p.2.sg.map .t) && decide (p.2.lo ≤ r.2.2)))⟩ trivial⟩ trivial := by
 simp only [evO]
 cases rxs xs s with
 | none => simp [w1_none, o1_none]
 | some p =>
  obtain ⟨ds, s1⟩ := p
  simp only [o1_some]
  rw [w1_map]
theorem w_callv (x : X) (xs : List X) : @W1 (evO OO m (.callv x xs) s d) ⟨Q⟩ trivial ↔ @O1 _ (rxv x s) ⟨fun q => match q.1 with
    | .fn f cs => @O1 _ (rxs xs q.2) ⟨fun p => @O1 _ (OO.call f (p.1 ++ cs) p.2.sg p.2.sg.length) ⟨fun r => Q (.v r.1) { p.2 with sg := r.2.1, lo := min p.2.lo r.2.2, fr := forget AM.Q.gl p.2.fr } (.cl (D.beqs (r.2.1.map .t) (p.2.sg.map .t) && decide (p.2.lo ≤ r.2.2)))⟩ trivial⟩ trivial
    | _ => False⟩ trivial := by
 simp only [evO]
 cases rxv x s with
 | none => simp [w1_none, o1_none]
 | some q =>
  obtain ⟨a, s1⟩ := q
  simp only [o1_some]
  cases a <;> simp only [w1_none]
  rename_i f cs
  cases rxs xs s1 with
  | none => simp [w1_none, o1_none]
  | some p =>
   obtain ⟨ds, s1⟩ := p
   simp only [o1_some]
   rw [w1_map]
theorem w_ex (tk : Bool) (n k : Nat) : @W1 (evO OO m (.ex tk n k) s d) ⟨Q⟩ trivial ↔ (match look k s.fr with
    | some (.v (.t ds)) => @O1 _ ds[n]? ⟨fun e => if tk = true then Q (.v e) { s with fr := (k, .v (.t (ds.set n .w))) :: s.fr } .no else @O1 _ e.cp ⟨fun e => Q (.v e) s .no⟩ trivial⟩ trivial
    | _ => False) := by
 simp only [evO]
 cases look k s.fr with
 | none => simp [w1_none]
 | some r =>
  cases r with
  | q x => simp [w1_none]
  | v a =>
   cases a <;> simp only [w1_none]
   rename_i ds
   cases ds[n]? with
   | none => simp [w1_none, o1_none]
   | some e =>
    simp only [o1_some]
    cases tk
    ·simp only [Bool.false_eq_true, if_false]; rw [w1_map]
    ·simp only [if_true, w1_some]
theorem w_len (str : Bool) (x : X) : @W1 (evO OO m (.len str x) s d) ⟨Q⟩ trivial ↔ @O1 _ (rx x s) ⟨fun p => @O1 _ (lenv p.2 str p.1) ⟨fun r => Q (.v (.i .i64 r.1)) p.2 r.2⟩ trivial⟩ trivial := by
 simp only [evO]
 cases rx x s with
 | none => simp [w1_none, o1_none]
 | some p => obtain ⟨a, s1⟩ := p; simp only [o1_some]; rw [w1_map]
theorem w_mx (big : Bool) (xs : List X) : @W1 (evO OO m (.mx big xs) s d) ⟨Q⟩ trivial ↔ @O1 _ (rxs xs s) ⟨fun p => match p.1 with | .i k m :: ds => @O1 _ (mxv big m ds k) ⟨fun r => Q (.v r) p.2 .no⟩ trivial | _ => False⟩ trivial := by
 simp only [evO]
 cases rxs xs s with
 | none => simp [w1_none, o1_none]
 | some p =>
  obtain ⟨ds, s1⟩ := p
  simp only [o1_some]
  cases ds with
  | nil => simp [w1_none]
  | cons d0 ds => cases d0 <;> simp only [w1_none]; rw [w1_map]
theorem w_ld (agg : Bool) (n : Nat) (md : M) (x : X) : @W1 (evO OO m (.ld agg n md x) s d) ⟨Q⟩ trivial ↔ @O1 _ (rx x s) ⟨fun p => @O1 _ (ldp p.2 agg n md p.1) ⟨fun r => Q r.1 r.2.1 r.2.2⟩ trivial⟩ trivial := by
 simp only [evO]
 cases rx x s with
 | none => simp [w1_none, o1_none]
 | some p => obtain ⟨a, s1⟩ := p; simp only [o1_some]; rw [w1_o1]
theorem w_lda (n : Nat) (x : X) : @W1 (evO OO m (.lda n x) s d) ⟨Q⟩ trivial ↔ @O1 _ (rx x s) ⟨fun p => @O1 _ (ldp p.2 false n (auM p.2 p.1) p.1) ⟨fun r => Q r.1 r.2.1 r.2.2⟩ trivial⟩ trivial := by
 simp only [evO]
 cases rx x s with
 | none => simp [w1_none, o1_none]
 | some p => obtain ⟨a, s1⟩ := p; simp only [o1_some]; rw [w1_o1]
theorem w_st (n : Nat) (x y : X) : @W1 (evO OO m (.st n x y) s d) ⟨Q⟩ trivial ↔ @O1 _ (rx x s) ⟨fun p => @O1 _ (rxv y p.2) ⟨fun q => stb q.1 = true ∧ @O1 _ (stp q.2 n p.1 q.1) ⟨fun r => Q (.v .u) r.1 r.2⟩ trivial⟩ trivial⟩ trivial := by
 simp only [evO]
 cases rx x s with
 | none => simp [w1_none, o1_none]
 | some p =>
  obtain ⟨a, s1⟩ := p
  simp only [o1_some]
  cases h2 : rxv y s1 with
  | none => simp [w1_none, o1_none, h2]
  | some q =>
   obtain ⟨b, s2⟩ := q
   simp only [o1_some, h2]
   by_cases hb : stb b = true
   ·rw [if_pos hb, w1_map]; simp [hb]
   ·rw [if_neg hb]; simp [w1_none, hb]
theorem w_pick (c a b : X) : @W1 (evO OO m (.pick c a b) s d) ⟨Q⟩ trivial ↔ @O1 _ (rxv c s) ⟨fun p => match p.1 with | .b t => if t = true then @O1 _ (rxv a p.2) ⟨fun q => Q (.v q.1) q.2 .no⟩ trivial else @O1 _ (rxv b p.2) ⟨fun q => Q (.v q.1) q.2 .no⟩ trivial | _ => False⟩ trivial := by
 simp only [evO]
 cases rxv c s with
 | none => simp [w1_none, o1_none]
 | some p =>
  obtain ⟨x, s1⟩ := p
  simp only [o1_some]
  cases x <;> simp only [w1_none]
  rename_i t
  cases t
  ·simp only [Bool.false_eq_true, if_false]; rw [w1_map]
  ·simp only [if_true]; rw [w1_map]
end
end Go.AM

namespace Go.AM
def BQ (t : Bool) [A : Pr] [B : Pr] (_ : True) : Prop := if t = true then A.p else B.p
theorem bq_i {t : Bool} {A B : Pr} (h : t = true → A.p) (k : t = false → B.p) : @BQ t A B trivial := by
 cases t
 ·exact k rfl
 ·exact h rfl
theorem bq_true (A B) : @BQ true ⟨A⟩ ⟨B⟩ trivial ↔ A := by simp [BQ]
theorem bq_false (A B) : @BQ false ⟨A⟩ ⟨B⟩ trivial ↔ B := by simp [BQ]
theorem cd_t (t A B) : @CdQ (some (.v (.b t))) ⟨A⟩ ⟨B⟩ trivial ↔ @BQ t ⟨A⟩ ⟨B⟩ trivial := Iff.rfl
theorem cd_u (A B) : @CdQ (some (.v .u)) ⟨A⟩ ⟨B⟩ trivial ↔ False := Iff.rfl
theorem gd_t (t A B) : @GdQ (some (.v (.b t))) true ⟨A⟩ ⟨B⟩ trivial ↔ @BQ t ⟨A⟩ ⟨B⟩ trivial := Iff.rfl
theorem gd_f (t A B) : @GdQ (some (.v (.b t))) false ⟨A⟩ ⟨B⟩ trivial ↔ @BQ t ⟨B⟩ ⟨A⟩ trivial := by cases t <;> simp [GdQ, BQ]
section
variable (OO : Or) (m : TypeId → String → Option FuncId) (s : St) (d : Option Nat) (Q : R → St → Ac → Prop)
theorem w_al (z : List D) (k : Nat) : @W1 (evO OO m (.al z) s (some k)) ⟨Q⟩ trivial ↔ Q (.q (.ptr k 0)) { s with ob := (k, z) :: s.ob, fr := forget (AM.Q.ofk k) s.fr } (.wk k) := by simp only [evO]; rw [w1_some]
theorem w_ag (z : List D) : @W1 (evO OO m (.ag z) s d) ⟨Q⟩ trivial ↔ Q (.v (.p s.sg.length 0)) { s with sg := s.sg ++ [z] } .ag := by simp only [evO]; rw [w1_some]
theorem w_bx (x : X) (k : Nat) : @W1 (evO OO m (.bx x) s (some k)) ⟨Q⟩ trivial ↔ @O1 _ (rxv x s) ⟨fun p => stb p.1 = true ∧ Q (.q (.ptr k 0)) { p.2 with ob := (k, p.1.cells) :: p.2.ob, fr := forget (AM.Q.ofk k) p.2.fr } (.wk k)⟩ trivial := by
 simp only [evO]
 cases rxv x s with
 | none => simp [w1_none, o1_none]
 | some p =>
  obtain ⟨a, s1⟩ := p
  simp only [o1_some]
  by_cases h : stb a = true
  ·rw [if_pos h, w1_some]; simp [h]
  ·rw [if_neg h, w1_none]; simp [h]
theorem w_bg (x : X) : @W1 (evO OO m (.bg x) s d) ⟨Q⟩ trivial ↔ @O1 _ (rxv x s) ⟨fun p => stb p.1 = true ∧ Q (.v (.p p.2.sg.length 0)) { p.2 with sg := p.2.sg ++ [p.1.cells] } .ag⟩ trivial := by
 simp only [evO]
 cases rxv x s with
 | none => simp [w1_none, o1_none]
 | some p =>
  obtain ⟨a, s1⟩ := p
  simp only [o1_some]
  by_cases h : stb a = true
  ·rw [if_pos h, w1_some]; simp [h]
  ·rw [if_neg h, w1_none]; simp [h]
theorem w_bd (z : List D) (ps : List (Nat × Nat × X)) : @W1 (evO OO m (.bd z ps) s d) ⟨Q⟩ trivial ↔ @O1 _ (rxs (ps.map (·.2.2)) s) ⟨fun p => stbs p.1 = true ∧ @O1 _ (fillc z ((ps.zip p.1).map fun (a, d) => (a.1, a.2.1, d))) ⟨fun cs => Q (.v (.a cs)) p.2 .no⟩ trivial⟩ trivial := by
 simp only [evO]
 cases rxs (ps.map (·.2.2)) s with
 | none => simp [w1_none, o1_none]
 | some p =>
  obtain ⟨a, s1⟩ := p
  simp only [o1_some]
  by_cases h : stbs a = true
  ·rw [if_pos h, w1_map]; simp [h]
  ·rw [if_neg h, w1_none]; simp [h]
theorem w_bs (sz n : Nat) (z : D) (ps : List (Nat × X)) : @W1 (evO OO m (.bs sz n z ps) s d) ⟨Q⟩ trivial ↔ @O1 _ (rxs (ps.map (·.2)) s) ⟨fun p => stbs p.1 = true ∧ @O1 _ (fille (List.replicate n z) sz ((ps.zip p.1).map fun (a, d) => (a.1, d))) ⟨fun xs => Q (.v (.l .x sz xs)) p.2 .no⟩ trivial⟩ trivial := by
 simp only [evO]
 cases rxs (ps.map (·.2)) s with
 | none => simp [w1_none, o1_none]
 | some p =>
  obtain ⟨a, s1⟩ := p
  simp only [o1_some]
  by_cases h : stbs a = true
  ·rw [if_pos h, w1_map]; simp [h]
  ·rw [if_neg h, w1_none]; simp [h]
theorem w_nc (x : X) : @W1 (evO OO m (.nc x) s d) ⟨Q⟩ trivial ↔ @O1 _ (rx x s) ⟨fun p => match p.1 with
    | .v (.p g o) => Q (.v (.p g o)) p.2 .no
    | .v (.q cs o) => Q (.v (.q cs o)) p.2 .no
    | .v (.ic t d) => Q (.v (.ic t d)) p.2 .no
    | .v (.bm nm d) => bmOK m nm d = true ∧ Q (.v (.bm nm d)) p.2 .no
    | .q (.ptr k o) => Q (.q (.ptr k o)) p.2 (.rl k 0 0)
    | .q (.el pl i o) => Q (.q (.el pl i o)) p.2 (AM.Q.ac (.el pl i o))
    | _ => False⟩ trivial := by
 simp only [evO]
 cases rx x s with
 | none => simp [w1_none, o1_none]
 | some p =>
  obtain ⟨a, s1⟩ := p
  simp only [o1_some]
  cases a with
  | v a => cases a <;> simp only [w1_none, w1_some] <;> (rename_i nm a; cases hb : bmOK m nm a <;> simp [w1_none, w1_some])
  | q a => cases a <;> simp only [w1_none, w1_some, AM.Q.ac]
theorem w_fa (off : Nat) (x : X) : @W1 (evO OO m (.fa off x) s d) ⟨Q⟩ trivial ↔ @O1 _ (rx x s) ⟨fun p => @O1 _ (fav off p.1) ⟨fun r => Q r p.2 r.ac⟩ trivial⟩ trivial := by
 simp only [evO]
 cases rx x s with
 | none => simp [w1_none, o1_none]
 | some p => obtain ⟨a, s1⟩ := p; simp only [o1_some]; rw [w1_map]
theorem w_fd (agg : Bool) (off n : Nat) (x : X) : @W1 (evO OO m (.fd agg off n x) s d) ⟨Q⟩ trivial ↔ @O1 _ (rxv x s) ⟨fun p => match p.1 with | .a cs => @O1 _ (sub cs off n) ⟨fun ds => @O1 _ (ofc agg ds) ⟨fun r => Q (.v r) p.2 .no⟩ trivial⟩ trivial | _ => False⟩ trivial := by
 simp only [evO]
 cases rxv x s with
 | none => simp [w1_none, o1_none]
 | some p =>
  obtain ⟨a, s1⟩ := p
  simp only [o1_some]
  cases a <;> simp only [w1_none]
  rename_i cs
  cases sub cs off n with
  | none => simp [w1_none, o1_none]
  | some ds => simp only [o1_some]; rw [w1_map]
theorem w_mi (t : TypeId) (x : X) : @W1 (evO OO m (.mi t x) s d) ⟨Q⟩ trivial ↔ @O1 _ (rxv x s) ⟨fun p => @O1 _ p.1.cp ⟨fun r => Q (.v (.ic t r)) p.2 .no⟩ trivial⟩ trivial := by
 simp only [evO]
 cases rxv x s with
 | none => simp [w1_none, o1_none]
 | some p => obtain ⟨a, s1⟩ := p; simp only [o1_some]; rw [w1_map]
theorem w_mm (nm : String) (x : X) : @W1 (evO OO m (.mm nm x) s d) ⟨Q⟩ trivial ↔ @O1 _ (rxv x s) ⟨fun p => @O1 _ p.1.cp ⟨fun r => Q (.v (.bm nm r)) p.2 .no⟩ trivial⟩ trivial := by
 simp only [evO]
 cases rxv x s with
 | none => simp [w1_none, o1_none]
 | some p => obtain ⟨a, s1⟩ := p; simp only [o1_some]; rw [w1_map]
theorem w_mf (f : FuncId) (xs : List X) : @W1 (evO OO m (.mf f xs) s d) ⟨Q⟩ trivial ↔ @O1 _ (rxs xs s) ⟨fun p => @O1 _ (D.cps p.1) ⟨fun r => Q (.v (.fn f r)) p.2 .no⟩ trivial⟩ trivial := by
 simp only [evO]
 cases rxs xs s with
 | none => simp [w1_none, o1_none]
 | some p => obtain ⟨a, s1⟩ := p; simp only [o1_some]; rw [w1_map]
theorem w_callp (f : FuncId) (xs : List X) : @W1 (evO OO m (.callp f xs) s d) ⟨Q⟩ trivial ↔ @O1 _ (rxs xs s) ⟨fun p => @O1 _ (callpv OO f p.1) ⟨fun r => Q (.v r) p.2 .no⟩ trivial⟩ trivial := by
 simp only [evO]
 cases rxs xs s with
 | none => simp [w1_none, o1_none]
 | some p => obtain ⟨a, s1⟩ := p; simp only [o1_some]; rw [w1_map]
theorem w_callr (f : FuncId) (xs : List X) (x : X) : @W1 (evO OO m (.callr f xs x) s d) ⟨Q⟩ trivial ↔ @O1 _ (rxv x s) ⟨fun q => match q.1 with
    | .p r _ => @O1 _ (rxs xs q.2) ⟨fun p => @O1 _ (callrv OO f p.1 r p.2.sg) ⟨fun v => Q (.v v) { p.2 with fr := forget (AM.Q.glx r) p.2.fr } (.clx r)⟩ trivial⟩ trivial
    | _ => False⟩ trivial := by
 simp only [evO]
 cases rxv x s with
 | none => simp [w1_none, o1_none]
 | some q =>
  obtain ⟨a, s1⟩ := q
  simp only [o1_some]
  cases a <;> simp only [w1_none]
  cases rxs xs s1 with
  | none => simp [w1_none, o1_none]
  | some p => obtain ⟨a, s1⟩ := p; simp only [o1_some]; rw [w1_map]
theorem w_eqa (neg : Bool) (cs : List Ec) (x y : X) : @W1 (evO OO m (.eqa neg cs x y) s d) ⟨Q⟩ trivial ↔ @O1 _ (rxv x s) ⟨fun p => @O1 _ (rxv y p.2) ⟨fun q => match p.1, q.1 with | .a ds, .a es => @O1 _ (eqs cs ds es) ⟨fun t => Q (.v (.b (if neg then !t else t))) q.2 .no⟩ trivial | _, _ => False⟩ trivial⟩ trivial := by
 simp only [evO]
 cases rxv x s with
 | none => simp [w1_none, o1_none]
 | some p =>
  obtain ⟨a, s1⟩ := p
  simp only [o1_some]
  cases h2 : rxv y s1 with
  | none => cases a <;> simp [w1_none, o1_none, h2]
  | some q =>
   obtain ⟨b, s2⟩ := q
   simp only [o1_some]
   cases a <;> simp only [h2, w1_none]
   cases b <;> simp only [w1_none]
   rw [w1_map]
theorem w_bits (x : X) : @W1 (evO OO m (.bits x) s d) ⟨Q⟩ trivial ↔ @O1 _ (rxv x s) ⟨fun p => match p.1 with | .f .f64 n => Q (.v (.i .u64 n)) p.2 .no | _ => False⟩ trivial := by
 simp only [evO]
 cases rxv x s with
 | none => simp [w1_none, o1_none]
 | some p =>
  obtain ⟨a, s1⟩ := p
  simp only [o1_some]
  cases a <;> (try simp only [w1_none])
  rename_i k n; cases k <;> simp only [w1_none, w1_some]
theorem w_frbits (x : X) : @W1 (evO OO m (.frbits x) s d) ⟨Q⟩ trivial ↔ @O1 _ (rxv x s) ⟨fun p => match p.1 with | .i .u64 n => 0 ≤ n ∧ Q (.v (.f .f64 n.toNat)) p.2 .no | _ => False⟩ trivial := by
 simp only [evO]
 cases rxv x s with
 | none => simp [w1_none, o1_none]
 | some p =>
  obtain ⟨a, s1⟩ := p
  simp only [o1_some]
  cases a <;> (try simp only [w1_none])
  rename_i k n; cases k <;> (try simp only [w1_none])
  by_cases h : 0 ≤ n
  ·rw [if_pos h, w1_some]; simp [h]
  ·rw [if_neg h, w1_none]; simp [h]
theorem w_ta (t : TypeId) (x : X) : @W1 (evO OO m (.ta t x) s d) ⟨Q⟩ trivial ↔ @O1 _ (rxv x s) ⟨fun p => match p.1 with | .ic t' e => t = t' ∧ Q (.v e) p.2 .no | _ => False⟩ trivial := by
 simp only [evO]
 cases rxv x s with
 | none => simp [w1_none, o1_none]
 | some p =>
  obtain ⟨a, s1⟩ := p
  simp only [o1_some]
  cases a <;> (try simp only [w1_none])
  rename_i t' e
  by_cases h : t = t'
  ·rw [if_pos h, w1_some]; simp [h]
  ·rw [if_neg h, w1_none]; simp [h]
theorem w_mkm : @W1 (evO OO m .mkm s d) ⟨Q⟩ trivial ↔ Q (.v (.mo s.sg.length)) { s with sg := s.sg ++ [[.u]] } .ag := by
 simp only [evO]
 rw [w1_some]
theorem w1_mlkv (ok str : Bool) (z : D) (r : Nat) (k : D) : @W1 (mlkv ok str z (.mo r) k s) ⟨Q⟩ trivial ↔ ∃ es, s.sg[r]? = some (.u :: es) ∧ @O1 _ (mfind str k es) ⟨fun v => Q (.v (if ok then .t [v.getD z, .b v.isSome] else v.getD z)) s (.reg r)⟩ trivial := by
 unfold mlkv
 simp only
 split
 ·rename_i es he
  rw [w1_map]
  constructor
  ·intro h; exact ⟨es, he, h⟩
  ·rintro ⟨es', he', h⟩
   rw [he] at he'; cases he'; exact h
 ·rename_i hn
  rw [w1_none]
  constructor
  ·exact False.elim
  ·rintro ⟨es', he', _⟩; exact hn es' he'
theorem w1_mupv (str : Bool) (r : Nat) (k v : D) : @W1 (mupv str (.mo r) k v s) ⟨Q⟩ trivial ↔ @O1 _ k.cp ⟨fun k => @O1 _ v.cp ⟨fun v => ∃ es, s.sg[r]? = some (.u :: es) ∧ @O1 _ (mset str k v es) ⟨fun es => Q (.v .u) { s with sg := s.sg.set r (.u :: es), lo := if D.nr 0 v then s.lo else min s.lo r } .ag⟩ trivial⟩ trivial⟩ trivial := by
 unfold mupv
 simp only
 cases hk : k.cp with
 | none => simp only [o1_none, w1_none]
 | some k' =>
  cases hv : v.cp with
  | none => simp only [o1_some, o1_none, w1_none]
  | some v' =>
   simp only [o1_some]
   split
   ·rename_i es he
    rw [w1_map]
    constructor
    ·intro h; exact ⟨es, he, h⟩
    ·rintro ⟨es', he', h⟩
     rw [he] at he'; cases he'; exact h
   ·rename_i hn
    rw [w1_none]
    constructor
    ·exact False.elim
    ·rintro ⟨es', he', _⟩; exact hn es' he'
theorem w1_mlnv (r : Nat) : @W1 (mlnv (.mo r) s) ⟨Q⟩ trivial ↔ ∃ es, s.sg[r]? = some (.u :: es) ∧ Q (.v (.i .i64 (es.length / 2 : Nat))) s (.reg r) := by
 unfold mlnv
 simp only
 split
 ·rename_i es he
  rw [w1_some]
  constructor
  ·intro h; exact ⟨es, he, h⟩
  ·rintro ⟨es', he', h⟩
   rw [he] at he'; cases he'; exact h
 ·rename_i hn
  rw [w1_none]
  constructor
  ·exact False.elim
  ·rintro ⟨es', he', _⟩; exact hn es' he'
theorem w_mlk (ok str : Bool) (z : D) (x y : X) : @W1 (evO OO m (.mlk ok str z x y) s d) ⟨Q⟩ trivial ↔ @O1 _ (rxv x s) ⟨fun p => @O1 _ (rxv y p.2) ⟨fun q => @W1 (mlkv ok str z p.1 q.1 q.2) ⟨Q⟩ trivial⟩ trivial⟩ trivial := by
 simp only [evO]
 cases rxv x s with
 | none => simp [w1_none, o1_none]
 | some p =>
  obtain ⟨a, s1⟩ := p
  simp only [o1_some]
  cases rxv y s1 with
  | none => simp [w1_none, o1_none]
  | some q => obtain ⟨k, s2⟩ := q; simp only [o1_some]
theorem w_mup (str : Bool) (x y v : X) : @W1 (evO OO m (.mup str x y v) s d) ⟨Q⟩ trivial ↔ @O1 _ (rxv x s) ⟨fun p => @O1 _ (rxv y p.2) ⟨fun q => @O1 _ (rxv v q.2) ⟨fun r => @W1 (mupv str p.1 q.1 r.1 r.2) ⟨Q⟩ trivial⟩ trivial⟩ trivial⟩ trivial := by
 simp only [evO]
 cases rxv x s with
 | none => simp [w1_none, o1_none]
 | some p =>
  obtain ⟨a, s1⟩ := p
  simp only [o1_some]
  cases rxv y s1 with
  | none => simp [w1_none, o1_none]
  | some q =>
   obtain ⟨k, s2⟩ := q
   simp only [o1_some]
   cases rxv v s2 with
   | none => simp [w1_none, o1_none]
   | some q => obtain ⟨k, s2⟩ := q; simp only [o1_some]
theorem w_mln (x : X) : @W1 (evO OO m (.mln x) s d) ⟨Q⟩ trivial ↔ @O1 _ (rxv x s) ⟨fun p => @W1 (mlnv p.1 p.2) ⟨Q⟩ trivial⟩ trivial := by
 simp only [evO]
 cases rxv x s with
 | none => simp [w1_none, o1_none]
 | some p => obtain ⟨a, s1⟩ := p; simp only [o1_some]
theorem w_inv (nm : String) (x : X) (xs : List X) : @W1 (evO OO m (.inv nm x xs) s d) ⟨Q⟩ trivial ↔ @O1 _ (rxv x s) ⟨fun q => match q.1 with
    | .ic t v => @O1 _ (m t nm) ⟨fun f => @O1 _ (rxs xs q.2) ⟨fun p => @O1 _ (OO.call f (v :: p.1) p.2.sg p.2.sg.length) ⟨fun r => Q (.v r.1) { p.2 with sg := r.2.1, lo := min p.2.lo r.2.2, fr := forget AM.Q.gl p.2.fr } (.cl (D.beqs (r.2.1.map .t) (p.2.sg.map .t) && decide (p.2.lo ≤ r.2.2)))⟩ trivial⟩ trivial⟩ trivial
    | _ => False⟩ trivial := by
 simp only [evO]
 cases rxv x s with
 | none => simp [w1_none, o1_none]
 | some q =>
  obtain ⟨a, s1⟩ := q
  simp only [o1_some]
  cases a <;> (try simp only [w1_none])
  rename_i t v
  cases m t nm with
  | none => simp [w1_none, o1_none]
  | some f =>
   simp only [o1_some]
   cases rxs xs s1 with
   | none => simp [w1_none, o1_none]
   | some p =>
    obtain ⟨ds, s1⟩ := p
    simp only [o1_some]
    rw [w1_map]
end
theorem w_srt (OO : Or) (m : TypeId → String → Option FuncId) (s : St) (d : Option Nat) (Q : R → St → Ac → Prop) (f g : FuncId) (x : X) : @W1 (evO OO m (.srt f g x) s d) ⟨Q⟩ trivial ↔ @O1 _ (rx x s) ⟨fun p => @O1 _ (hpl p.1) ⟨fun q => @AtQ (p.2.at q.1) ⟨fun a => @O1 _ (OO.srt f g a.1 a.2) ⟨fun ys => ys.length = a.2.length ∧ Q (.v (.t [])) { p.2.setAt q.1 (.l .x a.1 ys) with lo := p.2.loAt (.l .z a.1 ys) q.1 } q.1.we⟩ trivial⟩ trivial⟩ trivial⟩ trivial := by
 constructor
 ·rintro ⟨r, t, ac, he, hq⟩
  simp only [evO] at he
  split at he
  ·rename_i r1 s1 h1
   split at he
   ·rename_i pl ac2 h2
    split at he
    ·rename_i sz xs h3
     split at he
     ·rename_i ys h4
      split at he
      ·rename_i h5
       cases he
       exact ⟨_, h1, _, h2, sz, xs, h3, ys, h4, h5, hq⟩
      ·cases he
     ·cases he
    ·cases he
   ·cases he
  ·cases he
 ·rintro ⟨⟨r1, s1⟩, h1, ⟨pl, ac2⟩, h2, sz, xs, h3, ys, h4, h5, hq⟩
  refine ⟨_, _, _, ?_, hq⟩
  simp only at h2 h3 h4 h5 ⊢
  simp only [evO, h1, h2, h3, h4, if_pos h5]
theorem hpl_hdr0 (k : Nat) : hpl (.q (.hdr k)) = some (.ob k 0, .rb k) := rfl
theorem hpl_hd0 (pl : Pl) : hpl (.q (.hd pl)) = some (pl, (AM.Q.hd pl).ac) := rfl
theorem w_pickb (OO : Or) (m : TypeId → String → Option FuncId) (s : St) (d : Option Nat) (Q : R → St → Ac → Prop) (c a b : X) : @W1 (evO OO m (.pick c a b) s d) ⟨Q⟩ trivial ↔ @O1 _ (rxv c s) ⟨fun p => match p.1 with | .b t => @BQ t ⟨@O1 _ (rxv a p.2) ⟨fun q => Q (.v q.1) q.2 .no⟩ trivial⟩ ⟨@O1 _ (rxv b p.2) ⟨fun q => Q (.v q.1) q.2 .no⟩ trivial⟩ trivial | _ => False⟩ trivial := w_pick OO m s d Q c a b
theorem fn_r (res n x s) : FnQ res n x (.r s) ↔ @O1 _ (resv res s) ⟨fun p => (if D.nr n (tup p.1) = true ∧ n ≤ p.2.lo then (tup p.1, p.2.sg.take n, p.2.lo) else (tup p.1, p.2.sg, p.2.lo)) = x⟩ trivial := by
 unfold FnQ fin
 simp only
 cases resv res s with
 | none => simp [O1]
 | some p =>
  obtain ⟨ds, s1⟩ := p
  simp only [O1, Option.some.injEq, exists_eq_left', Bool.and_eq_true, decide_eq_true_eq]
  split <;> simp
theorem fn_n (res n x s) : FnQ res n x (.n s) ↔ @O1 _ (resv res s) ⟨fun p => (if D.nr n (tup p.1) = true ∧ n ≤ p.2.lo then (tup p.1, p.2.sg.take n, p.2.lo) else (tup p.1, p.2.sg, p.2.lo)) = x⟩ trivial := fn_r res n x s
attribute [simp ↓] wc_skip wc_ret wc_exit wc_seq wc_blk wc_cond wc_reg wc_regd wg_nil wg_cons wo_nil wo_cons wo_guard wd_nil wd_cons wd_guard w_mv w_bin w_eq w_un w_cv w_ia w_sl w_ss w_ixs w_ixa w_app w_apps w_ms w_call w_callp w_callr w_callv w_ex w_len w_mx w_ld w_lda w_st w_pickb w_al w_ag w_bx w_bg w_bd w_bs w_nc w_fa w_fd w_mi w_mm w_mf w_eqa w_bits w_frbits w_ta w_inv w_srt w_mkm w_mlk w_mup w_mln w1_mlkv w1_mupv w1_mlnv
attribute [simp] w1_some w1_none cd_t gd_t gd_f gd_u cd_u bq_true bq_false sq_n sq_x sq_r bk_n bk_x bk_r o1_some o1_none o1_map o1_if_none o1_if o1_ite o1_iav_l bd_none bd_some o1_ssv o1_slv2 o1_slv3 rxo_none rxo_some o1_app_x o1_app_o o1_app_n at_some o1_iav_hd' o1_iav_hdr'
attribute [simp] hpl_hdr0 hpl_hd0 fzR look drp keep forget rx rxv rxs St.put evG D.cp D.cps binv bini unv cvv resv tup fn_r fn_n AM.Q.dead AM.Q.gl AM.Q.glx AM.Q.bor AM.Q.ofk ini mxv R.fo D.fo D.fos R.fz D.fz D.fzs D.zz D.zzs okA Ac.ok R.ac AM.Q.ac R.acE Pl.rb Pl.re Pl.we stb stbs D.cells fillc fille ovr sub ofc fav ldp auM stp St.at St.setAt St.loAt lenv elems slk beqs_self D.nr D.nrs eq1 eqs rec_
end Go.AM

namespace Go.AM
end Go.AM

namespace Go.AM
def canon (b : Nat) : Nat := if b % 9223372036854775808 > 9218868437227405312 then 9221120237041090560 else b
def keyC (b : Nat) : Nat := if 9223372036854775808 ≤ b then 18446744073709551615 - b else b + 9223372036854775808
def key (b : Nat) : Nat := keyC (canon b)
def cmpN (a b : Nat) : Int := if a < b then -1 else if a > b then 1 else 0
end Go.AM

namespace Go.AM
class Flat {α : Type} (e : α → D) : Prop where
 fz : ∀ x, D.fz (e x) = e x
 zz : ∀ x, D.zz (e x) = e x
 nr : ∀ n x, D.nr n (e x) = true
theorem fzs_flat {α : Type} (e : α → D) [h : Flat e] : ∀ l : List α, D.fzs (l.map e) = l.map e
 | [] => rfl
 | x :: l => by simp only [List.map_cons, D.fzs, h.fz, fzs_flat e l]
theorem zzs_flat {α : Type} (e : α → D) [h : Flat e] : ∀ l : List α, D.zzs (l.map e) = l.map e
 | [] => rfl
 | x :: l => by simp only [List.map_cons, D.zzs, h.zz, zzs_flat e l]
theorem nrs_flat {α : Type} (e : α → D) [h : Flat e] (n : Nat) : ∀ l : List α, D.nrs n (l.map e) = true
 | [] => rfl
 | x :: l => by simp only [List.map_cons, D.nrs, h.nr, nrs_flat e n l, Bool.and_self]
attribute [simp] fzs_flat zzs_flat nrs_flat
theorem fzs_app : ∀ xs ys : List D, D.fzs (xs ++ ys) = D.fzs xs ++ D.fzs ys
 | [], ys => rfl
 | x :: xs, ys => by simp [D.fzs, fzs_app xs ys]
theorem zzs_app : ∀ xs ys : List D, D.zzs (xs ++ ys) = D.zzs xs ++ D.zzs ys
 | [], ys => rfl
 | x :: xs, ys => by simp [D.zzs, zzs_app xs ys]
theorem nrs_app (n : Nat) : ∀ xs ys : List D, D.nrs n (xs ++ ys) = (D.nrs n xs && D.nrs n ys)
 | [], ys => by simp [D.nrs]
 | x :: xs, ys => by simp [D.nrs, nrs_app n xs ys, Bool.and_assoc]
theorem fzs_take : ∀ (n : Nat) (xs : List D), D.fzs (xs.take n) = (D.fzs xs).take n
 | 0, _ => rfl
 | n + 1, [] => rfl
 | n + 1, x :: xs => by simp [D.fzs, fzs_take n xs]
theorem fzs_drop : ∀ (n : Nat) (xs : List D), D.fzs (xs.drop n) = (D.fzs xs).drop n
 | 0, _ => rfl
 | n + 1, [] => rfl
 | n + 1, x :: xs => by simp [D.fzs, fzs_drop n xs]
theorem zzs_take : ∀ (n : Nat) (xs : List D), D.zzs (xs.take n) = (D.zzs xs).take n
 | 0, _ => rfl
 | n + 1, [] => rfl
 | n + 1, x :: xs => by simp [D.zzs, zzs_take n xs]
theorem zzs_drop : ∀ (n : Nat) (xs : List D), D.zzs (xs.drop n) = (D.zzs xs).drop n
 | 0, _ => rfl
 | n + 1, [] => rfl
 | n + 1, x :: xs => by simp [D.zzs, zzs_drop n xs]
theorem fzs_set : ∀ (n : Nat) (d : D) (xs : List D), D.fzs (xs.set n d) = (D.fzs xs).set n d.fz
 | 0, d, [] => rfl
 | 0, d, x :: xs => rfl
 | n + 1, d, [] => rfl
 | n + 1, d, x :: xs => by simp [D.fzs, fzs_set n d xs]
theorem zzs_set : ∀ (n : Nat) (d : D) (xs : List D), D.zzs (xs.set n d) = (D.zzs xs).set n d.zz
 | 0, d, [] => rfl
 | 0, d, x :: xs => rfl
 | n + 1, d, [] => rfl
 | n + 1, d, x :: xs => by simp [D.zzs, zzs_set n d xs]
attribute [simp] fzs_set zzs_set
attribute [simp] fzs_app zzs_app nrs_app fzs_take fzs_drop zzs_take zzs_drop
instance (k : IntKind) : Flat (D.i k) := ⟨fun _ => rfl, fun _ => rfl, fun _ _ => rfl⟩
instance : Flat D.s := ⟨fun _ => rfl, fun _ => rfl, fun _ _ => rfl⟩
instance : Flat D.b := ⟨fun _ => rfl, fun _ => rfl, fun _ _ => rfl⟩
def eL {α : Type} (sz : Nat) (e : α → D) (l : List α) : D := .l .z sz (l.map e)
instance {α : Type} (sz : Nat) (e : α → D) [h : Flat e] : Flat (eL sz e) := ⟨fun _ => rfl, fun l => by simp [eL], fun n l => by simp [eL]⟩
structure It where
 p : Nat
 v : Int
 deriving DecidableEq, Inhabited
def It.ok (x : It) : Prop := x.p < 18446744073709551616 ∧ -9223372036854775808 ≤ x.v ∧ x.v ≤ 9223372036854775807
def It.canon (x : It) : It := ⟨AM.canon x.p, x.v⟩
def eI (x : It) : D := .a [.f .f64 x.p, .i .i64 x.v]
def eR (x : It) : D := .a [.i .u64 x.p, .i .i64 x.v]
instance : Flat eI := ⟨fun _ => rfl, fun _ => rfl, fun _ _ => rfl⟩
instance : Flat eR := ⟨fun _ => rfl, fun _ => rfl, fun _ _ => rfl⟩
attribute [simp] eI eR
def cmpV (a b : Int) : Int := if a < b then -1 else if a > b then 1 else 0
def cmpI (x y : It) : Int := if cmpN (key x.p) (key y.p) ≠ 0 then cmpN (key x.p) (key y.p) else cmpV x.v y.v
end Go.AM

namespace Go.AM
structure Cl where
 v : Nat
 n : Int
 l : List It
 deriving DecidableEq, Inhabited
structure Mem where
 cs : List Cl
 ck : Nat
def eC (c : Cl) : D := .a [.i .u64 c.v, .i .i64 c.n, .l .o 2 (c.l.map eI)]
def eMem (m : Mem) : List D := [.l .x 3 (m.cs.map eC), .i .u64 m.ck]
def zC : Cl := ⟨0, 0, []⟩
def rdM (m : Mem) (i : Int) : Cl := if 0 ≤ i then (m.cs[i.toNat]?).getD zC else zC
def Cl.ok (c : Cl) : Prop := c.l.length ≤ 1000000
def padM (cs : List Cl) (i : Nat) : List Cl := cs ++ List.replicate (i + 1 - cs.length) zC
def wrB (m : Mem) (i : Int) (ver : Nat) : Bool := decide (0 ≤ i ∧ i < 1000 ∧ (rdM m i).v = ver)
def putM (m : Mem) (i : Nat) (n : Int) (l : List It) : Mem := ⟨(padM m.cs i).set i ⟨m.ck + 1, n, l⟩, m.ck + 1⟩
def wrM (m : Mem) (i : Int) (ver : Nat) (n : Int) (l : List It) : Mem := if wrB m i ver then putM m i.toNat n l else m
end Go.AM

namespace Go.AM
def legal (k p : Int) : Int := if k < 1 ∨ k > 4 then 6 else if p < 1 ∨ p > 16 ∨ (k = 4 ∧ p ≠ 1 ∧ p ≠ 2 ∧ p ≠ 4 ∧ p ≠ 8 ∧ p ≠ 16) then 5 else 0
theorem pow2_16 (p : Int) (h1 : 1 ≤ p) (h2 : p ≤ 16) : bits .and .i64 p (IntKind.i64.wrap (p - 1)) = 0 ↔ (p = 1 ∨ p = 2 ∨ p = 4 ∨ p = 8 ∨ p = 16) := by
 have : p = 1 ∨ p = 2 ∨ p = 3 ∨ p = 4 ∨ p = 5 ∨ p = 6 ∨ p = 7 ∨ p = 8 ∨ p = 9 ∨ p = 10 ∨ p = 11 ∨ p = 12 ∨ p = 13 ∨ p = 14 ∨ p = 15 ∨ p = 16 := by omega
 rcases this with rfl | rfl | rfl | rfl | rfl | rfl | rfl | rfl | rfl | rfl | rfl | rfl | rfl | rfl | rfl | rfl <;> decide
theorem c_op_Legal (k p : Int) (sg) : LL.call n_op_Legal [.i .i64 k, .i .i64 p] sg sg.length = some (.i .i64 (legal k p), sg, sg.length) := by
 refine wp_call e_op_Legal rfl ?_
 simp [F_op_Legal]
 repeat' (refine bq_i (fun h => ?_) (fun h => ?_) <;> (have h' := h) <;> (try simp at h') <;> simp [h, h'])
 all_goals unfold legal
 ·rw [if_pos (by omega)]
 ·rw [if_pos (by omega)]
 ·rw [if_neg (by omega), if_pos (by omega)]
 ·rw [if_neg (by omega), if_pos (by omega)]
 ·rename_i a b c d e f g hh i j
  have := pow2_16 p (by omega) (by omega)
  rw [if_neg (by omega), if_pos]
  omega
 ·rename_i a b c d e f g hh i j
  have := pow2_16 p (by omega) (by omega)
  rw [if_neg (by omega), if_neg]
  omega
 ·rw [if_neg (by omega), if_neg (by omega)]
theorem c_ref06_Legal (k p : Int) (sg) : LL.call n_c_ref06_Legal [.i .i64 k, .i .i64 p] sg sg.length = some (.i .i64 (legal k p), sg, sg.length) := by
 refine wp_call e_c_ref06_Legal rfl ?_
 simp [F_c_ref06_Legal]
 repeat' (refine bq_i (fun h => ?_) (fun h => ?_) <;> (have h' := h) <;> (try simp at h') <;> simp [h, h'])
 all_goals unfold legal
 all_goals (repeat' split) <;> omega
def kindOf (k : Int) : Int := 1 + k % 4
def paramOf (k p : Int) : Int := if kindOf k = 4 then 2 ^ (p % 256 % 5).toNat else 1 + p % 16
end Go.AM

namespace Go.AM
def shapeOf (k p : Int) : Int × Int := if k = 1 then (p, 0) else if k = 2 then (1, 0) else if k = 3 then (0, p) else if k = 4 then (0, 1) else (0, 0)
end Go.AM

namespace Go.AM
def ordered : List It → Bool
 | x :: y :: r => decide (0 ≤ cmpI y x) && ordered (y :: r)
 | _ => true
def orderE (k : Int) (l : List It) : Int := if k = 1 then (if 62 < l.length then 3 else if ordered l then 0 else 14) else 0
structure Im where
 k : Int
 p : Int
 c : Int
 ls : List (List It)
 cs : List Int
def eIm (x : Im) : D := .a [.i .i64 x.k, .i .i64 x.p, .i .u64 x.c, .l .z 1 (x.ls.map (eL 2 eI)), .l .z 1 (x.cs.map (.i .i64))]
def eRm (x : Im) : D := .a [.i .i64 x.k, .i .i64 x.p, .i .u64 x.c, .l .z 1 (x.ls.map (eL 2 eR)), .l .z 1 (x.cs.map (.i .i64))]
def Im.ok (x : Im) : Prop := (∀ l ∈ x.ls, ∀ y ∈ l, y.ok) ∧ (∀ n ∈ x.cs, -9223372036854775808 ≤ n ∧ n ≤ 9223372036854775807) ∧ (x.ls.map List.length).sum ≤ 1099511627776
def ordersE (k : Int) : List (List It) → Int
 | [] => 0
 | l :: r => if orderE k l ≠ 0 then orderE k l else ordersE k r
def badN (n : Int) : Bool := n < 0 || n > 1125899906842624
def countsE (l : List Int) : Int := if l.any badN || l.sum > 1125899906842624 then 4 else 0
def checkI (x : Im) : Int :=
 if legal x.k x.p ≠ 0 then legal x.k x.p else
 if (x.ls.length : Int) ≠ (shapeOf x.k x.p).1 ∨ (x.cs.length : Int) ≠ (shapeOf x.k x.p).2 then 2 else
 if ordersE x.k x.ls ≠ 0 then ordersE x.k x.ls else
 if (x.ls.map List.length).sum > 1000 then 3 else countsE x.cs
theorem legal_k {k p : Int} (h : legal k p = 0) : 1 ≤ k ∧ k ≤ 4 := by
 unfold legal at h
 split at h
 ·cases h
 ·omega
end Go.AM

namespace Go.AM
def ltI (x y : It) : Prop := key x.p < key y.p ∨ (key x.p = key y.p ∧ x.v < y.v)
instance (x y : It) : Decidable (ltI x y) := by unfold ltI; infer_instance
def backN (x : It) (l : List It) : Nat → Nat
 | 0 => 0
 | n + 1 => match l[n]? with
  | some y => if ltI x y then backN x l n else n + 1
  | none => n + 1
def insI (x : It) (l : List It) : List It := l.take (backN x l l.length) ++ x :: l.drop (backN x l l.length)
def sortI (l : List It) : List It := l.foldl (fun o x => insI x o) []
end Go.AM

namespace Go.AM
def eLK {α : Type} (K : K) (sz : Nat) (e : α → D) (l : List α) : D := .l K sz (l.map e)
theorem zzs_eLK {α : Type} (K : K) (sz : Nat) (e : α → D) [Flat e] : ∀ l : List (List α), D.zzs (l.map (eLK K sz e)) = l.map (eL sz e)
 | [] => rfl
 | x :: l => by simp [D.zzs, zzs_eLK K sz e l, eLK, eL]
theorem fzs_eLK {α : Type} (K : K) (hK : K = .o ∨ K = .x) (sz : Nat) (e : α → D) [Flat e] : ∀ l : List (List α), D.fzs (l.map (eLK K sz e)) = l.map (eL sz e)
 | [] => rfl
 | x :: l => by
  have ih := fzs_eLK K hK sz e l
  rcases hK with rfl | rfl <;> simp only [List.map_cons, D.fzs, ih] <;> simp [eLK, eL]
theorem fzs_eLo {α : Type} (sz : Nat) (e : α → D) [Flat e] (l : List (List α)) : D.fzs (l.map (eLK .o sz e)) = l.map (eL sz e) := fzs_eLK _ (.inl rfl) sz e l
theorem fzs_eLx {α : Type} (sz : Nat) (e : α → D) [Flat e] (l : List (List α)) : D.fzs (l.map (eLK .x sz e)) = l.map (eL sz e) := fzs_eLK _ (.inr rfl) sz e l
attribute [simp] zzs_eLK fzs_eLo fzs_eLx eL eLK
def eImK (K1 K2 K3 : K) (x : Im) : D := .a [.i .i64 x.k, .i .i64 x.p, .i .u64 x.c, .l K1 1 (x.ls.map (eLK K2 2 eI)), .l K3 1 (x.cs.map (.i .i64))]
theorem zz_eImK (K1 K2 K3 : K) (x : Im) : D.zz (eImK K1 K2 K3 x) = eIm x := by simp [eImK, eIm]
attribute [simp] zz_eImK
structure Raw where
 k : Int
 p : Int
 c : Int
 is : List It
 cs : List Int
 sp : Int
def eRaw (x : Raw) : D := .a [.i .i64 x.k, .i .i64 x.p, .i .u64 x.c, .l .z 2 (x.is.map eR), .l .z 1 (x.cs.map (.i .i64)), .i .i64 x.sp]
def Raw.ok (x : Raw) : Prop := (∀ y ∈ x.is, y.ok) ∧ (0 ≤ x.c ∧ x.c < 18446744073709551616) ∧ (-9223372036854775808 ≤ x.sp ∧ x.sp ≤ 9223372036854775807)
def dealI (n : Nat) : List (List It) → Nat → List It → List (List It)
 | a, _, [] => a
 | a, i, x :: r => dealI n (a.set (i % n) ((a[i % n]?).getD [] ++ [x.canon])) (i + 1) r
def makeCs (m : Nat) (cs : List Int) : List Int := (List.range m).map fun i => match cs[i]? with
 | some n => n % 1099511627776
 | none => 0
def makeI (x : Raw) : Im :=
 let k := kindOf x.k
 let p := paramOf x.k x.p
 let n := (shapeOf k p).1.toNat
 let ls := dealI n (List.replicate n []) 0 (if n = 0 then [] else x.is.take 60)
 ⟨k, p, x.c, if k = 1 then ls.map sortI else ls, makeCs (shapeOf k p).2.toNat x.cs⟩
end Go.AM

namespace Go.AM
def eRmK (K1 K2 K3 : K) (x : Im) : D := .a [.i .i64 x.k, .i .i64 x.p, .i .u64 x.c, .l K1 1 (x.ls.map (eLK K2 2 eR)), .l K3 1 (x.cs.map (.i .i64))]
theorem zz_eRmK (K1 K2 K3 : K) (x : Im) : D.zz (eRmK K1 K2 K3 x) = eRm x := by simp [eRmK, eRm]
attribute [simp] zz_eRmK
def toldI (x : Im) : Im := { x with ls := x.ls.map (·.map It.canon) }
def Im.small (x : Im) : Prop := x.ls.length ≤ 1099511627776 ∧ x.cs.length ≤ 1099511627776 ∧ ∀ l ∈ x.ls, l.length ≤ 1099511627776
end Go.AM

namespace Go.AM
end Go.AM

namespace Go.AM
instance : DecidableEq Im := fun x y => decidable_of_iff (x.k = y.k ∧ x.p = y.p ∧ x.c = y.c ∧ x.ls = y.ls ∧ x.cs = y.cs) (by cases x; cases y; simp)
end Go.AM

namespace Go.AM
end Go.AM

namespace Go.AM
structure Pt where
 at_ : Int
 n : Int
 l : List It
def ePt (p : Pt) : D := .a [.i .i64 p.at_, .i .i64 p.n, .l .z 2 (p.l.map eR)]
instance : Flat ePt := ⟨fun _ => rfl, fun p => by simp [ePt], fun n p => by simp [ePt]⟩
def Pt.ok (p : Pt) : Prop := 0 ≤ p.at_ ∧ p.at_ < 1000 ∧ p.l.length ≤ 1000000
def rdP : List Pt → Nat → Int → Cl → Cl
 | [], _, _, c => c
 | p :: ps, k, i, c => rdP ps (k + 1) i (if p.at_ = i then ⟨k + 1, p.n, p.l⟩ else c)
def memOf (ps : List Pt) : Mem := ps.foldl (fun m p => putM m p.at_.toNat p.n p.l) ⟨[], 0⟩
def lenP (ps : List Pt) : Int := ps.foldl (fun n p => max n (p.at_ + 1)) 0
end Go.AM

namespace Go.AM
def evL : List Nat → List Nat
 | x :: _ :: r => x :: evL r
 | l => l
def odL : List Nat → List Nat
 | _ :: y :: r => y :: odL r
 | _ => []
def mixL : List Nat → List Nat → List Nat
 | x :: xs, y :: ys => x :: y :: mixL xs ys
 | _, _ => []
def mergeG : Nat → List Nat → List Nat → List (Nat × Nat) × List Nat
 | 0, x, y => ([(x.headD 0, y.headD 0)], [x.headD 0, y.headD 0])
 | k + 1, x, y => ((mergeG k (evL x) (odL y)).1 ++ (mergeG k (odL x) (evL y)).1 ++ (mergeG k (evL x) (odL y)).2.zip (mergeG k (odL x) (evL y)).2,
     mixL (mergeG k (evL x) (odL y)).2 (mergeG k (odL x) (evL y)).2)
def countG : Nat → Nat → List (Nat × Nat) × List Nat
 | 0, a => ([], [a])
 | k + 1, a => ((countG k a).1 ++ (countG k (a + 2 ^ k)).1 ++ (mergeG k (countG k a).2 (countG k (a + 2 ^ k)).2).1, (mergeG k (countG k a).2 (countG k (a + 2 ^ k)).2).2)
def lgP (p : Nat) : Nat := if p = 1 then 0 else if p = 2 then 1 else if p = 4 then 2 else if p = 8 then 3 else 4
def gatesN (p : Nat) : List (Nat × Nat) := (countG (lgP p) 0).1
def outsN (p : Nat) : List Nat := (countG (lgP p) 0).2
def eG (g : Nat × Nat) : D := .a [.i .i64 g.1, .i .i64 g.2]
def eN (n : Nat) : D := .i .i64 n
instance : Flat eG := ⟨fun _ => rfl, fun p => by simp [eG], fun n p => by simp [eG]⟩
instance : Flat eN := ⟨fun _ => rfl, fun p => by simp [eN], fun n p => by simp [eN]⟩
def pairsN (p : Nat) : List Nat := (gatesN p).flatMap fun g => [g.1, g.2]
def widthN (p : Nat) : Prop := p = 1 ∨ p = 2 ∨ p = 4 ∨ p = 8 ∨ p = 16
def ePlan (K : AM.K) (p : Nat) : D := .a [.i .i64 p, .l K 2 ((gatesN p).map eG), .l K 1 ((outsN p).map eN)]
def eNetR (K K2 : AM.K) (p : Nat) : D := .a [.l K 1 ((pairsN p).map eN), .l K2 1 ((outsN p).map eN)]
def kW (p : Nat) : AM.K := if p = 1 then .o else .z
end Go.AM

namespace Go.AM
def hp (h : List It) : List D := [.l .x 2 (h.map eI)]
def swp (h : List It) (i j : Nat) : List It := (h.set i h[j]!).set j h[i]!
theorem m_Len : EE.meth t_pile_items_u "Len" = some n_pile_items_Len_q := by kernel_rfl
theorem m_Less : EE.meth t_pile_items_u "Less" = some n_pile_items_Less_q := by kernel_rfl
theorem m_Swap : EE.meth t_pile_items_u "Swap" = some n_pile_items_Swap_q := by kernel_rfl
theorem m_Pop : EE.meth t_pile_items_u "Pop" = some n_pile_items_Pop := by kernel_rfl
attribute [simp] m_Len m_Less m_Swap m_Pop
def dn (h : List It) (i n : Nat) : List It × Nat :=
 if hlt : 2 * i + 1 < n then
  if 2 * i + 2 < n ∧ cmpI h[2 * i + 2]! h[2 * i + 1]! < 0 then
   if cmpI h[2 * i + 2]! h[i]! < 0 then dn (swp h i (2 * i + 2)) (2 * i + 2) n else (h, i)
  else
   if cmpI h[2 * i + 1]! h[i]! < 0 then dn (swp h i (2 * i + 1)) (2 * i + 1) n else (h, i)
 else (h, i)
termination_by n - i
theorem swp_len (h : List It) (i j : Nat) : (swp h i j).length = h.length := by simp [swp]
end Go.AM

namespace Go.AM
theorem swp_perm {h : List It} {i j : Nat} (hi : i < h.length) (hj : j < h.length) : (swp h i j).Perm h := by
 unfold swp
 rw [getElem!_pos h i hi, getElem!_pos h j hj]
 exact List.set_set_perm hi hj
theorem dn_perm : ∀ (h : List It) (i n : Nat), n ≤ h.length → (dn h i n).1.Perm h := by
 intro h i n hn
 fun_induction dn h i n with
 | case1 h i h1 h2 h3 ih => exact (ih (by rw [swp_len]; exact hn)).trans (swp_perm (by omega) (by omega))
 | case2 h i h1 h2 h3 => exact .refl _
 | case3 h i h1 h2 h3 ih => exact (ih (by rw [swp_len]; exact hn)).trans (swp_perm (by omega) (by omega))
 | case4 h i h1 h2 h3 => exact .refl _
 | case5 h i h1 => exact .refl _
theorem dn_len (h : List It) (i n : Nat) (hn : n ≤ h.length) : (dn h i n).1.length = h.length := (dn_perm h i n hn).length_eq
def hini (h : List It) : Nat → List It
 | 0 => h
 | k + 1 => hini (dn h k h.length).1 k
def popH (h : List It) : It × List It := ((dn (swp h 0 (h.length - 1)) 0 (h.length - 1)).1[h.length - 1]!, (dn (swp h 0 (h.length - 1)) 0 (h.length - 1)).1.take (h.length - 1))
theorem popH_perm {h : List It} (h0 : h ≠ []) : ((popH h).1 :: (popH h).2).Perm h := by
 have hpos : 0 < h.length := List.length_pos_iff.2 h0
 have hlen : (dn (swp h 0 (h.length - 1)) 0 (h.length - 1)).1.length = h.length := by rw [dn_len _ _ _ (by rw [swp_len]; omega), swp_len]
 have e : (popH h).2 ++ [(popH h).1] = (dn (swp h 0 (h.length - 1)) 0 (h.length - 1)).1 := by
  unfold popH
  simp only
  rw [getElem!_pos _ _ (by omega)]
  conv => rhs; rw [← List.take_append_drop (h.length - 1) (dn (swp h 0 (h.length - 1)) 0 (h.length - 1)).1]
  rw [List.drop_eq_getElem_cons (by omega), List.drop_eq_nil_of_le (by omega)]
 have p1 : ((popH h).1 :: (popH h).2).Perm ((popH h).2 ++ [(popH h).1]) := (List.perm_append_singleton _ _).symm
 rw [e] at p1
 exact p1.trans ((dn_perm _ _ _ (by rw [swp_len]; omega)).trans (swp_perm hpos (by omega)))
theorem popH_len {h : List It} (h0 : h ≠ []) : (popH h).2.length = h.length - 1 := by
 have := (popH_perm h0).length_eq
 simp at this; omega
def newH (l : List It) : List It := hini (l.map It.canon) (l.length / 2)
def allH (h : List It) : List It := if h0 : h = [] then [] else (popH h).1 :: allH (popH h).2
termination_by h.length
decreasing_by
 rw [popH_len h0]
 have := List.length_pos_iff.2 h0
 omega
end Go.AM

namespace Go.AM
abbrev leI (a b : It) : Prop := ¬ ltI b a
def HP (h : List It) (s n : Nat) : Prop := ∀ j, 1 ≤ j → j < n → s ≤ (j - 1) / 2 → leI h[(j - 1) / 2]! h[j]!
def PreH (h : List It) (i s n : Nat) : Prop := s ≤ i ∧ (∀ j, 1 ≤ j → j < n → s ≤ (j - 1) / 2 → (j - 1) / 2 ≠ i → leI h[(j - 1) / 2]! h[j]!) ∧
 (1 ≤ i → s ≤ (i - 1) / 2 → ∀ c, (c - 1) / 2 = i → 1 ≤ c → c < n → leI h[(i - 1) / 2]! h[c]!)
end Go.AM

namespace Go.AM
structure Vl where
 k : Int
 is : List It
 n : Int
 deriving DecidableEq
def eVl (K : K) (v : Vl) : D := .a [.i .i64 v.k, .l K 2 (v.is.map eI), .i .i64 v.n]
def eVr (K : K) (v : Vl) : D := .a [.i .i64 v.k, .l K 2 (v.is.map eR), .i .i64 v.n]
def valI (x : Im) : Vl := ⟨x.k, if x.k = 1 then sortI (x.ls.flatten.map It.canon) else x.ls.flatten, x.cs.sum⟩
end Go.AM

namespace Go.AM
def withI (x : It) : List It → List It
 | [] => [x]
 | y :: l => if cmpI x y < 0 then x :: y :: l else y :: withI x l
def withs (l : List It) (o : List It) : List It := l.foldl (fun o x => withI x o) o
end Go.AM

namespace Go.AM
structure Mem.good (m : Mem) : Prop where
 len : m.cs.length ≤ 1000
 ck : m.ck < 1000000000
 it : ∀ c ∈ m.cs, c.l.length ≤ 62 ∧ ∀ x ∈ c.l, x.ok
 num : ∀ c ∈ m.cs, -1125899906842624 ≤ c.n ∧ c.n ≤ 1125899906842624
 ver : ∀ c ∈ m.cs, c.v ≤ m.ck ∧ (c.n ≠ 0 → c.v ≠ 0)
 dis : ∀ i j : Nat, ∀ c d, m.cs[i]? = some c → m.cs[j]? = some d → c.v = d.v → c.v ≠ 0 → i = j
theorem Mem.good.ok {m : Mem} (h : m.good) : ∀ c ∈ m.cs, c.ok := fun c hc => by have := (h.it c hc).1; unfold Cl.ok; omega
def bagM (m : Mem) : Nat → List It
 | 0 => []
 | p + 1 => bagM m p ++ (rdM m p).l
def sumM (m : Mem) (f : Nat) : Nat → Int
 | 0 => 0
 | p + 1 => sumM m f p + (rdM m ((f + p : Nat) : Int)).n
def fullM (m : Mem) : List Cl := (m.cs.drop 2).filter (fun c => c.n == 1)
def lineM (m : Mem) : List It := ((fullM m).mergeSort (fun a b => decide (a.v ≤ b.v))).flatMap (·.l)
def eCz (c : Cl) : D := .a [.i .u64 c.v, .i .i64 c.n, .l .z 2 (c.l.map eI)]
end Go.AM

namespace Go.AM
def clnK (l : List It) : K := if l.length = 0 then .n else .x
end Go.AM

namespace Go.AM
def findI (x : It) : List It → Nat → Int
 | [], _ => -1
 | y :: l, i => if x.canon = y.canon then i else findI x l (i + 1)
def outI (x : It) (l : List It) (most : Int) : Option (List It) := if findI x l 0 < 0 ∨ most ≤ findI x l 0 then none else some (l.eraseIdx (findI x l 0).toNat)
end Go.AM

namespace Go.AM
def ofM (k : Int) (p : Nat) (m : Mem) : Vl :=
 if k = 1 then ⟨1, sortI ((bagM m p).map It.canon), 0⟩ else if k = 2 then ⟨2, lineM m, 0⟩ else if k = 3 then ⟨3, [], sumM m 0 p⟩ else ⟨4, [], sumM m (gatesN p).length p⟩
end Go.AM

namespace Go.AM
end Go.AM

namespace Go.AM
def opA (k : Int) : Int := 2 * k - 1
def opN (k : Int) : Int := if k = 4 then 1 else 2
theorem c_op_Of4 (k : Int) (hk : 1 ≤ k ∧ k ≤ 4) (sg) : LL.call n_op_Of [.i .i64 k] sg sg.length = some (.l .o 1 (if k = 4 then [.i .i64 7] else [.i .i64 (2 * k - 1), .i .i64 (2 * k)]), sg, sg.length) := by
 have : k = 1 ∨ k = 2 ∨ k = 3 ∨ k = 4 := by omega
 rcases this with rfl | rfl | rfl | rfl
 all_goals
  refine wp_call e_op_Of rfl ?_
  simp [F_op_Of]
end Go.AM

namespace Go.AM
def aftV (v : Vl) (o : Int) (x : It) (ok : Bool) (ai : It) (param : Int) : Vl × Bool :=
 if ok = false then (v, decide (o ≤ 4)) else
 if o = 1 then (⟨v.k, sortI ((v.is ++ [x]).map It.canon), v.n⟩, true) else
 if o = 3 then (⟨v.k, v.is ++ [x.canon], v.n⟩, true) else
 if o = 2 then (match outI ai v.is v.is.length with | some l => (⟨v.k, l, v.n⟩, true) | none => (v, false)) else
 if o = 4 then (match outI ai v.is param with | some l => (⟨v.k, l, v.n⟩, true) | none => (v, false)) else
 if o = 5 then (⟨v.k, v.is, v.n + x.v⟩, true) else
 if o = 7 then (⟨v.k, v.is, v.n + 1⟩, true) else (v, true)
end Go.AM

namespace Go.AM
end Go.AM

namespace Go.AM
structure Rw where
 k : Int
 x : It
 a : Int
 b : Int
 deriving DecidableEq, Inhabited
def eRw (r : Rw) : D := .a [.i .i64 r.k, .i .u64 r.x.p, .i .i64 r.x.v, .i .i64 r.a, .i .i64 r.b]
def eOp (r : Rw) : D := .a [.i .i64 r.k, .f .f64 r.x.p, .i .i64 r.x.v, .i .i64 r.a, .i .i64 r.b]
instance : Flat eRw := ⟨fun _ => rfl, fun _ => rfl, fun _ _ => rfl⟩
instance : Flat eOp := ⟨fun _ => rfl, fun _ => rfl, fun _ _ => rfl⟩
def Rw.ok (r : Rw) : Prop := r.x.ok ∧ (-9223372036854775808 ≤ r.k ∧ r.k ≤ 9223372036854775807) ∧ (-9223372036854775808 ≤ r.a ∧ r.a ≤ 9223372036854775807) ∧ (-9223372036854775808 ≤ r.b ∧ r.b ≤ 9223372036854775807)
def into (d n : Int) : Int := if n < 1 then 0 else d % n
def ownO (kind : Int) (r : Rw) : Rw :=
 let k := opA kind + into r.k (opN kind)
 ⟨k, ⟨r.x.p, if k = 5 then r.x.v % 4294967296 else r.x.v⟩, r.a, r.b⟩
structure FrR where
 o : Rw
 pc : Int
 at_ : Int
 seen : Int
 seg : Int
 tot : Int
 em : Bool
 v0 : Nat
 v1 : Nat
 n0 : Int
 l0 : List It
 n1 : Int
 l1 : List It
 deriving DecidableEq, Inhabited
def eFrK (K0 K1 : K) (f : FrR) : D := .a [.i .i64 f.o.k, .i .u64 f.o.x.p, .i .i64 f.o.x.v, .i .i64 f.o.a, .i .i64 f.o.b, .i .i64 f.pc, .i .i64 f.at_, .i .i64 f.seen, .i .i64 f.seg, .i .i64 f.tot, .b f.em, .i .i64 f.v0, .i .i64 f.v1,
 .i .i64 f.n0, .l K0 2 (f.l0.map eR), .i .i64 f.n1, .l K1 2 (f.l1.map eR)]
def eFr : FrR → D := eFrK .z .z
def newF (o : Rw) : FrR := ⟨⟨o.k, o.x.canon, o.a, o.b⟩, 0, 0, 0, 0, 0, false, 0, 0, 0, [], 0, []⟩
structure An where
 ok : Bool
 x : It
 n : Int
 deriving DecidableEq, Inhabited
def eAn (a : An) : D := .a [.b a.ok, .f .f64 a.x.p, .i .i64 a.x.v, .i .i64 a.n]
def eAr (a : An) : D := .a [.b a.ok, .i .u64 a.x.p, .i .i64 a.x.v, .i .i64 a.n]
instance : Flat eAn := ⟨fun _ => rfl, fun _ => rfl, fun _ _ => rfl⟩
instance : Flat eAr := ⟨fun _ => rfl, fun _ => rfl, fun _ _ => rfl⟩
end Go.AM

namespace Go.AM
end Go.AM

namespace Go.AM
end Go.AM

namespace Go.AM
def checkO (k o v : Int) : Int := if k < 1 ∨ 4 < k then 6 else if o < 2 * k - 1 ∨ (if k = 4 then 7 else 2 * k) < o then 6 else if o = 5 ∧ (v < 0 ∨ 4294967296 < v) then 4 else 0
theorem c_op_OfO (k : Int) (hk : k < 1 ∨ 4 < k) (sg) : LL.call n_op_Of [.i .i64 k] sg sg.length = some (.l .o 1 [], sg, sg.length) := by
 refine wp_call e_op_Of rfl ?_
 have h1 : (k == 1) = false := by simp; omega
 have h2 : (k == 2) = false := by simp; omega
 have h3 : (k == 3) = false := by simp; omega
 have h4 : (k == 4) = false := by simp; omega
 simp [F_op_Of, h1, h2, h3, h4]
theorem c_op_Check (k o : Int) (p : Nat) (v a b : Int) (sg) : LL.call n_op_Op_Check [.a [.i .i64 o, .f .f64 p, .i .i64 v, .i .i64 a, .i .i64 b], .i .i64 k] sg sg.length = some (.i .i64 (checkO k o v), sg, sg.length) := by
 generalize hr : checkO k o v = r
 refine wp_call e_op_Op_Check rfl ?_
 have w1 : IntKind.i64.wrap 1 = 1 := by decide
 have w2 : IntKind.i64.wrap 2 = 2 := by decide
 by_cases hk : k < 1 ∨ 4 < k
 ·have O := c_op_OfO k hk sg
  unfold checkO at hr
  rw [if_pos hk] at hr
  subst hr
  simp [F_op_Op_Check, O]
  refine wc_loop ?_
  simp
 ·have O := c_op_Of4 k (by omega) sg
  unfold checkO at hr
  rw [if_neg hk] at hr
  have hc : k = 1 ∨ k = 2 ∨ k = 3 ∨ k = 4 := by omega
  rcases hc with rfl | rfl | rfl | rfl
  all_goals
   simp at O hr
   simp [F_op_Op_Check, O]
   refine wc_loop ?_
   simp [w1]
   refine bq_i (fun h => ?_) (fun h => ?_) <;> (have h' := h) <;> simp at h'
   ·simp [h, w1]
    refine wc_loop ?_
    simp [w1, w2]
    try
     refine bq_i (fun g => ?_) (fun g => ?_) <;> (have g' := g) <;> simp at g'
     ·simp [g, w1, w2]
      refine wc_loop ?_
      simp [w2]
      subst hr
      (repeat' split) <;> first | rfl | omega
     ·simp [g]
      subst hr
      (repeat' split) <;> first | rfl | omega
    try (subst hr; (repeat' split) <;> first | rfl | omega)
   ·simp [h]
    try (repeat' (refine bq_i (fun g => ?_) (fun g => ?_) <;> (have g' := g) <;> (try simp at g') <;> simp [g, g']))
    all_goals (subst hr; (repeat' split) <;> first | rfl | omega)
theorem c_value_After_no (k o : Int) (val n m : Int) (K : AM.K) (hK : K = .z ∨ K = .o) (sg) :
    LL.call n_value_Value_After [.a [.i .i64 k, .l .z 2 [], .i .i64 n], .a [.i .i64 o, .f .f64 0, .i .i64 val, .i .i64 0, .i .i64 0], .a [.b false, .f .f64 0, .i .i64 0, .i .i64 0], .i .i64 m] sg sg.length =
     some (.t [.a [.i .i64 k, .l .z 2 [], .i .i64 n], .b (decide (checkO k o val = 0 ∧ o ≤ 4))], sg, sg.length) := by
 refine wp_call e_value_Value_After rfl ?_
 have C := c_op_Check k o 0 val 0 0 sg
 by_cases h : checkO k o val = 0
 ·rw [h] at C
  by_cases h4 : o ≤ 4
  ·simp [F_value_Value_After, C, h, h4]
  ·simp [F_value_Value_After, C, h, h4]
 ·have h' : (checkO k o val != 0) = true := by simp [h]
  simp [F_value_Value_After, C, h, h']
def sameV (v w : Vl) : Prop := v.k = w.k ∧ v.n = w.n ∧ v.is.map It.canon = w.is.map It.canon
instance (v w : Vl) : Decidable (sameV v w) := by unfold sameV; infer_instance
end Go.AM

namespace Go.AM
def eC1 (t b e : Int) : D := .a [.i .i64 t, .i .i64 0, .f .f64 0, .i .i64 0, .i .i64 0, .i .i64 0, .i .i64 b, .i .i64 e, .b false, .f .f64 0, .i .i64 0, .i .i64 0]
def chk1c (t b e : Int) : Int := if t < 0 ∨ 6 ≤ t then 4 else if b < 0 ∨ e < -1 ∨ (0 ≤ e ∧ e < b) then 14 else 0
set_option maxHeartbeats 2000000 in
theorem c_history_Check_1 (t b e : Int) (sg : List (List D)) : LL.call n_history_Check [.l .z 12 [eC1 t b e]] sg sg.length = some (.i .i64 (chk1c t b e), sg, sg.length) := by
 generalize hT : chk1c t b e = T
 unfold chk1c at hT
 have w1 : IntKind.i64.wrap 1 = 1 := by decide
 refine wp_call e_history_Check rfl ?_
 simp [F_history_Check, eC1]
 refine wc_loop ?_
 by_cases h1 : t < 0
 ·rw [if_pos (.inl h1)] at hT
  simp [h1, hT]
 ·by_cases h2 : 6 ≤ t
  ·rw [if_pos (.inr h2)] at hT
   simp [h1, h2, hT]
  ·rw [if_neg (by omega)] at hT
   by_cases h3 : b < 0
   ·rw [if_pos (.inl h3)] at hT
    simp [h1, h2, h3, hT]
   ·by_cases h4 : e < -1
    ·rw [if_pos (.inr (.inl h4))] at hT
     simp [h1, h2, h3, h4, hT]
    ·by_cases h5 : 0 ≤ e
     ·by_cases h6 : e < b
      ·rw [if_pos (.inr (.inr ⟨h5, h6⟩))] at hT
       simp [h1, h2, h3, h4, h5, h6, hT]
      ·rw [if_neg (by omega)] at hT
       simp [h1, h2, h3, h4, h5, h6]
       refine wc_loop ?_
       simp [w1]
       refine wc_loop ?_
       simp [hT]
     ·rw [if_neg (by omega)] at hT
      simp [h1, h2, h3, h4, h5]
      refine wc_loop ?_
      simp [w1]
      refine wc_loop ?_
      simp [hT]
theorem c_history_Done_1 (t b e : Int) (sg : List (List D)) : LL.call n_history_Done [.l .z 12 [eC1 t b e]] sg sg.length = some (.l .x 1 (if e < 0 then [] else [.i .i64 0]), sg, sg.length) := by
 have w1 : IntKind.i64.wrap 1 = 1 := by decide
 by_cases h : e < 0
 ·refine wp_call e_history_Done rfl ?_
  simp [F_history_Done, eC1]
  refine wc_loop ?_
  simp [h, w1]
  refine wc_loop ?_
  simp [h]
  done
 ·refine wp_call e_history_Done rfl ?_
  simp [F_history_Done, eC1]
  refine wc_loop ?_
  simp [h, w1]
  refine wc_loop ?_
  simp [h, w1]
  refine wc_loop ?_
  simp [h]
  done
def lax1 (k p t b e : Int) : Int × Int × Int := if legal k p ≠ 0 then (0, -1, legal k p) else if chk1c t b e ≠ 0 then (0, -1, chk1c t b e) else if e < 0 then (k, -1, 0) else (k, 0, 12)
set_option maxHeartbeats 2000000 in
theorem c_lax_Check_1 (k p t b e : Int) (sg : List (List D)) :
    ∃ K : AM.K, (K = .z ∨ K = .o) ∧ LL.call n_lax_Check [.a [.i .i64 k, .l .z 2 [], .i .i64 0], .i .i64 p, .l .z 12 [eC1 t b e]] sg sg.length =
     some (.t [.a [.i .i64 (lax1 k p t b e).1, .l K 2 [], .i .i64 0], .i .i64 (lax1 k p t b e).2.1, .i .i64 (lax1 k p t b e).2.2], sg, sg.length) := by
 generalize hT : lax1 k p t b e = T
 unfold lax1 at hT
 have L := c_op_Legal k p sg
 have C := c_history_Check_1 t b e sg
 by_cases h1 : legal k p = 0
 ·rw [if_neg (by simpa using h1)] at hT
  rw [h1] at L
  by_cases h2 : chk1c t b e = 0
  ·rw [if_neg (by simpa using h2)] at hT
   rw [h2] at C
   obtain ⟨jd, hjd⟩ : ∃ jd : List D, jd = [.i .i64 k, .l .z 2 [], .i .i64 0, .i .i64 k, .l .z 2 [], .i .i64 0, .i .i64 p, .l .z 12 [eC1 t b e], .mo sg.length] := ⟨_, rfl⟩
   obtain ⟨s1, hs1⟩ : ∃ s1, s1 = sg ++ [[.u], jd] := ⟨_, rfl⟩
   have hl1 : s1.length = sg.length + 1 + 1 := by rw [hs1]; simp
   have g1 : s1[sg.length + 1]? = some jd := by rw [hs1, List.getElem?_append_right (by omega)]; simp
   have Dn := c_history_Done_1 t b e s1
   rw [hl1] at Dn
   have A := c_value_After_no k 0 0 0 p .z (.inl rfl) s1
   have hck : ¬ (checkO k 0 0 = 0 ∧ (0 : Int) ≤ 4) := by
    rintro ⟨h, _⟩
    have hk := legal_k h1
    have hc : k = 1 ∨ k = 2 ∨ k = 3 ∨ k = 4 := by omega
    rcases hc with rfl | rfl | rfl | rfl <;> revert h <;> decide
   simp only [hck, decide_false] at A
   have hmin : min sg.length s1.length = sg.length := by omega
   have hmin2 : min sg.length (sg.length + 1 + 1) = sg.length := by omega
   have w1 : IntKind.i64.wrap 1 = 1 := by decide
   simp [eC1] at C Dn hjd
   rw [hjd] at hs1 g1
   have tk1 : List.take sg.length s1 = sg := by rw [hs1]; simp
   by_cases h3 : e < 0
   ·rw [if_pos h3] at hT Dn
    subst hT
    refine ⟨.z, .inl rfl, wp_call e_lax_Check rfl ?_⟩
    simp [F_lax_Check, eC1, L, C, ← hs1, Dn, hl1]
    refine wc_loop ?_
    simp [g1, tk1, hmin2]
    done
   ·rw [if_neg h3] at hT Dn
    subst hT
    refine ⟨.z, .inl rfl, wp_call e_lax_Check rfl ?_⟩
    simp [F_lax_Check, eC1, L, C, ← hs1, Dn, hl1]
    refine wc_loop ?_
    simp [g1, A, tk1, hmin, hmin2]
    done
  ·rw [if_pos (by simpa using h2)] at hT
   subst hT
   have h2' : (chk1c t b e != 0) = true := by simp [h2]
   refine ⟨.o, .inr rfl, wp_call e_lax_Check rfl ?_⟩
   generalize chk1c t b e = f at *
   simp [eC1] at C
   simp [F_lax_Check, eC1, L, C, h2']
   done
 ·rw [if_pos (by simpa using h1)] at hT
  subst hT
  have h1' : (legal k p != 0) = true := by simp [h1]
  refine ⟨.o, .inr rfl, wp_call e_lax_Check rfl ?_⟩
  generalize legal k p = f at *
  simp [F_lax_Check, eC1, L, h1']
  done
set_option maxHeartbeats 2000000 in
theorem c_ref14_Check_1 (t b e : Int) (sg : List (List D)) : LL.call n_c_ref14_Check [.l .z 3 [.a [.i .i64 t, .i .i64 b, .i .i64 e]]] sg sg.length = some (.i .i64 (chk1c t b e), sg, sg.length) := by
 generalize hT : chk1c t b e = T
 unfold chk1c at hT
 have w1 : IntKind.i64.wrap 1 = 1 := by decide
 refine wp_call e_c_ref14_Check rfl ?_
 simp [F_c_ref14_Check]
 refine wc_loop ?_
 by_cases h1 : t < 0
 ·rw [if_pos (.inl h1)] at hT
  simp [h1, hT]
 ·by_cases h2 : 6 ≤ t
  ·rw [if_pos (.inr h2)] at hT
   have h2' : 5 < t := by omega
   simp [h1, h2', hT]
  ·have h2' : ¬ 5 < t := by omega
   rw [if_neg (by omega)] at hT
   by_cases h3 : b < 0
   ·rw [if_pos (.inl h3)] at hT
    simp [h1, h2', h3, hT]
   ·by_cases h4 : e < -1
    ·rw [if_pos (.inr (.inl h4))] at hT
     simp [h1, h2', h3, h4, hT]
    ·by_cases h5 : e = -1
     ·rw [if_neg (by omega)] at hT
      subst h5
      simp [h1, h2', h3]
      refine wc_loop ?_
      simp [w1]
      refine wc_loop ?_
      simp [hT]
     ·have h5' : (e != -1) = true := by simp [h5]
      by_cases h6 : e < b
      ·rw [if_pos (.inr (.inr ⟨by omega, h6⟩))] at hT
       simp [h1, h2', h3, h4, h5', h6, hT]
      ·rw [if_neg (by omega)] at hT
       simp [h1, h2', h3, h4, h5', h6]
       refine wc_loop ?_
       simp [w1]
       refine wc_loop ?_
       simp [hT]
end Go.AM

namespace Go.AM
theorem fits_i {k : IntKind} {d : D} (h : Fits (.i k) [d]) : ∃ n, d = .i k n ∧ (Lit.int k n).wf = true := by
 cases h with | i k n h => exact ⟨n, rfl, h⟩
abbrev tItem : Ty := .st [.i .u64, .i .i64]
abbrev tRaw : Ty := .st [.i .i64, .i .i64, .i .u64, .l 2 true tItem, .l 1 false (.i .i64), .i .i64]
end Go.AM

namespace Go.AM
abbrev tRw : Ty := .st [.i .i64, tItem, .i .i64, .i .i64]
end Go.AM

namespace Go.AM
def chkM (P : Program) (t : TypeId) (nm : String) (f : FuncId) : Bool := match P.info? t with
 | some i => match i.methods.find? (·.name == nm) with
  | some m => m.path.toList.isEmpty && (match m.func with
   | some (g, true) => (match P.underlying t with | some (.pointer _) => g == f && decide (f < Q0) | _ => false)
   | some (g, false) => (match P.underlying t with
    | some (.pointer e) => decide (Q0 ≤ f) && g == f - Q0 && aggT P e == some false && szT P e == some 1
    | some _ => g == f && decide (f < Q0)
    | none => false)
   | none => false)
  | none => false
 | none => false
theorem wrap_ok (ts : Array TypeId) (t : TypeId) (a : Addr) (s1 s2 : String) : Builtin.ssaWrapNilChk_ ts t #[.pointer (some a), strVal s1, strVal s2] = pure (.pointer (some a)) := rfl
theorem meth_one {P : Program} {t nm f} (h : chkM P t nm f = true) :
    (f < Q0 → ∀ v w, (method (P.types.size + Made.depth) t v nm).run P w = .ok (f, v) w) ∧
    (Q0 ≤ f → ∀ b off u w, World.cell? w ⟨b, off, none⟩ = some u → (method (P.types.size + Made.depth) t (.pointer (some ⟨b, off, none⟩)) nm).run P w = .ok (f - Q0, u) w) := by
 unfold chkM at h
 split at h
 ·rename_i i hi
  split at h
  ·rename_i m hm
   simp only [Bool.and_eq_true] at h
   obtain ⟨hp, h⟩ := h
   have hp' : m.path.toList = [] := List.isEmpty_iff.1 hp
   obtain ⟨n, hn⟩ : ∃ n, P.types.size + Made.depth = n + 1 := ⟨P.types.size + 99, rfl⟩
   rw [hn]
   split at h
   ·rename_i g hg
    split at h
    ·rename_i e hu
     simp only [Bool.and_eq_true, beq_iff_eq, decide_eq_true_eq] at h
     obtain ⟨rfl, hf⟩ := h
     refine ⟨fun _ v w => ?_, fun hq => absurd hf (Nat.not_lt.2 hq)⟩
     simp [method, typeInfo, hi, hm, hp', follow, hg, receiverAt, underlying, hu, Place.get]
    ·cases h
   ·rename_i g hg
    split at h
    ·rename_i e hu
     simp only [Bool.and_eq_true, beq_iff_eq, decide_eq_true_eq] at h
     obtain ⟨⟨⟨hf, hgf⟩, ha⟩, hs⟩ := h
     refine ⟨fun hq => absurd hq (Nat.not_lt.2 hf), fun _ b off u w hc => ?_⟩
     have hrun := run_load' (P := P) (w := w) (t := e) (b := b) (off := off) (us := [u]) ha hs (.inr rfl) rfl (fun j v hj => by
      cases j with
      | zero => simp at hj; subst hj; simpa using hc
      | succ j => simp at hj)
     simp only [Instr.loadAt, Instr.sureAddr] at hrun
     have hpe : m.path = #[] := by simpa using hp
     simp at hrun
     simp [method, typeInfo, hi, hm, hp', hpe, follow, hg, receiverAt, underlying, hu, Place.get, wrap_ok, asAddr, hrun, hgf]
    ·rename_i d hne hu
     simp only [Bool.and_eq_true, beq_iff_eq, decide_eq_true_eq] at h
     obtain ⟨rfl, hf⟩ := h
     refine ⟨fun _ v w => ?_, fun hq => absurd hf (Nat.not_lt.2 hq)⟩
     simp [method, typeInfo, hi, hm, hp', follow, hg, receiverAt, underlying, hu, Place.get]
    ·cases h
   ·cases h
  ·cases h
 ·cases h
theorem nil_one {P : Program} {t nm f} (h : chkM P t nm f = true) : NilOK P t nm f := by
 intro hf v w
 unfold chkM at h
 split at h
 ·rename_i i hi
  split at h
  ·rename_i m hm
   simp only [Bool.and_eq_true] at h
   obtain ⟨hp, h⟩ := h
   have hp' : m.path.toList = [] := List.isEmpty_iff.1 hp
   obtain ⟨n, hn⟩ : ∃ n, P.types.size + Made.depth = n + 1 := ⟨P.types.size + 99, rfl⟩
   rw [hn]
   split at h
   ·rename_i g hg
    simp [nilAhead, typeInfo, hi, hm, hp', followBlind, hg]
   ·rename_i g hg
    split at h
    ·rename_i e hu
     simp only [Bool.and_eq_true, beq_iff_eq, decide_eq_true_eq] at h
     exact absurd hf (Nat.not_lt.2 h.1.1.1)
    ·rename_i d hne hu
     simp [nilAhead, typeInfo, hi, hm, hp', followBlind, hg, underlying, hu]
     cases d <;> first | (exfalso; exact hne _ rfl) | rfl
    ·cases h
   ·cases h
  ·cases h
 ·cases h
theorem meth_all {P : Program} {T : List (TypeId × String × FuncId)} (h : T.all (fun p => chkM P p.1 p.2.1 p.2.2) = true) :
    MethOK P (fun t nm => (T.find? fun p => p.1 == t && p.2.1 == nm).map (·.2.2)) := by
 intro t nm f hf
 simp only [Option.map_eq_some_iff] at hf
 obtain ⟨⟨t', nm', f'⟩, h1, rfl⟩ := hf
 have h2 := List.find?_some h1
 simp only [Bool.and_eq_true, beq_iff_eq] at h2
 obtain ⟨rfl, rfl⟩ := h2
 have h3 := List.all_eq_true.1 h _ (List.mem_of_find?_eq_some h1)
 exact ⟨(meth_one h3).1, (meth_one h3).2, nil_one h3⟩
end Go.AM

namespace Go.AM
open Go.Proofs
set_option maxRecDepth 100000
theorem fol : Try.prog.follows .mixedOrders = true := by kernel_rfl
theorem tab_ok : tab.all (fun p => chkFn Try.prog EE.fbits EE.frb (rid p.1) p.2) = true := by kernel_rfl
theorem look_in {α : Type} {k : Nat} {x : α} : ∀ {l : List (Nat × α)}, look k l = some x → (k, x) ∈ l
 | (j, y) :: r, h => by
  simp only [look] at h
  split at h
  ·rename_i e; cases h; subst e; simp
  ·exact List.mem_cons_of_mem _ (look_in h)
theorem libF : LibF Try.prog EE := toldF fun f ds d h => by
 have h : libL f ds = some d := h
 unfold libL at h
 split at h
 ·rename_i e; exact .inl ⟨e, h⟩
 split at h
 ·rename_i e; exact .inr ⟨e, h⟩
 ·cases h
theorem env_ok : EnvOK Try.prog EE := ⟨fun f af h => List.all_eq_true.1 tab_ok (f, af) (look_in h), libF, fun _ _ _ _ _ h => nomatch h⟩
theorem meth_ok : methL.all (fun p => chkM Try.prog p.1 p.2.1 p.2.2) = true := by kernel_rfl
theorem lib_ok : Lib Try.prog EE.fbits EE.frb EE.meth where
 bits := fun f h n w => by cases h; rfl
 frb := fun f h n w => by cases h; rfl
 meth := meth_all meth_ok
end Go.AM

namespace Go.AM
open Go.Proofs
set_option maxRecDepth 100000 in
theorem c_law15_awake : LL.call n_c_law15_awake [] [] 0 = some (.b true, [], 0) := lim_call.2 ⟨100, by kernel_rfl⟩
set_option maxRecDepth 20000 in
set_option maxHeartbeats 4000000 in
theorem laxErrors (kind param t b e : Int) :
    LL.call n_c_law15_LaxErrors [.i .i64 kind, .i .i64 param, .i .i64 t, .i .i64 b, .i .i64 e] [] 0 = some (.b true, [], 0) := by
 have hA := c_law15_awake
 obtain ⟨K, hK, hC⟩ := c_lax_Check_1 kind param t b e []
 have hL := c_ref06_Legal kind param []
 have hR := c_ref14_Check_1 t b e []
 simp [eC1] at hC hL hR
 refine wp_call e_c_law15_LaxErrors rfl ?_
 rcases hK with rfl | rfl
 all_goals
  simp [F_c_law15_LaxErrors, hA, hC, hL]
  generalize hT : lax1 kind param t b e = T at *
  unfold lax1 at hT
  by_cases h1 : legal kind param = 0
  ·rw [if_neg (by simpa using h1)] at hT
   by_cases h2 : chk1c t b e = 0
   ·rw [if_neg (by simpa using h2)] at hT
    by_cases h3 : e < 0
    ·rw [if_pos h3] at hT
     subst hT
     simp [h1, h2, h3, hR, hL]
    ·rw [if_neg h3] at hT
     subst hT
     simp [h1, h2, h3, hR, hL]
   ·rw [if_pos (by simpa using h2)] at hT
    subst hT
    generalize chk1c t b e = f at *
    have h2' : (f != 0) = true := by simp [h2]
    simp [h1, h2', hR, hL]
  ·rw [if_pos (by simpa using h1)] at hT
   subst hT
   generalize legal kind param = f at *
   have h1' : (f != 0) = true := by simp [h1]
   simp [h1', hL]
def args_LaxErrors : List (Bool × Ty) := [(false, .i .i64), (false, .i .i64), (false, .i .i64), (false, .i .i64), (false, .i .i64)]
theorem args_LaxErrors_ok : tyA Try.prog [3, 3, 3, 3, 3] = some args_LaxErrors := by kernel_rfl
theorem law_LaxErrors (ds : List D) (h : FitA args_LaxErrors ds) : ∃ sg lo, (lim EE).call n_c_law15_LaxErrors ds [] 0 = some (.b true, sg, lo) := by
 cases h with
 | c h1 k =>
 obtain ⟨n1, rfl, w1⟩ := fits_i h1
 cases k with
 | c h2 k =>
 obtain ⟨n2, rfl, w2⟩ := fits_i h2
 cases k with
 | c h3 k =>
 obtain ⟨n3, rfl, w3⟩ := fits_i h3
 cases k with
 | c h4 k =>
 obtain ⟨n4, rfl, w4⟩ := fits_i h4
 cases k with
 | c h5 k =>
 obtain ⟨n5, rfl, w5⟩ := fits_i h5
 cases k
 exact ⟨[], 0, laxErrors n1 n2 n3 n4 n5⟩
end Go.AM
