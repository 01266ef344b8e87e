/- Lemmas: an abstract machine over the loaded program, proved sound against the model once; what the program's functions compute. -/
import Derived.Test.YtpgengahgdmhmaaGreatK2
import Derived.Test.YtpgengahgdmhmaaGreatK3
import Derived.Laws.BitsLemmas
set_option linter.all false
namespace Go.AM
noncomputable abbrev LL : Or := lim EE
mutual
theorem beq_self : ∀ d : D, D.beq d d = true
 | .b _ | .i _ _ | .f _ _ | .nilp | .p _ _ | .nili | .nilf | .u | .w => by simp [D.beq]
 | .s x => by simp only [D.beq]; show (x.data == x.data) = true; simp
 | .q cs _ => by simp [D.beq, beqs_self cs]
 | .l _ _ xs => by simp [D.beq, beqs_self xs]
 | .a cs => by simp [D.beq, beqs_self cs]
 | .t cs => by simp [D.beq, beqs_self cs]
 | .ic _ v => by simp [D.beq, beq_self v]
 | .fn _ cs => by simp [D.beq, beqs_self cs]
theorem beqs_self : ∀ ds : List D, D.beqs ds ds = true
 | [] => rfl
 | d :: ds => by simp [D.beqs, beq_self d, beqs_self ds]
end
class Kt (α : Type) where
 q : α → Prop
class K3 where
 q : R → St → Ac → Prop
class Pr where
 p : Prop
def WC (c : C) (s : St) [k : Kt Rs] (_ : True) : Prop := ∃ r, evC EE LL c s = some r ∧ k.q r
def WG (gs : List Gh) (s : St) [k : Kt St] (_ : True) : Prop := ∃ t, evGs gs s = some t ∧ k.q t
def WO (ops : List I) (s : St) [k : Kt St] (_ : True) : Prop := ∃ t, evOps EE LL ops s = some t ∧ k.q t
def WD (ops : List I) (acs : List Ac) (s : St) [k : Kt St] (_ : True) : Prop := ∃ t, evOpsD EE LL ops acs s = some t ∧ k.q t
def W1 (x : Option (R × St × Ac)) [k : K3] (_ : True) : Prop := ∃ r s ac, x = some (r, s, ac) ∧ k.q r s ac
def SqQ (b : C) [k : Kt Rs] (r : Rs) (_ : True) : Prop := match r with
 | .n s => @WC b s k trivial
 | .x i s => k.q (.x i s)
 | .r s => k.q (.r s)
def BkQ (n : Nat) [k : Kt Rs] (r : Rs) (_ : True) : Prop := match r with
 | .n s => k.q (.n s)
 | .x i s => if i = n then k.q (.n s) else k.q (.x i s)
 | .r s => k.q (.r s)
def CdQ (x : Option R) [A : Pr] [B : Pr] (_ : True) : Prop := match x with
 | some (.v (.b t)) => if t = true then A.p else B.p
 | _ => False
def GdQ (x : Option R) (b : Bool) [A : Pr] [B : Pr] (_ : True) : Prop := match x with
 | some (.v (.b t)) => if t = b then A.p else B.p
 | some (.v .u) => B.p
 | _ => False
def FnQ (res : List (Sum Nat (Nat × Bool × Nat))) (n : Nat) (x : D × List (List D) × Nat) (r : Rs) : Prop := fin ⟨0, res, .skip⟩ n (some r) = some x
theorem w1_some (r s ac Q) : @W1 (some (r, s, ac)) ⟨Q⟩ trivial ↔ Q r s ac := by
 unfold W1
 constructor
 ·rintro ⟨_, _, _, h, hq⟩; cases h; exact hq
 ·exact fun h => ⟨_, _, _, rfl, h⟩
theorem w1_none (Q) : @W1 none ⟨Q⟩ trivial ↔ False := by simp [W1]
theorem wc_skip (s Q) : @WC .skip s ⟨Q⟩ trivial ↔ Q (.n s) := by simp [WC, evC]
theorem wc_ret (s Q) : @WC .ret s ⟨Q⟩ trivial ↔ Q (.r s) := by simp [WC, evC]
theorem wc_exit (n s Q) : @WC (.exit n) s ⟨Q⟩ trivial ↔ Q (.x n s) := by simp [WC, evC]
theorem wc_seq (a b s Q) : @WC (.seq a b) s ⟨Q⟩ trivial ↔ @WC a s ⟨fun r => @SqQ b ⟨Q⟩ r trivial⟩ trivial := by
 unfold WC
 simp only [evC]
 constructor
 ·rintro ⟨r, h, hq⟩
  cases h1 : evC EE LL a s with
  | none => rw [h1] at h; simp [sq] at h
  | some r1 =>
   rw [h1] at h
   refine ⟨r1, rfl, ?_⟩
   cases r1 with
   | n s1 => exact ⟨r, h, hq⟩
   | x i s1 => simp [sq] at h; subst h; exact hq
   | r s1 => simp [sq] at h; subst h; exact hq
 ·rintro ⟨r1, h1, hq⟩
  rw [h1]
  cases r1 with
  | n s1 => exact hq
  | x i s1 => exact ⟨_, rfl, hq⟩
  | r s1 => exact ⟨_, rfl, hq⟩
theorem wc_blk (n a s Q) : @WC (.blk n a) s ⟨Q⟩ trivial ↔ @WC a s ⟨fun r => @BkQ n ⟨Q⟩ r trivial⟩ trivial := by
 unfold WC
 simp only [evC]
 constructor
 ·rintro ⟨r, h, hq⟩
  cases h1 : evC EE LL a s with
  | none => rw [h1] at h; simp [bk] at h
  | some r1 =>
   rw [h1] at h
   refine ⟨r1, rfl, ?_⟩
   cases r1 with
   | n s1 => simp [bk] at h; subst h; exact hq
   | r s1 => simp [bk] at h; subst h; exact hq
   | x i s1 =>
    simp only [bk] at h
    simp only [BkQ]
    split at h <;> rename_i e <;> cases h
    ·rw [if_pos e]; exact hq
    ·rw [if_neg e]; exact hq
 ·rintro ⟨r1, h1, hq⟩
  rw [h1]
  cases r1 with
  | n s1 => exact ⟨_, rfl, hq⟩
  | r s1 => exact ⟨_, rfl, hq⟩
  | x i s1 =>
   simp only [BkQ] at hq
   simp only [bk]
   split at hq <;> rename_i e
   ·exact ⟨_, by rw [if_pos e], hq⟩
   ·exact ⟨_, by rw [if_neg e], hq⟩
theorem wc_cond (x a b s Q) : @WC (.cond x a b) s ⟨Q⟩ trivial ↔ @CdQ (look x s.fr) ⟨@WC a s ⟨Q⟩ trivial⟩ ⟨@WC b s ⟨Q⟩ trivial⟩ trivial := by
 unfold WC
 simp only [evC]
 cases h : look x s.fr with
 | none => simp [CdQ]
 | some r =>
  cases r with
  | q q => simp [CdQ]
  | v d =>
   cases d <;> simp [CdQ]
   rename_i t; cases t <;> simp
theorem wc_reg (gs ops ls os s Q) : @WC (.reg gs ops false ls os) s ⟨Q⟩ trivial ↔ @WG gs s ⟨fun s => @WO ops s ⟨fun s => Q (.n { s with fr := forget (AM.Q.dead os) (keep ls s.fr), ob := keep os s.ob })⟩ trivial⟩ trivial := by
 unfold WC WG WO
 simp only [evC]
 cases h : evGs gs s with
 | none => simp
 | some t =>
  simp only [Bool.false_eq_true, if_false]
  cases h2 : evOps EE LL ops t with
  | none => simp [h2]
  | some t2 => simp [h2]
theorem wc_regd (gs ops ls os s Q) : @WC (.reg gs ops true ls os) s ⟨Q⟩ trivial ↔ @WG gs s ⟨fun s => @WD ops [] s ⟨fun s => Q (.n { s with fr := forget (AM.Q.dead os) (keep ls s.fr), ob := keep os s.ob })⟩ trivial⟩ trivial := by
 unfold WC WG WD
 simp only [evC]
 cases h : evGs gs s with
 | none => simp
 | some t =>
  simp only [if_true]
  cases h2 : evOpsD EE LL ops [] t with
  | none => simp [h2]
  | some t2 => simp [h2]
theorem wg_nil (s Q) : @WG [] s ⟨Q⟩ trivial ↔ Q s := by simp [WG, evGs]
theorem wg_cons (g gs s Q) : @WG (g :: gs) s ⟨Q⟩ trivial ↔ ∃ t, evG g s = some t ∧ @WG gs t ⟨Q⟩ trivial := by
 unfold WG
 simp only [evGs]
 cases h : evG g s with
 | none => simp
 | some t => simp
theorem wo_nil (s Q) : @WO [] s ⟨Q⟩ trivial ↔ Q s := by simp [WO, evOps]
theorem wo_cons (d op un fz r s Q) : @WO (⟨d, none, op, un, fz⟩ :: r) s ⟨Q⟩ trivial ↔ @W1 (evO LL EE.meth op s d) ⟨fun x t _ => @WO r (t.put d (fzR fz x)) ⟨Q⟩ trivial⟩ trivial := by
 cases h : evO LL EE.meth op s d with
 | none => rw [w1_none]; simp [WO, evOps, evI, wants, h]
 | some p =>
  obtain ⟨x, t, ac⟩ := p
  rw [w1_some]
  unfold WO
  simp only [evOps, evI, wants, h, Option.map_some]
theorem wo_guard (d k b op un fz r s Q) : @WO (⟨d, some (k, b), op, un, fz⟩ :: r) s ⟨Q⟩ trivial ↔ @GdQ (look k s.fr) b ⟨@W1 (evO LL EE.meth op s d) ⟨fun x t _ => @WO r (t.put d (fzR fz x)) ⟨Q⟩ trivial⟩ trivial⟩ ⟨@WO r (s.put d (.v .u)) ⟨Q⟩ trivial⟩ trivial := by
 have h0 : ∀ t : Bool, look k s.fr = some (.v (.b t)) → (@WO (⟨d, some (k, b), op, un, fz⟩ :: r) s ⟨Q⟩ trivial ↔ @WO (⟨d, none, op, un, fz⟩ :: r) s ⟨Q⟩ trivial ∧ t = b ∨ t ≠ b ∧ @WO r (s.put d (.v .u)) ⟨Q⟩ trivial) := by
  intro t ht
  unfold WO
  simp only [evOps, evI, wants, ht]
  cases t <;> cases b <;> simp
 cases hl : look k s.fr with
 | none => simp [WO, evOps, evI, wants, hl, GdQ]
 | some x =>
  cases x with
  | q q => simp [WO, evOps, evI, wants, hl, GdQ]
  | v v =>
   cases v <;> try (simp [WO, evOps, evI, wants, hl, GdQ]; done)
   rename_i t
   rw [h0 t hl, wo_cons]
   simp only [GdQ]
   cases t <;> cases b <;> simp
theorem wd_nil (acs s Q) : @WD [] acs s ⟨Q⟩ trivial ↔ Q s := by simp [WD, evOpsD]
theorem wd_cons (d op un fz r acs s Q) : @WD (⟨d, none, op, un, fz⟩ :: r) acs s ⟨Q⟩ trivial ↔ @W1 (evO LL EE.meth op s d) ⟨fun x t ac => okA un acs ac = true ∧ @WD r (acs ++ [ac]) (t.put d (fzR fz x)) ⟨Q⟩ trivial⟩ trivial := by
 cases h : evO LL EE.meth op s d with
 | none => rw [w1_none]; simp [WD, evOpsD, evI, wants, h]
 | some p =>
  obtain ⟨x, t, ac⟩ := p
  rw [w1_some]
  unfold WD
  simp only [evOpsD, evI, wants, h, Option.map_some]
  constructor
  ·rintro ⟨t', h1, h2⟩
   split at h1
   ·rename_i hk; exact ⟨hk, t', h1, h2⟩
   ·cases h1
  ·rintro ⟨hk, t2, h1, h2⟩
   exact ⟨t2, by rw [if_pos hk]; exact h1, h2⟩
theorem wd_guard (d k b op un fz r acs s Q) : @WD (⟨d, some (k, b), op, un, fz⟩ :: r) acs s ⟨Q⟩ trivial ↔ @GdQ (look k s.fr) b ⟨@W1 (evO LL EE.meth op s d) ⟨fun x t ac => okA un acs ac = true ∧ @WD r (acs ++ [ac]) (t.put d (fzR fz x)) ⟨Q⟩ trivial⟩ trivial⟩ ⟨okA un acs .no = true ∧ @WD r (acs ++ [.no]) (s.put d (.v .u)) ⟨Q⟩ trivial⟩ trivial := by
 have hu : @WD (⟨d, none, .mv (.c .u), un, 0⟩ :: r) acs s ⟨Q⟩ trivial ↔ (okA un acs .no = true ∧ @WD r (acs ++ [.no]) (s.put d (.v .u)) ⟨Q⟩ trivial) := by
  rw [wd_cons]
  simp only [evO, rx, Option.map_some, R.ac, w1_some, fzR]
 have h0 : ∀ t : Bool, look k s.fr = some (.v (.b t)) → (@WD (⟨d, some (k, b), op, un, fz⟩ :: r) acs s ⟨Q⟩ trivial ↔ @WD (⟨d, none, op, un, fz⟩ :: r) acs s ⟨Q⟩ trivial ∧ t = b ∨ t ≠ b ∧ @WD (⟨d, none, .mv (.c .u), un, 0⟩ :: r) acs s ⟨Q⟩ trivial) := by
  intro t ht
  unfold WD
  simp only [evOpsD, evI, wants, ht, evO, rx, Option.map_some, R.ac, fzR]
  cases t <;> cases b <;> simp
 cases hl : look k s.fr with
 | none => simp [WD, evOpsD, evI, wants, hl, GdQ]
 | some x =>
  cases x with
  | q q => simp [WD, evOpsD, evI, wants, hl, GdQ]
  | v v =>
   cases v <;> try (simp [WD, evOpsD, evI, wants, hl, GdQ]; done)
   ·rename_i t
    rw [h0 t hl, hu, wd_cons]
    simp only [GdQ]
    cases t <;> cases b <;> simp
   ·have : @WD (⟨d, some (k, b), op, un, fz⟩ :: r) acs s ⟨Q⟩ trivial ↔ @WD (⟨d, none, .mv (.c .u), un, 0⟩ :: r) acs s ⟨Q⟩ trivial := by
     unfold WD
     simp only [evOpsD, evI, wants, hl, evO, rx, Option.map_some, R.ac, fzR]
    rw [this, hu]
    simp [GdQ]
theorem gd_u (b A B) : @GdQ (some (.v .u)) b ⟨A⟩ ⟨B⟩ trivial ↔ B := Iff.rfl
theorem sq_n (b Q s) : @SqQ b ⟨Q⟩ (.n s) trivial ↔ @WC b s ⟨Q⟩ trivial := Iff.rfl
theorem sq_x (b Q i s) : @SqQ b ⟨Q⟩ (.x i s) trivial ↔ Q (.x i s) := Iff.rfl
theorem sq_r (b Q s) : @SqQ b ⟨Q⟩ (.r s) trivial ↔ Q (.r s) := Iff.rfl
theorem bk_n (n Q s) : @BkQ n ⟨Q⟩ (.n s) trivial ↔ Q (.n s) := Iff.rfl
theorem bk_x (n Q i s) : @BkQ n ⟨Q⟩ (.x i s) trivial ↔ if i = n then Q (.n s) else Q (.x i s) := Iff.rfl
theorem bk_r (n Q s) : @BkQ n ⟨Q⟩ (.r s) trivial ↔ Q (.r s) := Iff.rfl
theorem wp_call {f : FuncId} {F : F} {ds : List D} {sg : List (List D)} {x : D × List (List D) × Nat} (hF : EE.fn f = some F) (hn : ds.length = F.np)
    (h : @WC F.body ⟨ini 0 ds, [], sg, sg.length⟩ ⟨fun r => FnQ F.res sg.length x r⟩ trivial) (hq : decide (f < Q0) = true := by exact rfl) : LL.call f ds sg sg.length = some x := by
 obtain ⟨r, h1, h2⟩ := h
 refine call_of ?_
 unfold stepCall
 simp only [hF, if_pos hn]
 rw [iniF_lt (of_decide_eq_true hq)]
 simp only
 rw [h1]; exact h2
theorem wp_callq {f : FuncId} {F : F} {r off : Nat} {d0 : D} {cs ds : List D} {sg : List (List D)} {x : D × List (List D) × Nat} (hF : EE.fn f = some F) (hn : ds.length + 1 = F.np) (hcs : sg[r]? = some cs) (hd : cs[off]? = some d0)
    (h : @WC F.body ⟨(0, .q (.hd (.gb r off))) :: ini 1 ds, [], sg, sg.length⟩ ⟨fun r => FnQ F.res sg.length x r⟩ trivial) (hq : decide (f < Q0) = false := by exact rfl) : LL.call f (.p r off :: ds) sg sg.length = some x := by
 obtain ⟨r1, h1, h2⟩ := h
 refine call_of ?_
 unfold stepCall
 have hn' : (D.p r off :: ds).length = F.np := by simpa using hn
 simp only [hF, if_pos hn']
 rw [iniF_q (of_decide_eq_false hq) hcs hd]
 simp only
 rw [h1]; exact h2
theorem wc_loop {c s Q} (h : @WC c s ⟨fun r => @SqQ (.loop c) ⟨Q⟩ r trivial⟩ trivial) : @WC (.loop c) s ⟨Q⟩ trivial := by
 obtain ⟨r1, h1, h2⟩ := h
 cases r1 with
 | n s1 =>
  obtain ⟨r, h3, h4⟩ := h2
  refine ⟨r, ?_, h4⟩
  simp only [evC] at h3 ⊢
  refine loop_of ?_
  unfold stepLoop
  rw [h1]; exact h3
 | x i s1 =>
  refine ⟨.x i s1, ?_, h2⟩
  simp only [evC]
  refine loop_of ?_
  unfold stepLoop
  rw [h1]; rfl
 | r s1 =>
  refine ⟨.r s1, ?_, h2⟩
  simp only [evC]
  refine loop_of ?_
  unfold stepLoop
  rw [h1]; rfl
end Go.AM

namespace Go.AM
def O1 {α : Type} (o : Option α) [k : Kt α] (_ : True) : Prop := ∃ a, o = some a ∧ k.q a
theorem o1_some {α : Type} (a : α) (Q) : @O1 _ (some a) ⟨Q⟩ trivial ↔ Q a := by simp [O1]
theorem o1_none {α : Type} (Q : α → Prop) : @O1 _ none ⟨Q⟩ trivial ↔ False := by simp [O1]
theorem o1_map {α β : Type} (o : Option α) (f : α → β) (Q) : @O1 _ (o.map f) ⟨Q⟩ trivial ↔ @O1 _ o ⟨fun a => Q (f a)⟩ trivial := by cases o <;> simp [O1]
theorem o1_if_none {α : Type} (c : Prop) [Decidable c] (o : Option α) (Q) : @O1 _ (if c then none else o) ⟨Q⟩ trivial ↔ ¬ c ∧ @O1 _ o ⟨Q⟩ trivial := by by_cases h : c <;> simp [h, O1]
theorem o1_if {α : Type} (c : Prop) [Decidable c] (o : Option α) (Q) : @O1 _ (if c then o else none) ⟨Q⟩ trivial ↔ c ∧ @O1 _ o ⟨Q⟩ trivial := by by_cases h : c <;> simp [h, O1]
theorem o1_ite {α : Type} (c : Prop) [Decidable c] (a b : α) (Q) : @O1 _ (if c then some a else some b) ⟨Q⟩ trivial ↔ Q (if c then a else b) := by by_cases h : c <;> simp [h, O1]
section
variable (OO : Or) (m : TypeId → String → Option FuncId) (s : St) (d : Option Nat) (Q : R → St → Ac → Prop)
theorem w1_map {α : Type} (o : Option α) (f : α → R × St × Ac) : @W1 (o.map f) ⟨Q⟩ trivial ↔ @O1 _ o ⟨fun a => Q (f a).1 (f a).2.1 (f a).2.2⟩ trivial := by
 cases o with
 | none => simp [W1, O1]
 | some a => rw [Option.map_some, o1_some]; exact w1_some _ _ _ _
theorem w1_o1 (o : Option (R × St × Ac)) : @W1 o ⟨Q⟩ trivial ↔ @O1 _ o ⟨fun p => Q p.1 p.2.1 p.2.2⟩ trivial := by
 cases o with
 | none => simp [W1, O1]
 | some a => obtain ⟨x, t, ac⟩ := a; rw [w1_some, o1_some]
theorem w_mv (x : X) : @W1 (evO OO m (.mv x) s d) ⟨Q⟩ trivial ↔ @O1 _ (rx x s) ⟨fun p => Q p.1 p.2 p.1.ac⟩ trivial := by simp only [evO]; rw [w1_map]
theorem w_bin (op : BinOp) (x y : X) : @W1 (evO OO m (.bin op x y) s d) ⟨Q⟩ trivial ↔ @O1 _ (rxv x s) ⟨fun p => @O1 _ (rxv y p.2) ⟨fun q => @O1 _ (binv op p.1 q.1) ⟨fun r => Q (.v r) q.2 .no⟩ trivial⟩ trivial⟩ trivial := by
 simp only [evO]
 cases rxv x s with
 | none => simp [w1_none, o1_none]
 | some p =>
  obtain ⟨a, s1⟩ := p
  simp only [o1_some]
  cases rxv y s1 with
  | none => simp [w1_none, o1_none]
  | some q => obtain ⟨b, s2⟩ := q; simp only [o1_some]; rw [w1_map]
theorem w_eq (neg : Bool) (c : Ec) (x y : X) : @W1 (evO OO m (.eq neg c x y) s d) ⟨Q⟩ trivial ↔ @O1 _ (rxv x s) ⟨fun p => @O1 _ (rxv y p.2) ⟨fun q => @O1 _ (eq1 c p.1 q.1) ⟨fun t => Q (.v (.b (if neg then !t else t))) q.2 .no⟩ trivial⟩ trivial⟩ trivial := by
 simp only [evO]
 cases rxv x s with
 | none => simp [w1_none, o1_none]
 | some p =>
  obtain ⟨a, s1⟩ := p
  simp only [o1_some]
  cases rxv y s1 with
  | none => simp [w1_none, o1_none]
  | some q => obtain ⟨b, s2⟩ := q; simp only [o1_some]; rw [w1_map]
theorem w_un (op : UnOp) (x : X) : @W1 (evO OO m (.un op x) s d) ⟨Q⟩ trivial ↔ @O1 _ (rxv x s) ⟨fun p => @O1 _ (unv op p.1) ⟨fun r => Q (.v r) p.2 .no⟩ trivial⟩ trivial := by
 simp only [evO]
 cases rxv x s with
 | none => simp [w1_none, o1_none]
 | some p => obtain ⟨a, s1⟩ := p; simp only [o1_some]; rw [w1_map]
theorem w_cv (c : Cv) (x : X) : @W1 (evO OO m (.cv c x) s d) ⟨Q⟩ trivial ↔ @O1 _ (rxv x s) ⟨fun p => @O1 _ (cvv c p.1) ⟨fun r => Q (.v r) p.2 .no⟩ trivial⟩ trivial := by
 simp only [evO]
 cases rxv x s with
 | none => simp [w1_none, o1_none]
 | some p => obtain ⟨a, s1⟩ := p; simp only [o1_some]; rw [w1_map]
theorem w_ia (sz : Nat) (len : Option Nat) (x y : X) : @W1 (evO OO m (.ia sz len x y) s d) ⟨Q⟩ trivial ↔ @O1 _ (rx x s) ⟨fun p => @O1 _ (rxv y p.2) ⟨fun q => match q.1 with | .i _ n => @O1 _ (iav q.2 sz len p.1.fz n) ⟨fun r => Q r.1 q.2 r.2⟩ trivial | _ => False⟩ trivial⟩ trivial := by
 simp only [evO]
 cases rx x s with
 | none => simp [w1_none, o1_none]
 | some p =>
  obtain ⟨a, s1⟩ := p
  simp only [o1_some]
  cases h2 : rxv y s1 with
  | none => simp [w1_none, o1_none, h2]
  | some q =>
   obtain ⟨b, s2⟩ := q
   simp only [o1_some, h2]
   cases b <;> first | rw [w1_none] | skip
   simp only
   rw [w1_map]
theorem o1_iav_l (sz : Nat) (k : K) (sz' : Nat) (xs : List D) (n : Int) (Q : R × Ac → Prop) : @O1 _ (iav s sz none (.v (.l k sz' xs)) n) ⟨Q⟩ trivial ↔ 0 ≤ n ∧ (sz' = sz ∧ k ≠ .x) ∧ @O1 _ xs[n.toNat]? ⟨fun d => Q (.v (.q d.cells 0), .no)⟩ trivial := by
 unfold iav
 by_cases hn : n < 0
 ·simp [hn, o1_none]; omega
 ·rw [if_neg hn]
  simp only
  by_cases hc : sz' = sz ∧ k ≠ .x
  ·rw [if_pos hc]
   cases h : xs[n.toNat]? with
   | none => simp [o1_none]
   | some d => simp [o1_some, hc]; omega
  ·rw [if_neg hc]
   simp only [o1_none, hc, false_and, and_false]
theorem o1_iav_hd (sz : Nat) (pl : Pl) (n : Int) (sz' : Nat) (xs : List D) (h : s.at pl = some (.l .x sz' xs)) (Q : R × Ac → Prop) : @O1 _ (iav s sz none (.q (.hd pl)) n) ⟨Q⟩ trivial ↔ 0 ≤ n ∧ (sz' = sz ∧ n.toNat < xs.length) ∧ Q (.q (.el pl n.toNat 0), pl.rb) := by
 unfold iav
 by_cases hn : n < 0
 ·simp [hn, o1_none]; omega
 ·rw [if_neg hn]
  simp only [hpl, h]
  by_cases hc : sz' = sz ∧ n.toNat < xs.length
  ·rw [if_pos hc, o1_some, hd_ac]; simp [hc]; omega
  ·rw [if_neg hc, o1_none]; simp only [hc, false_and, and_false]
def AtQ (x : Option D) [k : Kt (Nat × List D)] (_ : True) : Prop := ∃ sz xs, x = some (.l .x sz xs) ∧ k.q (sz, xs)
theorem at_some (sz : Nat) (xs : List D) (Q) : @AtQ (some (.l .x sz xs)) ⟨Q⟩ trivial ↔ Q (sz, xs) := by
 constructor
 ·rintro ⟨_, _, h, hq⟩; cases h; exact hq
 ·exact fun h => ⟨_, _, rfl, h⟩
theorem o1_iav_hd' (sz : Nat) (pl : Pl) (n : Int) (Q : R × Ac → Prop) : @O1 _ (iav s sz none (.q (.hd pl)) n) ⟨Q⟩ trivial ↔ 0 ≤ n ∧ @AtQ (s.at pl) ⟨fun a => (a.1 = sz ∧ n.toNat < a.2.length) ∧ Q (.q (.el pl n.toNat 0), pl.rb)⟩ trivial := by
 constructor
 ·intro h
  unfold iav at h
  by_cases hn : n < 0
  ·simp [hn, o1_none] at h
  ·rw [if_neg hn] at h
   simp only [hpl] at h
   split at h
   ·rename_i sz' xs he
    have h' : @O1 _ (iav s sz none (.q (.hd pl)) n) ⟨Q⟩ trivial := by
     unfold iav; rw [if_neg hn]; simp only [hpl, he]; exact h
    rw [o1_iav_hd s sz pl n sz' xs he] at h'
    exact ⟨h'.1, sz', xs, he, h'.2⟩
   ·simp [o1_none] at h
 ·rintro ⟨h0, sz', xs, he, h⟩
  exact (o1_iav_hd s sz pl n sz' xs he Q).2 ⟨h0, h⟩
theorem o1_iav_hdr (sz : Nat) (k : Nat) (n : Int) (sz' : Nat) (xs : List D) (h : s.at (.ob k 0) = some (.l .x sz' xs)) (Q : R × Ac → Prop) : @O1 _ (iav s sz none (.q (.hdr k)) n) ⟨Q⟩ trivial ↔ 0 ≤ n ∧ (sz' = sz ∧ n.toNat < xs.length) ∧ Q (.q (.el (.ob k 0) n.toNat 0), .rb k) := by
 unfold iav
 by_cases hn : n < 0
 ·simp [hn, o1_none]; omega
 ·rw [if_neg hn]
  simp only [hpl, h]
  by_cases hc : sz' = sz ∧ n.toNat < xs.length
  ·rw [if_pos hc, o1_some]; simp [hc]; omega
  ·rw [if_neg hc, o1_none]; simp only [hc, false_and, and_false]
theorem o1_iav_hdr' (sz : Nat) (k : Nat) (n : Int) (Q : R × Ac → Prop) : @O1 _ (iav s sz none (.q (.hdr k)) n) ⟨Q⟩ trivial ↔ 0 ≤ n ∧ @AtQ (s.at (.ob k 0)) ⟨fun a => (a.1 = sz ∧ n.toNat < a.2.length) ∧ Q (.q (.el (.ob k 0) n.toNat 0), .rb k)⟩ trivial := by
 constructor
 ·intro h
  unfold iav at h
  by_cases hn : n < 0
  ·simp [hn, o1_none] at h
  ·rw [if_neg hn] at h
   simp only [hpl] at h
   split at h
   ·rename_i sz' xs he
    have h' : @O1 _ (iav s sz none (.q (.hdr k)) n) ⟨Q⟩ trivial := by
     unfold iav; rw [if_neg hn]; simp only [hpl, he]; exact h
    rw [o1_iav_hdr s sz k n sz' xs he] at h'
    exact ⟨h'.1, sz', xs, he, h'.2⟩
   ·simp [o1_none] at h
 ·rintro ⟨h0, sz', xs, he, h⟩
  exact (o1_iav_hdr s sz k n sz' xs he Q).2 ⟨h0, h⟩
theorem w_sl (sz : Nat) (x : X) (lo hi mx : Option X) : @W1 (evO OO m (.sl sz x lo hi mx) s d) ⟨Q⟩ trivial ↔ @O1 _ (rxv x s) ⟨fun p => @O1 _ (evO.rxo lo p.2) ⟨fun l => @O1 _ (evO.rxo hi l.2) ⟨fun h => @O1 _ (evO.rxo mx h.2) ⟨fun m => @O1 _ (slv sz p.1 l.1 h.1 m.1) ⟨fun r => Q (.v r) m.2 .no⟩ trivial⟩ trivial⟩ trivial⟩ trivial⟩ trivial := by
 simp only [evO]
 cases rxv x s with
 | none => simp [w1_none, o1_none]
 | some p =>
  obtain ⟨a, s1⟩ := p
  simp only [o1_some]
  cases evO.rxo lo s1 with
  | none => simp [w1_none, o1_none]
  | some q =>
   obtain ⟨l, s2⟩ := q
   simp only [o1_some]
   cases evO.rxo hi s2 with
   | none => simp [w1_none, o1_none]
   | some q =>
    obtain ⟨h, s3⟩ := q
    simp only [o1_some]
    cases evO.rxo mx s3 with
    | none => simp [w1_none, o1_none]
    | some q => obtain ⟨mm, s4⟩ := q; simp only [o1_some]; rw [w1_map]
theorem w_ss (x : X) (lo hi : Option X) : @W1 (evO OO m (.ss x lo hi) s d) ⟨Q⟩ trivial ↔ @O1 _ (rxv x s) ⟨fun p => @O1 _ (evO.rxo lo p.2) ⟨fun l => @O1 _ (evO.rxo hi l.2) ⟨fun h => @O1 _ (ssv p.1 l.1 h.1) ⟨fun r => Q (.v r) h.2 .no⟩ trivial⟩ trivial⟩ trivial⟩ trivial := by
 simp only [evO]
 cases rxv x s with
 | none => simp [w1_none, o1_none]
 | some p =>
  obtain ⟨a, s1⟩ := p
  simp only [o1_some]
  cases evO.rxo lo s1 with
  | none => simp [w1_none, o1_none]
  | some q =>
   obtain ⟨l, s2⟩ := q
   simp only [o1_some]
   cases evO.rxo hi s2 with
   | none => simp [w1_none, o1_none]
   | some q => obtain ⟨h, s3⟩ := q; simp only [o1_some]; rw [w1_map]
theorem rxo_none (s : St) : evO.rxo none s = some (none, s) := rfl
theorem rxo_some (x : X) (s : St) : evO.rxo (some x) s = (rxv x s).map fun p => (some p.1, p.2) := rfl
def BdQ (o : Option D) (dflt top : Nat) [k : Kt Nat] (_ : True) : Prop := @O1 _ (bnd o dflt top) k trivial
theorem bd_none (dflt top Q) : @BdQ none dflt top ⟨Q⟩ trivial ↔ Q dflt := by simp [BdQ, bnd, o1_some]
theorem bd_some (k n dflt top Q) : @BdQ (some (.i k n)) dflt top ⟨Q⟩ trivial ↔ (0 ≤ n ∧ n ≤ top) ∧ Q n.toNat := by simp only [BdQ, bnd, o1_if, o1_some]
theorem o1_ssv (v : ByteArray) (lo hi : Option D) (Q : D → Prop) : @O1 _ (ssv (.s v) lo hi) ⟨Q⟩ trivial ↔ @BdQ hi v.size v.size ⟨fun h => @BdQ lo 0 h ⟨fun l => Q (.s (v.extract l h))⟩ trivial⟩ trivial := by
 unfold ssv BdQ
 simp only
 cases bnd hi v.size v.size with
 | none => simp [o1_none]
 | some h =>
  simp only [o1_some]
  cases bnd lo 0 h with
  | none => simp [o1_none]
  | some l => simp [o1_some]
theorem o1_slv2 (sz : Nat) (k : K) (sz' : Nat) (xs : List D) (lo hi : Option D) (Q : D → Prop) : @O1 _ (slv sz (.l k sz' xs) lo hi none) ⟨Q⟩ trivial ↔ sz' = sz ∧ @BdQ hi xs.length xs.length ⟨fun h => @BdQ lo 0 h ⟨fun l => Q (.l (slk k hi.isNone lo.isNone) sz ((xs.take h).drop l))⟩ trivial⟩ trivial := by
 unfold slv BdQ
 simp only [o1_if]
 cases bnd hi xs.length xs.length with
 | none => simp [o1_none]
 | some h =>
  simp only [o1_some]
  cases bnd lo 0 h with
  | none => simp [o1_none]
  | some l => simp [o1_some]
theorem o1_slv3 (sz : Nat) (k : K) (sz' : Nat) (xs : List D) (lo : Option D) (h m : D) (Q : D → Prop) : @O1 _ (slv sz (.l k sz' xs) lo (some h) (some m)) ⟨Q⟩ trivial ↔ sz' = sz ∧ @BdQ (some m) 0 xs.length ⟨fun m => @BdQ (some h) 0 m ⟨fun h => h = m ∧ @BdQ lo 0 h ⟨fun l => k ≠ .x ∧ Q (.l .n sz ((xs.take h).drop l))⟩ trivial⟩ trivial⟩ trivial := by
 unfold slv BdQ
 simp only [o1_if]
 cases bnd (some m) 0 xs.length with
 | none => simp [o1_none]
 | some m =>
  simp only [o1_some]
  cases bnd (some h) 0 m with
  | none => simp [o1_none]
  | some h =>
   simp only [o1_some, o1_if]
   cases bnd lo 0 h with
   | none => simp [o1_none]
   | some l => cases k <;> simp [o1_some, o1_none]
theorem w_ixs (x y : X) : @W1 (evO OO m (.ixs x y) s d) ⟨Q⟩ trivial ↔ @O1 _ (rxv x s) ⟨fun p => @O1 _ (rxv y p.2) ⟨fun q => match p.1, q.1 with | .s v, .i _ n => 0 ≤ n ∧ @O1 _ v.data.toList[n.toNat]? ⟨fun c => Q (.v (.i .u8 c.toNat)) q.2 .no⟩ trivial | _, _ => False⟩ trivial⟩ trivial := by
 simp only [evO]
 cases rxv x s with
 | none => simp [w1_none, o1_none]
 | some p =>
  obtain ⟨a, s1⟩ := p
  simp only [o1_some]
  cases h2 : rxv y s1 with
  | none => cases a <;> simp [w1_none, o1_none, h2]
  | some q =>
   obtain ⟨b, s2⟩ := q
   simp only [o1_some]
   cases a <;> simp only [h2, w1_none]
   cases b <;> simp only [w1_none]
   rename_i v k n
   by_cases hn : 0 ≤ n
   ·rw [if_pos hn]
    cases v.data.toList[n.toNat]? with
    | none => simp [w1_none, o1_none]
    | some c => simp [w1_some, o1_some, hn]
   ·rw [if_neg hn]; simp [w1_none, hn]
theorem w_ixa (agg : Bool) (sz len : Nat) (x y : X) : @W1 (evO OO m (.ixa agg sz len x y) s d) ⟨Q⟩ trivial ↔ @O1 _ (rxv x s) ⟨fun p => @O1 _ (rxv y p.2) ⟨fun q => match p.1, q.1 with | .a cs, .i _ n => (0 ≤ n ∧ n < len) ∧ @O1 _ (sub cs (n.toNat * sz) sz) ⟨fun ds => @O1 _ (ofc agg ds) ⟨fun r => Q (.v r) q.2 .no⟩ trivial⟩ trivial | _, _ => False⟩ trivial⟩ trivial := by
 simp only [evO]
 cases rxv x s with
 | none => simp [w1_none, o1_none]
 | some p =>
  obtain ⟨a, s1⟩ := p
  simp only [o1_some]
  cases h2 : rxv y s1 with
  | none => cases a <;> simp [w1_none, o1_none, h2]
  | some q =>
   obtain ⟨b, s2⟩ := q
   simp only [o1_some]
   cases a <;> simp only [h2, w1_none]
   cases b <;> simp only [w1_none]
   rename_i cs k n
   by_cases hn : 0 ≤ n ∧ n < len
   ·rw [if_pos hn]
    cases sub cs (n.toNat * sz) sz with
    | none => simp [w1_none, o1_none]
    | some c => simp only [o1_some, w1_map, hn, true_and]
   ·rw [if_neg hn]; simp only [w1_none, hn, false_and]
theorem w_app (sz bytes : Nat) (x y : X) : @W1 (evO OO m (.app sz bytes x y) s d) ⟨Q⟩ trivial ↔ @O1 _ (rxv x s) ⟨fun p => @O1 _ (rx y p.2) ⟨fun q => @O1 _ (elems q.2 q.1) ⟨fun e => e.1 = sz ∧ @O1 _ (appv sz bytes p.1 e.2) ⟨fun r => Q (.v r) q.2 q.1.acE⟩ trivial⟩ trivial⟩ trivial⟩ trivial := by
 simp only [evO]
 cases rxv x s with
 | none => simp [w1_none, o1_none]
 | some p =>
  obtain ⟨a, s1⟩ := p
  simp only [o1_some]
  cases h2 : rx y s1 with
  | none => simp [w1_none, o1_none, h2]
  | some q =>
   obtain ⟨b, s2⟩ := q
   simp only [o1_some, h2]
   cases elems s2 b with
   | none => simp [w1_none, o1_none]
   | some e =>
    obtain ⟨sz', ys⟩ := e
    simp only [o1_some]
    by_cases hz : sz' = sz
    ·rw [if_pos hz]; simp only [hz, true_and]; rw [w1_map]
    ·rw [if_neg hz]; simp [w1_none, hz]
theorem w_apps (x y : X) : @W1 (evO OO m (.apps x y) s d) ⟨Q⟩ trivial ↔ @O1 _ (rxv x s) ⟨fun p => @O1 _ (rxv y p.2) ⟨fun q => match q.1 with | .s v => @O1 _ (appv 1 1 p.1 (ofBy v)) ⟨fun r => Q (.v r) q.2 .no⟩ trivial | _ => False⟩ trivial⟩ trivial := by
 simp only [evO]
 cases rxv x s with
 | none => simp [w1_none, o1_none]
 | some p =>
  obtain ⟨a, s1⟩ := p
  simp only [o1_some]
  cases h2 : rxv y s1 with
  | none => simp [w1_none, o1_none, h2]
  | some q =>
   obtain ⟨b, s2⟩ := q
   simp only [o1_some, h2]
   cases b <;> first | rw [w1_none] | skip
   simp only
   rw [w1_map]
theorem o1_app_x (sz bytes sz' : Nat) (xs ys : List D) (Q : D → Prop) : @O1 _ (appv sz bytes (.l .x sz' xs) ys) ⟨Q⟩ trivial ↔ (sz' = sz ∧ (xs.length + ys.length) * bytes ≤ 140737488355328) ∧ Q (.l .x sz (xs ++ ys)) := by
 unfold appv; simp only [o1_if, o1_some]
theorem o1_app_o (sz bytes sz' : Nat) (xs ys : List D) (Q : D → Prop) : @O1 _ (appv sz bytes (.l .o sz' xs) ys) ⟨Q⟩ trivial ↔ (sz' = sz ∧ (xs.length + ys.length) * bytes ≤ 140737488355328) ∧ Q (.l .o sz (xs ++ D.fzs ys)) := by
 unfold appv; simp only [o1_if, o1_some]
theorem o1_app_n (sz bytes sz' : Nat) (xs ys : List D) (Q : D → Prop) : @O1 _ (appv sz bytes (.l .n sz' xs) ys) ⟨Q⟩ trivial ↔ (sz' = sz ∧ (xs.length + ys.length) * bytes ≤ 140737488355328) ∧ Q (if ys.length = 0 then .l .n sz xs else .l .x sz (xs ++ ys)) := by
 unfold appv; simp only [o1_if]; by_cases h : ys.length = 0 <;> simp [h, o1_some]
theorem w_ms (sz bytes : Nat) (z : D) (x y : X) : @W1 (evO OO m (.ms sz bytes z x y) s d) ⟨Q⟩ trivial ↔ @O1 _ (rxv x s) ⟨fun p => @O1 _ (rxv y p.2) ⟨fun q => match p.1, q.1 with | .i .i64 n, .i .i64 c => (0 ≤ n ∧ n ≤ c ∧ c ≤ 9223372036854775807 ∧ c.toNat * bytes ≤ 140737488355328) ∧ Q (.v (.l .x sz (List.replicate n.toNat z))) q.2 .no | _, _ => False⟩ trivial⟩ trivial := by
 simp only [evO]
 cases rxv x s with
 | none => simp [w1_none, o1_none]
 | some p =>
  obtain ⟨a, s1⟩ := p
  simp only [o1_some]
  cases h2 : rxv y s1 with
  | none => cases a <;> simp [w1_none, o1_none, h2]; rename_i k _; cases k <;> simp [w1_none, h2]
  | some q =>
   obtain ⟨b, s2⟩ := q
   simp only [o1_some]
   cases a <;> (try simp only [h2, w1_none])
   rename_i k n
   cases k <;> (try simp only [h2, w1_none])
   cases b <;> (try simp only [w1_none])
   rename_i k c
   cases k <;> (try simp only [w1_none])
   split
   ·rename_i h; simp [w1_some, h]
   ·rename_i h; rw [w1_none]; simp only [h, false_and]
theorem w_call (f : FuncId) (xs : List X) : @W1 (evO OO m (.call f xs) s d) ⟨Q⟩ trivial ↔ @O1 _ (rxs xs s) ⟨fun p => @O1 _ (OO.call f p.1 p.2.sg p.2.sg.length) ⟨fun r => Q (.v r.1) { p.2 with sg := r.2.1, lo := min p.2.lo r.2.2, fr := forget AM.Q.gl p.2.fr } (.cl (D.beqs (r.2.1.map .t) (p.2.sg.map .t) && decide (p.2.lo ≤ r.2.2)))⟩ trivial⟩ trivial := by
 simp only [evO]
 cases rxs xs s with
 | none => simp [w1_none, o1_none]
 | some p =>
  obtain ⟨ds, s1⟩ := p
  simp only [o1_some]
  rw [w1_map]
theorem w_callv (x : X) (xs : List X) : @W1 (evO OO m (.callv x xs) s d) ⟨Q⟩ trivial ↔ @O1 _ (rxv x s) ⟨fun q => match q.1 with
    | .fn f cs => @O1 _ (rxs xs q.2) ⟨fun p => @O1 _ (OO.call f (p.1 ++ cs) p.2.sg p.2.sg.length) ⟨fun r => Q (.v r.1) { p.2 with sg := r.2.1, lo := min p.2.lo r.2.2, fr := forget AM.Q.gl p.2.fr } (.cl (D.beqs (r.2.1.map .t) (p.2.sg.map .t) && decide (p.2.lo ≤ r.2.2)))⟩ trivial⟩ trivial
    | _ => False⟩ trivial := by
 simp only [evO]
 cases rxv x s with
 | none => simp [w1_none, o1_none]
 | some q =>
  obtain ⟨a, s1⟩ := q
  simp only [o1_some]
  cases a <;> simp only [w1_none]
  rename_i f cs
  cases rxs xs s1 with
  | none => simp [w1_none, o1_none]
  | some p =>
   obtain ⟨ds, s1⟩ := p
   simp only [o1_some]
   rw [w1_map]
theorem w_ex (tk : Bool) (n k : Nat) : @W1 (evO OO m (.ex tk n k) s d) ⟨Q⟩ trivial ↔ (match look k s.fr with
    | some (.v (.t ds)) => @O1 _ ds[n]? ⟨fun e => if tk = true then Q (.v e) { s with fr := (k, .v (.t (ds.set n .w))) :: s.fr } .no else @O1 _ e.cp ⟨fun e => Q (.v e) s .no⟩ trivial⟩ trivial
    | _ => False) := by
 simp only [evO]
 cases look k s.fr with
 | none => simp [w1_none]
 | some r =>
  cases r with
  | q x => simp [w1_none]
  | v a =>
   cases a <;> simp only [w1_none]
   rename_i ds
   cases ds[n]? with
   | none => simp [w1_none, o1_none]
   | some e =>
    simp only [o1_some]
    cases tk
    ·simp only [Bool.false_eq_true, if_false]; rw [w1_map]
    ·simp only [if_true, w1_some]
theorem w_len (str : Bool) (x : X) : @W1 (evO OO m (.len str x) s d) ⟨Q⟩ trivial ↔ @O1 _ (rx x s) ⟨fun p => @O1 _ (lenv p.2 str p.1) ⟨fun r => Q (.v (.i .i64 r.1)) p.2 r.2⟩ trivial⟩ trivial := by
 simp only [evO]
 cases rx x s with
 | none => simp [w1_none, o1_none]
 | some p => obtain ⟨a, s1⟩ := p; simp only [o1_some]; rw [w1_map]
theorem w_mx (big : Bool) (xs : List X) : @W1 (evO OO m (.mx big xs) s d) ⟨Q⟩ trivial ↔ @O1 _ (rxs xs s) ⟨fun p => match p.1 with | .i k m :: ds => @O1 _ (mxv big m ds k) ⟨fun r => Q (.v r) p.2 .no⟩ trivial | _ => False⟩ trivial := by
 simp only [evO]
 cases rxs xs s with
 | none => simp [w1_none, o1_none]
 | some p =>
  obtain ⟨ds, s1⟩ := p
  simp only [o1_some]
  cases ds with
  | nil => simp [w1_none]
  | cons d0 ds => cases d0 <;> simp only [w1_none]; rw [w1_map]
theorem w_ld (agg : Bool) (n : Nat) (md : M) (x : X) : @W1 (evO OO m (.ld agg n md x) s d) ⟨Q⟩ trivial ↔ @O1 _ (rx x s) ⟨fun p => @O1 _ (ldp p.2 agg n md p.1) ⟨fun r => Q r.1 r.2.1 r.2.2⟩ trivial⟩ trivial := by
 simp only [evO]
 cases rx x s with
 | none => simp [w1_none, o1_none]
 | some p => obtain ⟨a, s1⟩ := p; simp only [o1_some]; rw [w1_o1]
theorem w_lda (n : Nat) (x : X) : @W1 (evO OO m (.lda n x) s d) ⟨Q⟩ trivial ↔ @O1 _ (rx x s) ⟨fun p => @O1 _ (ldp p.2 false n (auM p.2 p.1) p.1) ⟨fun r => Q r.1 r.2.1 r.2.2⟩ trivial⟩ trivial := by
 simp only [evO]
 cases rx x s with
 | none => simp [w1_none, o1_none]
 | some p => obtain ⟨a, s1⟩ := p; simp only [o1_some]; rw [w1_o1]
theorem w_st (n : Nat) (x y : X) : @W1 (evO OO m (.st n x y) s d) ⟨Q⟩ trivial ↔ @O1 _ (rx x s) ⟨fun p => @O1 _ (rxv y p.2) ⟨fun q => stb q.1 = true ∧ @O1 _ (stp q.2 n p.1 q.1) ⟨fun r => Q (.v .u) r.1 r.2⟩ trivial⟩ trivial⟩ trivial := by
 simp only [evO]
 cases rx x s with
 | none => simp [w1_none, o1_none]
 | some p =>
  obtain ⟨a, s1⟩ := p
  simp only [o1_some]
  cases h2 : rxv y s1 with
  | none => simp [w1_none, o1_none, h2]
  | some q =>
   obtain ⟨b, s2⟩ := q
   simp only [o1_some, h2]
   by_cases hb : stb b = true
   ·rw [if_pos hb, w1_map]; simp [hb]
   ·rw [if_neg hb]; simp [w1_none, hb]
theorem w_pick (c a b : X) : @W1 (evO OO m (.pick c a b) s d) ⟨Q⟩ trivial ↔ @O1 _ (rxv c s) ⟨fun p => match p.1 with | .b t => if t = true then @O1 _ (rxv a p.2) ⟨fun q => Q (.v q.1) q.2 .no⟩ trivial else @O1 _ (rxv b p.2) ⟨fun q => Q (.v q.1) q.2 .no⟩ trivial | _ => False⟩ trivial := by
 simp only [evO]
 cases rxv c s with
 | none => simp [w1_none, o1_none]
 | some p =>
  obtain ⟨x, s1⟩ := p
  simp only [o1_some]
  cases x <;> simp only [w1_none]
  rename_i t
  cases t
  ·simp only [Bool.false_eq_true, if_false]; rw [w1_map]
  ·simp only [if_true]; rw [w1_map]
end
end Go.AM

namespace Go.AM
def BQ (t : Bool) [A : Pr] [B : Pr] (_ : True) : Prop := if t = true then A.p else B.p
theorem bq_i {t : Bool} {A B : Pr} (h : t = true → A.p) (k : t = false → B.p) : @BQ t A B trivial := by
 cases t
 ·exact k rfl
 ·exact h rfl
theorem bq_true (A B) : @BQ true ⟨A⟩ ⟨B⟩ trivial ↔ A := by simp [BQ]
theorem bq_false (A B) : @BQ false ⟨A⟩ ⟨B⟩ trivial ↔ B := by simp [BQ]
theorem cd_t (t A B) : @CdQ (some (.v (.b t))) ⟨A⟩ ⟨B⟩ trivial ↔ @BQ t ⟨A⟩ ⟨B⟩ trivial := Iff.rfl
theorem cd_u (A B) : @CdQ (some (.v .u)) ⟨A⟩ ⟨B⟩ trivial ↔ False := Iff.rfl
theorem gd_t (t A B) : @GdQ (some (.v (.b t))) true ⟨A⟩ ⟨B⟩ trivial ↔ @BQ t ⟨A⟩ ⟨B⟩ trivial := Iff.rfl
theorem gd_f (t A B) : @GdQ (some (.v (.b t))) false ⟨A⟩ ⟨B⟩ trivial ↔ @BQ t ⟨B⟩ ⟨A⟩ trivial := by cases t <;> simp [GdQ, BQ]
section
variable (OO : Or) (m : TypeId → String → Option FuncId) (s : St) (d : Option Nat) (Q : R → St → Ac → Prop)
theorem w_al (z : List D) (k : Nat) : @W1 (evO OO m (.al z) s (some k)) ⟨Q⟩ trivial ↔ Q (.q (.ptr k 0)) { s with ob := (k, z) :: s.ob, fr := forget (AM.Q.ofk k) s.fr } (.wk k) := by simp only [evO]; rw [w1_some]
theorem w_ag (z : List D) : @W1 (evO OO m (.ag z) s d) ⟨Q⟩ trivial ↔ Q (.v (.p s.sg.length 0)) { s with sg := s.sg ++ [z] } .ag := by simp only [evO]; rw [w1_some]
theorem w_bx (x : X) (k : Nat) : @W1 (evO OO m (.bx x) s (some k)) ⟨Q⟩ trivial ↔ @O1 _ (rxv x s) ⟨fun p => stb p.1 = true ∧ Q (.q (.ptr k 0)) { p.2 with ob := (k, p.1.cells) :: p.2.ob, fr := forget (AM.Q.ofk k) p.2.fr } (.wk k)⟩ trivial := by
 simp only [evO]
 cases rxv x s with
 | none => simp [w1_none, o1_none]
 | some p =>
  obtain ⟨a, s1⟩ := p
  simp only [o1_some]
  by_cases h : stb a = true
  ·rw [if_pos h, w1_some]; simp [h]
  ·rw [if_neg h, w1_none]; simp [h]
theorem w_bg (x : X) : @W1 (evO OO m (.bg x) s d) ⟨Q⟩ trivial ↔ @O1 _ (rxv x s) ⟨fun p => stb p.1 = true ∧ Q (.v (.p p.2.sg.length 0)) { p.2 with sg := p.2.sg ++ [p.1.cells] } .ag⟩ trivial := by
 simp only [evO]
 cases rxv x s with
 | none => simp [w1_none, o1_none]
 | some p =>
  obtain ⟨a, s1⟩ := p
  simp only [o1_some]
  by_cases h : stb a = true
  ·rw [if_pos h, w1_some]; simp [h]
  ·rw [if_neg h, w1_none]; simp [h]
theorem w_bd (z : List D) (ps : List (Nat × Nat × X)) : @W1 (evO OO m (.bd z ps) s d) ⟨Q⟩ trivial ↔ @O1 _ (rxs (ps.map (·.2.2)) s) ⟨fun p => stbs p.1 = true ∧ @O1 _ (fillc z ((ps.zip p.1).map fun (a, d) => (a.1, a.2.1, d))) ⟨fun cs => Q (.v (.a cs)) p.2 .no⟩ trivial⟩ trivial := by
 simp only [evO]
 cases rxs (ps.map (·.2.2)) s with
 | none => simp [w1_none, o1_none]
 | some p =>
  obtain ⟨a, s1⟩ := p
  simp only [o1_some]
  by_cases h : stbs a = true
  ·rw [if_pos h, w1_map]; simp [h]
  ·rw [if_neg h, w1_none]; simp [h]
theorem w_bs (sz n : Nat) (z : D) (ps : List (Nat × X)) : @W1 (evO OO m (.bs sz n z ps) s d) ⟨Q⟩ trivial ↔ @O1 _ (rxs (ps.map (·.2)) s) ⟨fun p => stbs p.1 = true ∧ @O1 _ (fille (List.replicate n z) sz ((ps.zip p.1).map fun (a, d) => (a.1, d))) ⟨fun xs => Q (.v (.l .x sz xs)) p.2 .no⟩ trivial⟩ trivial := by
 simp only [evO]
 cases rxs (ps.map (·.2)) s with
 | none => simp [w1_none, o1_none]
 | some p =>
  obtain ⟨a, s1⟩ := p
  simp only [o1_some]
  by_cases h : stbs a = true
  ·rw [if_pos h, w1_map]; simp [h]
  ·rw [if_neg h, w1_none]; simp [h]
theorem w_nc (x : X) : @W1 (evO OO m (.nc x) s d) ⟨Q⟩ trivial ↔ @O1 _ (rx x s) ⟨fun p => match p.1 with
    | .v (.p g o) => Q (.v (.p g o)) p.2 .no
    | .v (.q cs o) => Q (.v (.q cs o)) p.2 .no
    | .q (.ptr k o) => Q (.q (.ptr k o)) p.2 (.rl k 0 0)
    | .q (.el pl i o) => Q (.q (.el pl i o)) p.2 (AM.Q.ac (.el pl i o))
    | _ => False⟩ trivial := by
 simp only [evO]
 cases rx x s with
 | none => simp [w1_none, o1_none]
 | some p =>
  obtain ⟨a, s1⟩ := p
  simp only [o1_some]
  cases a with
  | v a => cases a <;> simp only [w1_none, w1_some]
  | q a => cases a <;> simp only [w1_none, w1_some, AM.Q.ac]
theorem w_fa (off : Nat) (x : X) : @W1 (evO OO m (.fa off x) s d) ⟨Q⟩ trivial ↔ @O1 _ (rx x s) ⟨fun p => @O1 _ (fav off p.1) ⟨fun r => Q r p.2 r.ac⟩ trivial⟩ trivial := by
 simp only [evO]
 cases rx x s with
 | none => simp [w1_none, o1_none]
 | some p => obtain ⟨a, s1⟩ := p; simp only [o1_some]; rw [w1_map]
theorem w_fd (agg : Bool) (off n : Nat) (x : X) : @W1 (evO OO m (.fd agg off n x) s d) ⟨Q⟩ trivial ↔ @O1 _ (rxv x s) ⟨fun p => match p.1 with | .a cs => @O1 _ (sub cs off n) ⟨fun ds => @O1 _ (ofc agg ds) ⟨fun r => Q (.v r) p.2 .no⟩ trivial⟩ trivial | _ => False⟩ trivial := by
 simp only [evO]
 cases rxv x s with
 | none => simp [w1_none, o1_none]
 | some p =>
  obtain ⟨a, s1⟩ := p
  simp only [o1_some]
  cases a <;> simp only [w1_none]
  rename_i cs
  cases sub cs off n with
  | none => simp [w1_none, o1_none]
  | some ds => simp only [o1_some]; rw [w1_map]
theorem w_mi (t : TypeId) (x : X) : @W1 (evO OO m (.mi t x) s d) ⟨Q⟩ trivial ↔ @O1 _ (rxv x s) ⟨fun p => @O1 _ p.1.cp ⟨fun r => Q (.v (.ic t r)) p.2 .no⟩ trivial⟩ trivial := by
 simp only [evO]
 cases rxv x s with
 | none => simp [w1_none, o1_none]
 | some p => obtain ⟨a, s1⟩ := p; simp only [o1_some]; rw [w1_map]
theorem w_mf (f : FuncId) (xs : List X) : @W1 (evO OO m (.mf f xs) s d) ⟨Q⟩ trivial ↔ @O1 _ (rxs xs s) ⟨fun p => @O1 _ (D.cps p.1) ⟨fun r => Q (.v (.fn f r)) p.2 .no⟩ trivial⟩ trivial := by
 simp only [evO]
 cases rxs xs s with
 | none => simp [w1_none, o1_none]
 | some p => obtain ⟨a, s1⟩ := p; simp only [o1_some]; rw [w1_map]
theorem w_callp (f : FuncId) (xs : List X) : @W1 (evO OO m (.callp f xs) s d) ⟨Q⟩ trivial ↔ @O1 _ (rxs xs s) ⟨fun p => @O1 _ (callpv OO f p.1) ⟨fun r => Q (.v r) p.2 .no⟩ trivial⟩ trivial := by
 simp only [evO]
 cases rxs xs s with
 | none => simp [w1_none, o1_none]
 | some p => obtain ⟨a, s1⟩ := p; simp only [o1_some]; rw [w1_map]
theorem w_eqa (neg : Bool) (cs : List Ec) (x y : X) : @W1 (evO OO m (.eqa neg cs x y) s d) ⟨Q⟩ trivial ↔ @O1 _ (rxv x s) ⟨fun p => @O1 _ (rxv y p.2) ⟨fun q => match p.1, q.1 with | .a ds, .a es => @O1 _ (eqs cs ds es) ⟨fun t => Q (.v (.b (if neg then !t else t))) q.2 .no⟩ trivial | _, _ => False⟩ trivial⟩ trivial := by
 simp only [evO]
 cases rxv x s with
 | none => simp [w1_none, o1_none]
 | some p =>
  obtain ⟨a, s1⟩ := p
  simp only [o1_some]
  cases h2 : rxv y s1 with
  | none => cases a <;> simp [w1_none, o1_none, h2]
  | some q =>
   obtain ⟨b, s2⟩ := q
   simp only [o1_some]
   cases a <;> simp only [h2, w1_none]
   cases b <;> simp only [w1_none]
   rw [w1_map]
theorem w_bits (x : X) : @W1 (evO OO m (.bits x) s d) ⟨Q⟩ trivial ↔ @O1 _ (rxv x s) ⟨fun p => match p.1 with | .f .f64 n => Q (.v (.i .u64 n)) p.2 .no | _ => False⟩ trivial := by
 simp only [evO]
 cases rxv x s with
 | none => simp [w1_none, o1_none]
 | some p =>
  obtain ⟨a, s1⟩ := p
  simp only [o1_some]
  cases a <;> (try simp only [w1_none])
  rename_i k n; cases k <;> simp only [w1_none, w1_some]
theorem w_frbits (x : X) : @W1 (evO OO m (.frbits x) s d) ⟨Q⟩ trivial ↔ @O1 _ (rxv x s) ⟨fun p => match p.1 with | .i .u64 n => 0 ≤ n ∧ Q (.v (.f .f64 n.toNat)) p.2 .no | _ => False⟩ trivial := by
 simp only [evO]
 cases rxv x s with
 | none => simp [w1_none, o1_none]
 | some p =>
  obtain ⟨a, s1⟩ := p
  simp only [o1_some]
  cases a <;> (try simp only [w1_none])
  rename_i k n; cases k <;> (try simp only [w1_none])
  by_cases h : 0 ≤ n
  ·rw [if_pos h, w1_some]; simp [h]
  ·rw [if_neg h, w1_none]; simp [h]
theorem w_ta (t : TypeId) (x : X) : @W1 (evO OO m (.ta t x) s d) ⟨Q⟩ trivial ↔ @O1 _ (rxv x s) ⟨fun p => match p.1 with | .ic t' e => t = t' ∧ Q (.v e) p.2 .no | _ => False⟩ trivial := by
 simp only [evO]
 cases rxv x s with
 | none => simp [w1_none, o1_none]
 | some p =>
  obtain ⟨a, s1⟩ := p
  simp only [o1_some]
  cases a <;> (try simp only [w1_none])
  rename_i t' e
  by_cases h : t = t'
  ·rw [if_pos h, w1_some]; simp [h]
  ·rw [if_neg h, w1_none]; simp [h]
theorem w_inv (nm : String) (x : X) (xs : List X) : @W1 (evO OO m (.inv nm x xs) s d) ⟨Q⟩ trivial ↔ @O1 _ (rxv x s) ⟨fun q => match q.1 with
    | .ic t v => @O1 _ (m t nm) ⟨fun f => @O1 _ (rxs xs q.2) ⟨fun p => @O1 _ (OO.call f (v :: p.1) p.2.sg p.2.sg.length) ⟨fun r => Q (.v r.1) { p.2 with sg := r.2.1, lo := min p.2.lo r.2.2, fr := forget AM.Q.gl p.2.fr } (.cl (D.beqs (r.2.1.map .t) (p.2.sg.map .t) && decide (p.2.lo ≤ r.2.2)))⟩ trivial⟩ trivial⟩ trivial
    | _ => False⟩ trivial := by
 simp only [evO]
 cases rxv x s with
 | none => simp [w1_none, o1_none]
 | some q =>
  obtain ⟨a, s1⟩ := q
  simp only [o1_some]
  cases a <;> (try simp only [w1_none])
  rename_i t v
  cases m t nm with
  | none => simp [w1_none, o1_none]
  | some f =>
   simp only [o1_some]
   cases rxs xs s1 with
   | none => simp [w1_none, o1_none]
   | some p =>
    obtain ⟨ds, s1⟩ := p
    simp only [o1_some]
    rw [w1_map]
end
theorem w_pickb (OO : Or) (m : TypeId → String → Option FuncId) (s : St) (d : Option Nat) (Q : R → St → Ac → Prop) (c a b : X) : @W1 (evO OO m (.pick c a b) s d) ⟨Q⟩ trivial ↔ @O1 _ (rxv c s) ⟨fun p => match p.1 with | .b t => @BQ t ⟨@O1 _ (rxv a p.2) ⟨fun q => Q (.v q.1) q.2 .no⟩ trivial⟩ ⟨@O1 _ (rxv b p.2) ⟨fun q => Q (.v q.1) q.2 .no⟩ trivial⟩ trivial | _ => False⟩ trivial := w_pick OO m s d Q c a b
theorem fn_r (res n x s) : FnQ res n x (.r s) ↔ @O1 _ (resv res s) ⟨fun p => (if D.nr n (tup p.1) = true ∧ n ≤ p.2.lo then (tup p.1, p.2.sg.take n, p.2.lo) else (tup p.1, p.2.sg, p.2.lo)) = x⟩ trivial := by
 unfold FnQ fin
 simp only
 cases resv res s with
 | none => simp [O1]
 | some p =>
  obtain ⟨ds, s1⟩ := p
  simp only [O1, Option.some.injEq, exists_eq_left', Bool.and_eq_true, decide_eq_true_eq]
  split <;> simp
theorem fn_n (res n x s) : FnQ res n x (.n s) ↔ @O1 _ (resv res s) ⟨fun p => (if D.nr n (tup p.1) = true ∧ n ≤ p.2.lo then (tup p.1, p.2.sg.take n, p.2.lo) else (tup p.1, p.2.sg, p.2.lo)) = x⟩ trivial := fn_r res n x s
attribute [simp ↓] wc_skip wc_ret wc_exit wc_seq wc_blk wc_cond wc_reg wc_regd wg_nil wg_cons wo_nil wo_cons wo_guard wd_nil wd_cons wd_guard w_mv w_bin w_eq w_un w_cv w_ia w_sl w_ss w_ixs w_ixa w_app w_apps w_ms w_call w_callp w_callv w_ex w_len w_mx w_ld w_lda w_st w_pickb w_al w_ag w_bx w_bg w_bd w_bs w_nc w_fa w_fd w_mi w_mf w_eqa w_bits w_frbits w_ta w_inv
attribute [simp] w1_some w1_none cd_t gd_t gd_f gd_u cd_u bq_true bq_false sq_n sq_x sq_r bk_n bk_x bk_r o1_some o1_none o1_map o1_if_none o1_if o1_ite o1_iav_l bd_none bd_some o1_ssv o1_slv2 o1_slv3 rxo_none rxo_some o1_app_x o1_app_o o1_app_n at_some o1_iav_hd' o1_iav_hdr'
attribute [simp] fzR look drp keep forget rx rxv rxs St.put evG D.cp D.cps binv bini unv cvv resv tup fn_r fn_n AM.Q.dead AM.Q.gl AM.Q.bor AM.Q.ofk ini mxv R.fo D.fo D.fos R.fz D.fz D.fzs D.zz D.zzs okA Ac.ok R.ac AM.Q.ac R.acE Pl.rb Pl.re Pl.we stb stbs D.cells fillc fille ovr sub ofc fav ldp auM stp St.at St.setAt St.loAt lenv elems slk beqs_self D.nr D.nrs eq1 eqs rec_
theorem wc_ind {α : Type} (st : α → St) (μ : α → Nat) (P : α → Prop) {B : C} {Q : Rs → Prop}
    (h : ∀ a, P a → (∀ b, μ b < μ a → P b → @WC (.loop B) (st b) ⟨Q⟩ trivial) → @WC B (st a) ⟨fun r => @SqQ (.loop B) ⟨Q⟩ r trivial⟩ trivial) : ∀ a, P a → @WC (.loop B) (st a) ⟨Q⟩ trivial := by
 have : ∀ n a, μ a < n → P a → @WC (.loop B) (st a) ⟨Q⟩ trivial := by
  intro n
  induction n with
  | zero => intro a ha; omega
  | succ n ih => intro a ha hp; exact wc_loop (h a hp (fun b hb hpb => ih b (by omega) hpb))
 exact fun a hp => this _ a (Nat.lt_succ_self _) hp
theorem wrap64 {x : Int} (h : -9223372036854775808 ≤ x ∧ x ≤ 9223372036854775807) : IntKind.i64.wrap x = x := by
 simp [IntKind.wrap, IntKind.signed, IntKind.bits]; omega
end Go.AM

namespace Go.AM
theorem wrap_u64 (n : Int) : IntKind.u64.wrap n = n % 18446744073709551616 := by simp [IntKind.wrap, IntKind.bits, IntKind.signed]
theorem wrapu64 {n : Int} (h : 0 ≤ n ∧ n < 18446744073709551616) : IntKind.u64.wrap n = n := by rw [wrap_u64]; omega
theorem u64k : ∀ n : Int, 0 ≤ n → n < 2 ^ 64 → IntKind.u64.wrap n = n := fun n h0 h1 => wrapu64 ⟨h0, by simpa using h1⟩
theorem u64_and (a b : Nat) (ha : a < 18446744073709551616) (hb : b < 18446744073709551616) : bits .and .u64 a b = ((a &&& b : Nat) : Int) := (bits_nat .u64 64 (by decide) u64k a b (by simpa using ha) (by simpa using hb)).1
theorem u64_or (a b : Nat) (ha : a < 18446744073709551616) (hb : b < 18446744073709551616) : bits .or .u64 a b = ((a ||| b : Nat) : Int) := (bits_nat .u64 64 (by decide) u64k a b (by simpa using ha) (by simpa using hb)).2
theorem u64_not (b : Nat) (hb : b < 18446744073709551616) : bits .xor .u64 18446744073709551615 b = ((18446744073709551615 - b : Nat) : Int) := by
 show IntKind.u64.wrap ((BitVec.ofInt 64 18446744073709551615 ^^^ BitVec.ofInt 64 (b : Int) : BitVec 64).toNat : Int) = _
 have e : BitVec.ofInt 64 18446744073709551615 = BitVec.allOnes 64 := by decide
 have e2 : BitVec.ofInt 64 (b : Int) = BitVec.ofNat 64 b := by simp
 rw [e, e2, BitVec.allOnes_xor, BitVec.toNat_not, BitVec.toNat_ofNat, Nat.mod_eq_of_lt (by simpa using hb), wrapu64]
 ·omega
theorem bit63 (i : Nat) : Nat.testBit 9223372036854775808 i = decide (63 = i) := by
 have h : Nat.testBit (2 ^ 63) i = decide (63 = i) := Nat.testBit_two_pow ..
 simpa using h
theorem and_sign (b : Nat) (hb : b < 18446744073709551616) : b &&& 9223372036854775808 = if 9223372036854775808 ≤ b then 9223372036854775808 else 0 := by
 apply Nat.eq_of_testBit_eq
 intro i
 rw [Nat.testBit_and, bit63]
 by_cases hi : 63 = i
 ·subst hi
  rw [Nat.testBit_eq_decide_div_mod_eq]
  split
  ·have : b / 2 ^ 63 = 1 := by omega
   simp [this, bit63]
  ·have : b / 2 ^ 63 = 0 := by omega
   simp [this]
 ·split <;> simp [hi, bit63]
theorem or_sign (b : Nat) (hb : b < 9223372036854775808) : b ||| 9223372036854775808 = b + 9223372036854775808 := by
 have := Nat.two_pow_add_eq_or_of_lt (i := 63) (b := b) (by simpa using hb) 1
 rw [Nat.or_comm, Nat.add_comm]
 simpa using this.symm
theorem u64_andnot_sign (b : Nat) (hb : b < 18446744073709551616) : bits .andNot .u64 b 9223372036854775808 = ((b % 9223372036854775808 : Nat) : Int) := by
 show IntKind.u64.wrap ((BitVec.ofInt 64 (b : Int) &&& ~~~ BitVec.ofInt 64 9223372036854775808 : BitVec 64).toNat : Int) = _
 have e : ~~~ (BitVec.ofInt 64 9223372036854775808) = BitVec.ofNat 64 9223372036854775807 := by decide
 have e2 : BitVec.ofInt 64 (b : Int) = BitVec.ofNat 64 b := by simp
 rw [e, e2, BitVec.toNat_and, BitVec.toNat_ofNat, BitVec.toNat_ofNat, Nat.mod_eq_of_lt (by simpa using hb)]
 rw [show 9223372036854775807 % 2 ^ 64 = 2 ^ 63 - 1 by decide, Nat.and_two_pow_sub_one_eq_mod, wrapu64]
 omega
theorem wc_up {B : C} {Q : Rs → Prop} (n : Nat) (st : Nat → St) (P : Nat → Prop)
    (h : ∀ i, i < n → P i → (P (i + 1) → @WC (.loop B) (st (i + 1)) ⟨Q⟩ trivial) → @WC B (st i) ⟨fun r => @SqQ (.loop B) ⟨Q⟩ r trivial⟩ trivial)
    (he : P n → @WC B (st n) ⟨fun r => @SqQ (.loop B) ⟨Q⟩ r trivial⟩ trivial) : ∀ i, i ≤ n → P i → @WC (.loop B) (st i) ⟨Q⟩ trivial := by
 intro i hi hp
 refine wc_ind st (fun i => n - i) (fun i => i ≤ n ∧ P i) ?_ i ⟨hi, hp⟩
 rintro i ⟨h1, h2⟩ ih
 rcases Nat.lt_or_eq_of_le h1 with h3 | h3
 ·exact h i h3 h2 (fun hp => ih (i + 1) (by omega) ⟨by omega, hp⟩)
 ·subst h3; exact he h2
theorem wc_list {α β : Type} {B : C} {Q : Rs → Prop} (l : List α) (st : Nat → β → St) (P : List α → β → Prop)
    (h : ∀ i x r b, l[i]? = some x → i < l.length → P (x :: r) b → (∀ b', P r b' → @WC (.loop B) (st (i + 1) b') ⟨Q⟩ trivial) → @WC B (st i b) ⟨fun r => @SqQ (.loop B) ⟨Q⟩ r trivial⟩ trivial)
    (he : ∀ b, P [] b → @WC B (st l.length b) ⟨fun r => @SqQ (.loop B) ⟨Q⟩ r trivial⟩ trivial) : ∀ b, P l b → @WC (.loop B) (st 0 b) ⟨Q⟩ trivial := by
 intro b hb
 refine wc_ind (fun a : Nat × β => st a.1 a.2) (fun a => l.length - a.1) (fun a => a.1 ≤ l.length ∧ P (l.drop a.1) a.2) ?_ (0, b) ⟨by simp, by simpa using hb⟩
 rintro ⟨i, b⟩ ⟨h1, h2⟩ ih
 simp only at h1 h2 ih ⊢
 rcases Nat.lt_or_eq_of_le h1 with h3 | h3
 ·rw [List.drop_eq_getElem_cons h3] at h2
  exact h i l[i] _ b (List.getElem?_eq_getElem h3) h3 h2 (fun b' hb' => ih (i + 1, b') (by simp; omega) ⟨h3, hb'⟩)
 ·subst h3; rw [List.drop_length] at h2; exact he b h2
theorem mem_of_get {α : Type} {l : List α} {i : Nat} {x : α} (h : l[i]? = some x) : x ∈ l := List.mem_of_getElem? h
theorem order_self (b : Nat) (hb : b < 18446744073709551616) : FloatKind.f64.format.order b b = if b % 9223372036854775808 > 9218868437227405312 then none else some .eq := by
 have hs : FloatKind.f64.format.signWeight = 9223372036854775808 := by decide
 have hi : FloatKind.f64.format.infRung = 9218868437227405312 := by decide
 unfold Ieee.Format.order Ieee.Format.read
 simp only [hs, hi]
 by_cases h1 : b % 9223372036854775808 < FloatKind.f64.format.binade
 ·have : FloatKind.f64.format.binade ≤ 9218868437227405312 := by decide
  simp only [h1, if_true, Ieee.Datum.order]
  rw [if_neg (by omega)]; simp
 ·simp only [h1, if_false]
  by_cases h2 : b % 9223372036854775808 < 9218868437227405312
  ·simp only [h2, if_true, Ieee.Datum.order]
   rw [if_neg (by omega)]; simp
  ·simp only [h2, if_false]
   by_cases h3 : b % 9223372036854775808 = 9218868437227405312
   ·simp only [h3, if_true, Ieee.Datum.order]
    simp
   ·simp only [h3, if_false, Ieee.Datum.order]
    rw [if_pos (by omega)]
end Go.AM

namespace Go.AM
def canon (b : Nat) : Nat := if b % 9223372036854775808 > 9218868437227405312 then 9221120237041090560 else b
def keyC (b : Nat) : Nat := if 9223372036854775808 ≤ b then 18446744073709551615 - b else b + 9223372036854775808
def key (b : Nat) : Nat := keyC (canon b)
theorem canon_lt {b : Nat} (h : b < 18446744073709551616) : canon b < 18446744073709551616 := by unfold canon; split <;> omega
theorem keyC_lt {b : Nat} (h : b < 18446744073709551616) : keyC b < 18446744073709551616 := by unfold keyC; split <;> omega
theorem key_lt {b : Nat} (h : b < 18446744073709551616) : key b < 18446744073709551616 := keyC_lt (canon_lt h)
theorem canon_canon (b : Nat) : canon (canon b) = canon b := by unfold canon; split <;> simp_all
theorem keyC_inj {a b : Nat} (ha : a < 18446744073709551616) (hb : b < 18446744073709551616) (h : keyC a = keyC b) : a = b := by
 unfold keyC at h; split at h <;> split at h <;> omega
def cmpN (a b : Nat) : Int := if a < b then -1 else if a > b then 1 else 0
theorem canon_nan {b : Nat} (h : 9218868437227405312 < b % 9223372036854775808) : canon b = 9221120237041090560 := if_pos h
theorem canon_num {b : Nat} (h : b % 9223372036854775808 ≤ 9218868437227405312) : canon b = b := if_neg (by omega)
theorem c_real_Canon (b : Nat) (hb : b < 18446744073709551616) (sg) : LL.call n_real_Canon [.f .f64 b] sg sg.length = some (.f .f64 (canon b), sg, sg.length) := by
 refine wp_call e_real_Canon rfl ?_
 simp [F_real_Canon, binf, order_self b hb]
 refine bq_i (fun h => ?_) (fun h => ?_) <;> simp at h
 ·simp [canon_nan h]
 ·simp [canon_num h]
theorem c_real_Key (b : Nat) (hb : b < 18446744073709551616) (sg) : LL.call n_real_Key [.f .f64 b] sg sg.length = some (.i .u64 (key b), sg, sg.length) := by
 refine wp_call e_real_Key rfl ?_
 have hc := canon_lt hb
 have e1 := u64_and (canon b) 9223372036854775808 hc (by omega)
 have e2 := u64_or (canon b) 9223372036854775808 hc (by omega)
 have e3 := u64_not (canon b) hc
 rw [and_sign _ hc] at e1
 simp at e1 e2
 by_cases h : 9223372036854775808 ≤ canon b
 ·rw [if_pos h] at e1
  simp [F_real_Key, c_real_Canon b hb, e1, IntKind.signed, IntKind.max, IntKind.bits, e3, key, keyC, h]
 ·rw [if_neg h] at e1
  rw [or_sign _ (by omega)] at e2
  simp [F_real_Key, c_real_Canon b hb, e1, e2, key, keyC, h]
theorem c_real_Cmp (a b : Nat) (ha : a < 18446744073709551616) (hb : b < 18446744073709551616) (sg) : LL.call n_real_Cmp [.f .f64 a, .f .f64 b] sg sg.length = some (.i .i64 (cmpN (key a) (key b)), sg, sg.length) := by
 refine wp_call e_real_Cmp rfl ?_
 simp [F_real_Cmp, c_real_Key a ha, c_real_Key b hb]
 repeat' (refine bq_i (fun h => ?_) (fun h => ?_) <;> (have h' := h) <;> (try simp at h') <;> simp [h, h'])
 all_goals (simp [cmpN, *] <;> omega)
theorem c_ref03_Bits (b : Nat) (hb : b < 18446744073709551616) (sg) : LL.call n_c_ref03_Bits [.i .u64 b] sg sg.length = some (.i .u64 (canon b), sg, sg.length) := by
 refine wp_call e_c_ref03_Bits rfl ?_
 have e : (b : Int).tmod 9223372036854775808 = ((b % 9223372036854775808 : Nat) : Int) := by rw [Int.tmod_eq_emod_of_nonneg (by omega)]; simp
 simp [F_c_ref03_Bits, e]
 refine bq_i (fun h => ?_) (fun h => ?_) <;> simp at h
 ·simp [canon_nan (b := b) (by omega)]
 ·simp [canon_num (b := b) (by omega)]
theorem c_ref03_Key (b : Nat) (hb : b < 18446744073709551616) (sg) : LL.call n_c_ref03_Key [.i .u64 b] sg sg.length = some (.i .u64 (key b), sg, sg.length) := by
 refine wp_call e_c_ref03_Key rfl ?_
 have hc := canon_lt hb
 simp [F_c_ref03_Key, c_ref03_Bits b hb]
 refine bq_i (fun h => ?_) (fun h => ?_) <;> simp at h <;> simp
 ·rw [wrapu64 (by omega)]; simp [key, keyC]; rw [if_pos (by omega)]; omega
 ·rw [wrapu64 (by omega)]; simp [key, keyC]; rw [if_neg (by omega)]; omega
theorem c_ref03_Cmp (a b : Nat) (ha : a < 18446744073709551616) (hb : b < 18446744073709551616) (sg) : LL.call n_c_ref03_Cmp [.i .u64 a, .i .u64 b] sg sg.length = some (.i .i64 (cmpN (key a) (key b)), sg, sg.length) := by
 refine wp_call e_c_ref03_Cmp rfl ?_
 simp [F_c_ref03_Cmp, c_ref03_Key a ha, c_ref03_Key b hb]
 repeat' (refine bq_i (fun h => ?_) (fun h => ?_) <;> (try simp at h) <;> simp [h, c_ref03_Key a ha, c_ref03_Key b hb])
 all_goals (simp [cmpN, *] <;> omega)
theorem c_law03_F (b : Nat) (sg) : LL.call n_c_law03_F [.i .u64 b] sg sg.length = some (.f .f64 b, sg, sg.length) := by
 refine wp_call e_c_law03_F rfl ?_
 simp [F_c_law03_F]
end Go.AM

namespace Go.AM
class Flat {α : Type} (e : α → D) : Prop where
 fz : ∀ x, D.fz (e x) = e x
 zz : ∀ x, D.zz (e x) = e x
 nr : ∀ n x, D.nr n (e x) = true
theorem fzs_flat {α : Type} (e : α → D) [h : Flat e] : ∀ l : List α, D.fzs (l.map e) = l.map e
 | [] => rfl
 | x :: l => by simp only [List.map_cons, D.fzs, h.fz, fzs_flat e l]
theorem zzs_flat {α : Type} (e : α → D) [h : Flat e] : ∀ l : List α, D.zzs (l.map e) = l.map e
 | [] => rfl
 | x :: l => by simp only [List.map_cons, D.zzs, h.zz, zzs_flat e l]
theorem nrs_flat {α : Type} (e : α → D) [h : Flat e] (n : Nat) : ∀ l : List α, D.nrs n (l.map e) = true
 | [] => rfl
 | x :: l => by simp only [List.map_cons, D.nrs, h.nr, nrs_flat e n l, Bool.and_self]
attribute [simp] fzs_flat zzs_flat nrs_flat
theorem fzs_app : ∀ xs ys : List D, D.fzs (xs ++ ys) = D.fzs xs ++ D.fzs ys
 | [], ys => rfl
 | x :: xs, ys => by simp [D.fzs, fzs_app xs ys]
theorem zzs_app : ∀ xs ys : List D, D.zzs (xs ++ ys) = D.zzs xs ++ D.zzs ys
 | [], ys => rfl
 | x :: xs, ys => by simp [D.zzs, zzs_app xs ys]
theorem nrs_app (n : Nat) : ∀ xs ys : List D, D.nrs n (xs ++ ys) = (D.nrs n xs && D.nrs n ys)
 | [], ys => by simp [D.nrs]
 | x :: xs, ys => by simp [D.nrs, nrs_app n xs ys, Bool.and_assoc]
theorem fzs_take : ∀ (n : Nat) (xs : List D), D.fzs (xs.take n) = (D.fzs xs).take n
 | 0, _ => rfl
 | n + 1, [] => rfl
 | n + 1, x :: xs => by simp [D.fzs, fzs_take n xs]
theorem fzs_drop : ∀ (n : Nat) (xs : List D), D.fzs (xs.drop n) = (D.fzs xs).drop n
 | 0, _ => rfl
 | n + 1, [] => rfl
 | n + 1, x :: xs => by simp [D.fzs, fzs_drop n xs]
theorem zzs_take : ∀ (n : Nat) (xs : List D), D.zzs (xs.take n) = (D.zzs xs).take n
 | 0, _ => rfl
 | n + 1, [] => rfl
 | n + 1, x :: xs => by simp [D.zzs, zzs_take n xs]
theorem zzs_drop : ∀ (n : Nat) (xs : List D), D.zzs (xs.drop n) = (D.zzs xs).drop n
 | 0, _ => rfl
 | n + 1, [] => rfl
 | n + 1, x :: xs => by simp [D.zzs, zzs_drop n xs]
theorem fzs_set : ∀ (n : Nat) (d : D) (xs : List D), D.fzs (xs.set n d) = (D.fzs xs).set n d.fz
 | 0, d, [] => rfl
 | 0, d, x :: xs => rfl
 | n + 1, d, [] => rfl
 | n + 1, d, x :: xs => by simp [D.fzs, fzs_set n d xs]
theorem zzs_set : ∀ (n : Nat) (d : D) (xs : List D), D.zzs (xs.set n d) = (D.zzs xs).set n d.zz
 | 0, d, [] => rfl
 | 0, d, x :: xs => rfl
 | n + 1, d, [] => rfl
 | n + 1, d, x :: xs => by simp [D.zzs, zzs_set n d xs]
attribute [simp] fzs_set zzs_set
attribute [simp] fzs_app zzs_app nrs_app fzs_take fzs_drop zzs_take zzs_drop
instance (k : IntKind) : Flat (D.i k) := ⟨fun _ => rfl, fun _ => rfl, fun _ _ => rfl⟩
instance : Flat D.s := ⟨fun _ => rfl, fun _ => rfl, fun _ _ => rfl⟩
instance : Flat D.b := ⟨fun _ => rfl, fun _ => rfl, fun _ _ => rfl⟩
def eL {α : Type} (sz : Nat) (e : α → D) (l : List α) : D := .l .z sz (l.map e)
instance {α : Type} (sz : Nat) (e : α → D) [h : Flat e] : Flat (eL sz e) := ⟨fun _ => rfl, fun l => by simp [eL], fun n l => by simp [eL]⟩
structure It where
 p : Nat
 v : Int
 deriving DecidableEq, Inhabited
def It.ok (x : It) : Prop := x.p < 18446744073709551616 ∧ -9223372036854775808 ≤ x.v ∧ x.v ≤ 9223372036854775807
def It.canon (x : It) : It := ⟨AM.canon x.p, x.v⟩
def eI (x : It) : D := .a [.f .f64 x.p, .i .i64 x.v]
def eR (x : It) : D := .a [.i .u64 x.p, .i .i64 x.v]
instance : Flat eI := ⟨fun _ => rfl, fun _ => rfl, fun _ _ => rfl⟩
instance : Flat eR := ⟨fun _ => rfl, fun _ => rfl, fun _ _ => rfl⟩
attribute [simp] eI eR
def cmpV (a b : Int) : Int := if a < b then -1 else if a > b then 1 else 0
def cmpI (x y : It) : Int := if cmpN (key x.p) (key y.p) ≠ 0 then cmpN (key x.p) (key y.p) else cmpV x.v y.v
theorem c_pile_Item_Canon (x : It) (h : x.ok) (sg) : LL.call n_pile_Item_Canon [eI x] sg sg.length = some (eI x.canon, sg, sg.length) := by
 refine wp_call e_pile_Item_Canon rfl ?_
 simp [F_pile_Item_Canon, c_real_Canon x.p h.1, It.canon]
theorem c_pile_Item_Cmp (x y : It) (hx : x.ok) (hy : y.ok) (sg) : LL.call n_pile_Item_Cmp [eI x, eI y] sg sg.length = some (.i .i64 (cmpI x y), sg, sg.length) := by
 refine wp_call e_pile_Item_Cmp rfl ?_
 simp [F_pile_Item_Cmp, c_real_Cmp x.p y.p hx.1 hy.1]
 repeat' (refine bq_i (fun h => ?_) (fun h => ?_) <;> (have h' := h) <;> (try simp at h') <;> simp [h, h'])
 all_goals simp [cmpI, cmpV, *]
 all_goals omega
theorem c_law04_Own (x : It) (sg) : LL.call n_c_law04_Own [eR x] sg sg.length = some (eI x, sg, sg.length) := by
 refine wp_call e_c_law04_Own rfl ?_
 simp [F_c_law04_Own, c_law03_F]
theorem c_law04_Bits (x : It) (h : x.ok) (sg) : LL.call n_c_law04_Bits [eI x] sg sg.length = some (.i .u64 (canon x.p), sg, sg.length) := by
 refine wp_call e_c_law04_Bits rfl ?_
 simp [F_c_law04_Bits, c_ref03_Bits x.p h.1]
theorem c_ref04_Cmp (x y : It) (hx : x.ok) (hy : y.ok) (sg) : LL.call n_c_ref04_Cmp [eR x, eR y] sg sg.length = some (.i .i64 (cmpI x y), sg, sg.length) := by
 refine wp_call e_c_ref04_Cmp rfl ?_
 simp [F_c_ref04_Cmp, c_ref03_Cmp x.p y.p hx.1 hy.1]
 repeat' (refine bq_i (fun h => ?_) (fun h => ?_) <;> (have h' := h) <;> (try simp at h') <;> simp [h, h'])
 all_goals simp [cmpI, cmpV, *]
 all_goals omega
end Go.AM

namespace Go.AM
def hp (h : List It) : List D := [.l .x 2 (h.map eI)]
def swp (h : List It) (i j : Nat) : List It := (h.set i h[j]!).set j h[i]!
theorem c_items_Len {g : Nat} {h : List It} {sg : List (List D)} (hg : sg[g]? = some (hp h)) : LL.call n_pile_items_Len_q [.p g 0] sg sg.length = some (.i .i64 h.length, sg, sg.length) := by
 refine wp_callq (d0 := .l .x 2 (h.map eI)) e_pile_items_Len_q rfl hg rfl ?_
 simp [F_pile_items_Len_q, hg, hp, St.at, lenv]
theorem c_items_Less {g : Nat} {h : List It} {sg : List (List D)} (hg : sg[g]? = some (hp h)) (i j : Nat) (hi : i < h.length) (hj : j < h.length) (h1 : h[i].ok) (h2 : h[j].ok) :
    LL.call n_pile_items_Less_q [.p g 0, .i .i64 i, .i .i64 j] sg sg.length = some (.b (decide (cmpI h[i] h[j] < 0)), sg, sg.length) := by
 refine wp_callq (d0 := .l .x 2 (h.map eI)) e_pile_items_Less_q rfl hg rfl ?_
 have e := c_pile_Item_Cmp h[i] h[j] h1 h2 sg
 simp at e
 simp [F_pile_items_Less_q, hg, hp, St.at, hi, hj, e]
theorem c_items_Swap {g : Nat} {h : List It} {sg : List (List D)} (hg : sg[g]? = some (hp h)) (i j : Nat) (hi : i < h.length) (hj : j < h.length) :
    LL.call n_pile_items_Swap_q [.p g 0, .i .i64 i, .i .i64 j] sg sg.length = some (.t [], sg.set g (hp (swp h i j)), sg.length) := by
 refine wp_callq (d0 := .l .x 2 (h.map eI)) e_pile_items_Swap_q rfl hg rfl ?_
 have hlt : g < sg.length := by rw [List.getElem?_eq_some_iff] at hg; exact hg.1
 have hg2 : sg[g] = hp h := by rw [List.getElem?_eq_some_iff] at hg; exact hg.2
 have s3 : ((h.map eI).set i (.a [.f .f64 h[j].p, .i .i64 h[j].v]))[j]'(by simpa using hj) = .a [.f .f64 h[j].p, .i .i64 h[j].v] := by rw [List.getElem_set]; split <;> simp
 simp [F_pile_items_Swap_q, hg, s3, hg2, hp, St.at, hi, hj, hlt, swp, List.getElem?_set, St.setAt]
 rw [List.take_of_length_le (by simp)]
theorem m_Len : EE.meth t_pile_items_u "Len" = some n_pile_items_Len_q := by kernel_rfl
theorem m_Less : EE.meth t_pile_items_u "Less" = some n_pile_items_Less_q := by kernel_rfl
theorem m_Swap : EE.meth t_pile_items_u "Swap" = some n_pile_items_Swap_q := by kernel_rfl
theorem m_Pop : EE.meth t_pile_items_u "Pop" = some n_pile_items_Pop := by kernel_rfl
attribute [simp] m_Len m_Less m_Swap m_Pop
def dn (h : List It) (i n : Nat) : List It × Nat :=
 if hlt : 2 * i + 1 < n then
  if 2 * i + 2 < n ∧ cmpI h[2 * i + 2]! h[2 * i + 1]! < 0 then
   if cmpI h[2 * i + 2]! h[i]! < 0 then dn (swp h i (2 * i + 2)) (2 * i + 2) n else (h, i)
  else
   if cmpI h[2 * i + 1]! h[i]! < 0 then dn (swp h i (2 * i + 1)) (2 * i + 1) n else (h, i)
 else (h, i)
termination_by n - i
theorem swp_len (h : List It) (i j : Nat) : (swp h i j).length = h.length := by simp [swp]
theorem swp_mem {h : List It} {i j : Nat} (hi : i < h.length) (hj : j < h.length) {x : It} (hx : x ∈ swp h i j) : x ∈ h := by
 unfold swp at hx
 rcases List.mem_or_eq_of_mem_set hx with hx | rfl
 ·rcases List.mem_or_eq_of_mem_set hx with hx | rfl
  ·exact hx
  ·rw [getElem!_pos h j hj]; exact List.getElem_mem hj
 ·rw [getElem!_pos h i hi]; exact List.getElem_mem hi
theorem heap_down {g : Nat} {h : List It} {sg : List (List D)} (hg : g < sg.length) (i n : Nat) (hn : n ≤ h.length) (hi : i < 1000000000000) (hl : h.length < 1000000000000) (hok : ∀ x ∈ h, x.ok) :
    LL.call n_container_heap_down [.ic t_pile_items_u (.p g 0), .i .i64 i, .i .i64 n] (sg.set g (hp h)) (sg.set g (hp h)).length = some (.b (decide ((dn h i n).2 > i)), sg.set g (hp (dn h i n).1), (sg.set g (hp h)).length) := by
 generalize hr : dn h i n = r
 refine wp_call e_container_heap_down rfl ?_
 simp [F_container_heap_down]
 refine wc_ind (fun a : List It × Nat => ⟨[(0, .v (.ic t_pile_items_u (.p g 0))), (1, .v (.i .i64 i)), (2, .v (.i .i64 n)), (7, .v (.i .i64 a.2))], [], sg.set g (hp a.1), sg.length⟩) (fun a => n - a.2) (fun a => dn a.1 a.2 n = r ∧ a.1.length = h.length ∧ (∀ x ∈ a.1, x.ok) ∧ a.2 < 1000000000000) ?_ (h, i) ⟨hr, rfl, hok, hi⟩
 rintro ⟨h', i'⟩ ⟨p1, p2, p3, p4⟩ ih
 simp only at p1 p2 p3 p4 ih
 obtain ⟨q, hq⟩ : ∃ q, q = 2 * i' + 1 := ⟨_, rfl⟩
 obtain ⟨q1, hq1⟩ : ∃ q, q = 2 * i' + 2 := ⟨_, rfl⟩
 have w1 : IntKind.i64.wrap (IntKind.i64.wrap (2 * i') + 1) = (q : Int) := by
  have w0 : IntKind.i64.wrap (2 * (i' : Int)) = 2 * i' := wrap64 (by omega)
  rw [w0, wrap64 (by omega)]; omega
 have w2 : IntKind.i64.wrap ((q : Int) + 1) = (q1 : Int) := by rw [wrap64 (by omega)]; omega
 have hge : (sg.set g (hp h'))[g]? = some (hp h') := by simp [hg]
 simp [w1]
 have hi' : ∀ x ∈ h', x.ok := p3
 have gok : ∀ k (hk : k < h'.length), h'[k].ok := fun k hk => p3 _ (List.getElem_mem hk)
 refine bq_i (fun c1 => ?_) (fun c1 => ?_) <;> (have c1' := c1) <;> simp at c1'
 ·rw [dn, dif_neg (by omega)] at p1
  subst p1
  simp [c1]
  exact List.take_of_length_le (by simp)
 ·have hq2 : q < h'.length := by omega
  have hi2 : i' < h'.length := by omega
  simp [c1]
  refine bq_i (fun c2 => ?_) (fun c2 => ?_) <;> (have c2' := c2) <;> simp at c2'
  ·omega
  rw [dn, dif_pos (by omega), ← hq1, ← hq] at p1
  simp [c2, w2]
  refine bq_i (fun c3 => ?_) (fun c3 => ?_) <;> (have c3' := c3) <;> simp at c3'
  ·have hq3 : q1 < h'.length := by omega
   have L1 := c_items_Less hge q1 q hq3 hq2 (gok _ hq3) (gok _ hq2)
   simp at L1
   simp [c3, L1]
   refine bq_i (fun c4 => ?_) (fun c4 => ?_) <;> (have c4' := c4) <;> simp at c4'
   ·have L2 := c_items_Less hge q1 i' hq3 hi2 (gok _ hq3) (gok _ hi2)
    have S1 := c_items_Swap hge i' q1 hi2 hq3
    simp at L2 S1
    rw [if_pos ⟨by omega, by rw [getElem!_pos h' q1 hq3, getElem!_pos h' q hq2]; exact c4'⟩, getElem!_pos h' q1 hq3, getElem!_pos h' i' hi2] at p1
    simp [c4, L2]
    refine bq_i (fun c5 => ?_) (fun c5 => ?_) <;> (have c5' := c5) <;> simp at c5'
    ·rw [if_neg (by omega)] at p1
     subst p1
     simp [c5]
     exact List.take_of_length_le (by simp)
    ·rw [if_pos (by omega)] at p1
     simp [c5, S1]
     have := ih (swp h' i' q1, q1) (by simp; omega) ⟨p1, by rw [swp_len]; exact p2, fun x hx => p3 x (swp_mem hi2 hq3 hx), by simp; omega⟩
     simpa using this
   ·have L2 := c_items_Less hge q i' hq2 hi2 (gok _ hq2) (gok _ hi2)
    have S1 := c_items_Swap hge i' q hi2 hq2
    simp at L2 S1
    rw [if_neg (by rw [getElem!_pos h' q1 hq3, getElem!_pos h' q hq2]; omega), getElem!_pos h' q hq2, getElem!_pos h' i' hi2] at p1
    simp [c4, L2]
    refine bq_i (fun c5 => ?_) (fun c5 => ?_) <;> (have c5' := c5) <;> simp at c5'
    ·rw [if_neg (by omega)] at p1
     subst p1
     simp [c5]
     exact List.take_of_length_le (by simp)
    ·rw [if_pos (by omega)] at p1
     simp [c5, S1]
     have := ih (swp h' i' q, q) (by simp; omega) ⟨p1, by rw [swp_len]; exact p2, fun x hx => p3 x (swp_mem hi2 hq2 hx), by simp; omega⟩
     simpa using this
  ·have L1 := c_items_Less hge q i' hq2 hi2 (gok _ hq2) (gok _ hi2)
   have S1 := c_items_Swap hge i' q hi2 hq2
   simp at L1 S1
   rw [if_neg (by omega), getElem!_pos h' q hq2, getElem!_pos h' i' hi2] at p1
   simp [c3, L1]
   refine bq_i (fun c5 => ?_) (fun c5 => ?_) <;> (have c5' := c5) <;> simp at c5'
   ·rw [if_neg (by omega)] at p1
    subst p1
    simp [c5]
    exact List.take_of_length_le (by simp)
   ·rw [if_pos (by omega)] at p1
    simp [c5, S1]
    have := ih (swp h' i' q, q) (by simp; omega) ⟨p1, by rw [swp_len]; exact p2, fun x hx => p3 x (swp_mem hi2 hq2 hx), by simp; omega⟩
    simpa using this
end Go.AM

namespace Go.AM
theorem swp_perm {h : List It} {i j : Nat} (hi : i < h.length) (hj : j < h.length) : (swp h i j).Perm h := by
 unfold swp
 rw [getElem!_pos h i hi, getElem!_pos h j hj]
 exact List.set_set_perm hi hj
theorem dn_perm : ∀ (h : List It) (i n : Nat), n ≤ h.length → (dn h i n).1.Perm h := by
 intro h i n hn
 fun_induction dn h i n with
 | case1 h i h1 h2 h3 ih => exact (ih (by rw [swp_len]; exact hn)).trans (swp_perm (by omega) (by omega))
 | case2 h i h1 h2 h3 => exact .refl _
 | case3 h i h1 h2 h3 ih => exact (ih (by rw [swp_len]; exact hn)).trans (swp_perm (by omega) (by omega))
 | case4 h i h1 h2 h3 => exact .refl _
 | case5 h i h1 => exact .refl _
theorem dn_len (h : List It) (i n : Nat) (hn : n ≤ h.length) : (dn h i n).1.length = h.length := (dn_perm h i n hn).length_eq
def hini (h : List It) : Nat → List It
 | 0 => h
 | k + 1 => hini (dn h k h.length).1 k
theorem hini_perm : ∀ (k : Nat) (h : List It), (hini h k).Perm h
 | 0, h => .refl _
 | k + 1, h => (hini_perm k _).trans (dn_perm h k h.length (Nat.le_refl _))
theorem heap_Init {g : Nat} {h : List It} {sg : List (List D)} (hg : g < sg.length) (hl : h.length < 1000000000000) (hok : ∀ x ∈ h, x.ok) :
    LL.call n_container_heap_Init [.ic t_pile_items_u (.p g 0)] (sg.set g (hp h)) (sg.set g (hp h)).length = some (.t [], sg.set g (hp (hini h (h.length / 2))), (sg.set g (hp h)).length) := by
 generalize hr : hini h (h.length / 2) = r
 refine wp_call e_container_heap_Init rfl ?_
 have hge : (sg.set g (hp h))[g]? = some (hp h) := by simp [hg]
 have L0 := c_items_Len hge
 simp at L0
 have w1 : IntKind.i64.wrap (IntKind.i64.wrap ((h.length : Int) / 2) - 1) = ((h.length / 2 : Nat) : Int) - 1 := by
  rw [wrap64 (x := (h.length : Int) / 2) (by omega), wrap64 (by omega)]; omega
 simp [F_container_heap_Init, L0, w1]
 refine wc_ind (fun a : List It × Nat => ⟨[(0, .v (.ic t_pile_items_u (.p g 0))), (2, .v (.i .i64 h.length)), (3, .v (.i .i64 (a.2 - 1)))], [], sg.set g (hp a.1), sg.length⟩) (fun a => a.2) (fun a => hini a.1 a.2 = r ∧ a.1.length = h.length ∧ (∀ x ∈ a.1, x.ok) ∧ a.2 ≤ h.length) ?_ (h, h.length / 2) ⟨hr, rfl, hok, by simp; omega⟩
 rintro ⟨h', k⟩ ⟨p1, p2, p3, p4⟩ ih
 simp only at p1 p2 p3 p4 ih
 simp
 cases k with
 | zero =>
  subst p1
  refine bq_i (fun c1 => ?_) (fun c1 => ?_) <;> (have c1' := c1) <;> simp at c1'
  simp [c1, hini]
  exact List.take_of_length_le (by simp)
 | succ k =>
  have w2 : ((k + 1 : Nat) : Int) - 1 = k := by omega
  have w3 : IntKind.i64.wrap ((k : Int) - 1) = k - 1 := wrap64 (by omega)
  refine bq_i (fun c1 => ?_) (fun c1 => ?_) <;> (have c1' := c1) <;> simp at c1'
  ·have D1 := heap_down hg k h.length (by omega) (by omega) (by omega) p3
   simp at D1
   simp [c1, w2, D1, w3]
   rw [hini, p2] at p1
   have := ih ((dn h' k h.length).1, k) (by simp) ⟨p1, by rw [dn_len _ _ _ (by omega)]; exact p2, fun x hx => p3 x ((dn_perm _ _ _ (by omega)).mem_iff.1 hx), by simp; omega⟩
   simpa using this
  ·omega
def popH (h : List It) : It × List It := ((dn (swp h 0 (h.length - 1)) 0 (h.length - 1)).1[h.length - 1]!, (dn (swp h 0 (h.length - 1)) 0 (h.length - 1)).1.take (h.length - 1))
theorem items_Pop {g : Nat} {h : List It} {sg : List (List D)} (hg : g < sg.length) (h0 : h ≠ []) (hl : h.length < 1000000000000) :
    LL.call n_pile_items_Pop [.p g 0] (sg.set g (hp h)) (sg.set g (hp h)).length = some (.ic t_pile_Item (eI h[h.length - 1]!), sg.set g (hp (h.take (h.length - 1))), (sg.set g (hp h)).length) := by
 have hpos : 0 < h.length := List.length_pos_iff.2 h0
 have hn : ((h.length : Int) - 1) = ((h.length - 1 : Nat) : Int) := by omega
 have w1 : IntKind.i64.wrap ((h.length : Int) - 1) = ((h.length - 1 : Nat) : Int) := by rw [wrap64 (by omega)]; omega
 have hlt : h.length - 1 < h.length := by omega
 refine wp_call e_pile_items_Pop rfl ?_
 have hnr : D.nrs 0 ((h.map eI).take (h.length - 1)) = true := by rw [← List.map_take]; exact nrs_flat eI 0 _
 simp [F_pile_items_Pop, hg, hp, w1, St.at, hlt, h0, hnr]
 exact List.take_of_length_le (by simp)
theorem heap_Pop {g : Nat} {h : List It} {sg : List (List D)} (hg : g < sg.length) (h0 : h ≠ []) (hl : h.length < 1000000000000) (hok : ∀ x ∈ h, x.ok) :
    LL.call n_container_heap_Pop [.ic t_pile_items_u (.p g 0)] (sg.set g (hp h)) (sg.set g (hp h)).length = some (.ic t_pile_Item (eI (popH h).1), sg.set g (hp (popH h).2), (sg.set g (hp h)).length) := by
 have hpos : 0 < h.length := List.length_pos_iff.2 h0
 have w1 : IntKind.i64.wrap ((h.length : Int) - 1) = ((h.length - 1 : Nat) : Int) := by rw [wrap64 (by omega)]; omega
 have hge : (sg.set g (hp h))[g]? = some (hp h) := by simp [hg]
 have L0 := c_items_Len hge
 have S1 := c_items_Swap hge 0 (h.length - 1) hpos (by omega)
 have D1 := heap_down (h := swp h 0 (h.length - 1)) hg 0 (h.length - 1) (by rw [swp_len]; omega) (by omega) (by rw [swp_len]; exact hl) (fun x hx => hok x (swp_mem hpos (by omega) hx))
 have hlen : (dn (swp h 0 (h.length - 1)) 0 (h.length - 1)).1.length = h.length := by rw [dn_len _ _ _ (by rw [swp_len]; omega), swp_len]
 have P1 := items_Pop (h := (dn (swp h 0 (h.length - 1)) 0 (h.length - 1)).1) hg (by rw [← List.length_pos_iff, hlen]; exact hpos) (by omega)
 rw [hlen] at P1
 refine wp_call e_container_heap_Pop rfl ?_
 simp at L0 S1 D1 P1
 simp [F_container_heap_Pop, L0, w1, S1, D1, P1, popH]
 exact List.take_of_length_le (by simp)
theorem popH_perm {h : List It} (h0 : h ≠ []) : ((popH h).1 :: (popH h).2).Perm h := by
 have hpos : 0 < h.length := List.length_pos_iff.2 h0
 have hlen : (dn (swp h 0 (h.length - 1)) 0 (h.length - 1)).1.length = h.length := by rw [dn_len _ _ _ (by rw [swp_len]; omega), swp_len]
 have e : (popH h).2 ++ [(popH h).1] = (dn (swp h 0 (h.length - 1)) 0 (h.length - 1)).1 := by
  unfold popH
  simp only
  rw [getElem!_pos _ _ (by omega)]
  conv => rhs; rw [← List.take_append_drop (h.length - 1) (dn (swp h 0 (h.length - 1)) 0 (h.length - 1)).1]
  rw [List.drop_eq_getElem_cons (by omega), List.drop_eq_nil_of_le (by omega)]
 have p1 : ((popH h).1 :: (popH h).2).Perm ((popH h).2 ++ [(popH h).1]) := (List.perm_append_singleton _ _).symm
 rw [e] at p1
 exact p1.trans ((dn_perm _ _ _ (by rw [swp_len]; omega)).trans (swp_perm hpos (by omega)))
theorem popH_len {h : List It} (h0 : h ≠ []) : (popH h).2.length = h.length - 1 := by
 have := (popH_perm h0).length_eq
 simp at this; omega
def newH (l : List It) : List It := hini (l.map It.canon) (l.length / 2)
theorem canon_okI {x : It} (h : x.ok) : x.canon.ok := ⟨canon_lt h.1, h.2⟩
theorem newH_perm (l : List It) : (newH l).Perm (l.map It.canon) := hini_perm _ _
theorem newH_len (l : List It) : (newH l).length = l.length := by have := (newH_perm l).length_eq; simpa using this
theorem newH_ok {l : List It} (h : ∀ x ∈ l, x.ok) : ∀ x ∈ newH l, x.ok := by
 intro x hx
 have := (newH_perm l).mem_iff.1 hx
 obtain ⟨y, hy, rfl⟩ := List.mem_map.1 this
 exact canon_okI (h y hy)
theorem pile_New (l : List It) (hl : l.length < 1000000000000) (hok : ∀ x ∈ l, x.ok) (sg : List (List D)) :
    LL.call n_pile_New [.l .z 2 (l.map eI)] sg sg.length = some (.p sg.length 0, sg ++ [hp (newH l)], sg.length) := by
 generalize hr : newH l = r
 refine wp_call e_pile_New rfl ?_
 simp [F_pile_New]
 refine wc_up l.length (fun i => ⟨[(3, .v (.p sg.length 0)), (8, .v (.l .z 2 (l.map eI))), (9, .v (.i .i64 l.length)), (10, .v (.i .i64 i))], [], sg ++ [hp ((l.take i).map It.canon)], sg.length⟩) (fun _ => True) ?_ ?_ 0 (by omega) trivial
 ·intro i hi _ ih
  have w1 : IntKind.i64.wrap ((i : Int) + 1) = ((i + 1 : Nat) : Int) := by rw [wrap64 (by omega)]; omega
  have C1 : callpv LL n_pile_Item_Canon [eI l[i]] = some (eI l[i].canon) := callpv_of rfl (c_pile_Item_Canon l[i] (hok _ (List.getElem_mem hi)) [])
  have ih := ih trivial
  simp at C1
  have hlen : (i + 1 : Int) * 16 ≤ 140737488355328 := by omega
  simp [hi, C1, hp, w1]
  refine ⟨by omega, ?_⟩
  have e : ((l.take (i + 1)).map It.canon).map eI = List.take i (List.map (eI ∘ It.canon) l) ++ [.a [.f .f64 l[i].canon.p, .i .i64 l[i].canon.v]] := by
   simp only [List.map_map, List.map_take]
   rw [List.take_succ_eq_append_getElem (by simpa using hi)]; simp
  simp only [hp, e] at ih
  simpa using ih
 ·intro _
  have hg : sg.length < (sg ++ [hp (l.map It.canon)]).length := by simp
  have I1 := heap_Init (h := l.map It.canon) hg (by simpa using hl) (by
   intro x hx
   obtain ⟨y, hy, rfl⟩ := List.mem_map.1 hx
   exact canon_okI (hok y hy))
  simp at I1
  simp [I1]
  rw [← hr]; rfl
theorem pile_Take {g : Nat} {h : List It} {sg : List (List D)} (hg : g < sg.length) (hl : h.length < 1000000000000) (hok : ∀ x ∈ h, x.ok) :
    LL.call n_pile_Pile_Take [.p g 0] (sg.set g (hp h)) (sg.set g (hp h)).length = some (if h = [] then .t [eI ⟨0, 0⟩, .b false] else .t [eI (popH h).1, .b true], if h = [] then sg.set g (hp h) else sg.set g (hp (popH h).2), (sg.set g (hp h)).length) := by
 refine wp_call e_pile_Pile_Take rfl ?_
 by_cases h0 : h = []
 ·subst h0
  simp [F_pile_Pile_Take, hg, hp, St.at]
  exact List.take_of_length_le (by simp)
 ·have P1 := heap_Pop hg h0 hl hok
  simp [hp] at P1
  have hpos := List.length_pos_iff.2 h0
  simp [F_pile_Pile_Take, hg, hp, St.at, h0]
  refine bq_i (fun c => ?_) (fun c => ?_) <;> (have c' := c) <;> simp at c'
  ·exact absurd c' h0
  ·simp [c, P1]
   refine ⟨h0, ?_⟩
   rw [if_neg h0]
   exact List.take_of_length_le (by simp)
def allH (h : List It) : List It := if h0 : h = [] then [] else (popH h).1 :: allH (popH h).2
termination_by h.length
decreasing_by
 rw [popH_len h0]
 have := List.length_pos_iff.2 h0
 omega
theorem cps_eI : ∀ l : List It, D.cps (l.map eI) = some (l.map eI)
 | [] => rfl
 | x :: l => by simp [D.cps, D.cp, cps_eI l]
theorem popH_ok {h : List It} (h0 : h ≠ []) (hok : ∀ x ∈ h, x.ok) : (popH h).1.ok ∧ ∀ x ∈ (popH h).2, x.ok :=
 ⟨hok _ ((popH_perm h0).mem_iff.1 (by simp)), fun x hx => hok _ ((popH_perm h0).mem_iff.1 (by simp [hx]))⟩
theorem pile_All {g : Nat} {h : List It} {sg : List (List D)} (hg : sg[g]? = some (hp h)) (hl : h.length < 1000000000) (hok : ∀ x ∈ h, x.ok) :
    LL.call n_pile_Pile_All [.p g 0] sg sg.length = some (.l .o 2 ((allH h).map eI), sg, sg.length) := by
 generalize hr : allH h = r
 refine wp_call e_pile_Pile_All rfl ?_
 have hlt : g < sg.length := by rw [List.getElem?_eq_some_iff] at hg; exact hg.1
 have hg2 : sg[g] = hp h := by rw [List.getElem?_eq_some_iff] at hg; exact hg.2
 have hc := cps_eI h
 simp [F_pile_Pile_All, hg2, hp, St.at, hlt, hc]
 refine ⟨by omega, ?_⟩
 refine wc_ind (fun a : List It × List It => ⟨[(3, .v (.p sg.length 0)), (4, .v (.l .o 2 (a.2.map eI)))], [], sg ++ [hp a.1], sg.length⟩) (fun a => a.1.length) (fun a => a.2 ++ allH a.1 = r ∧ a.1.length + a.2.length < 1000000000 ∧ ∀ x ∈ a.1, x.ok) ?_ (h, []) ⟨by simpa using hr, by simpa using hl, hok⟩
 rintro ⟨h', acc⟩ ⟨p1, p2, p3⟩ ih
 simp only at p1 p2 p3 ih
 have T1 := pile_Take (g := sg.length) (h := h') (sg := sg ++ [hp h']) (by simp) (by omega) p3
 by_cases h0 : h' = []
 ·subst h0
  rw [allH, dif_pos rfl] at p1
  simp at p1 T1
  subst p1
  simp [T1]
 ·rw [allH, dif_neg h0] at p1
  simp [h0] at T1
  have := popH_len h0
  have hpos := List.length_pos_iff.2 h0
  have ih := ih ((popH h').2, acc ++ [(popH h').1]) (by simp; omega) ⟨by simpa using p1, by simp; omega, (popH_ok h0 p3).2⟩
  simp [T1]
  exact ⟨by omega, by simpa using ih⟩
theorem c_pile_Sorted (l : List It) (hl : l.length < 1000000000) (hok : ∀ x ∈ l, x.ok) (sg : List (List D)) :
    LL.call n_pile_Sorted [.l .z 2 (l.map eI)] sg sg.length = some (.l .o 2 ((allH (newH l)).map eI), sg, sg.length) := by
 have N1 := pile_New l (by omega) hok sg
 have A1 := pile_All (g := sg.length) (h := newH l) (sg := sg ++ [hp (newH l)]) (by simp) (by rw [newH_len]; exact hl) (newH_ok hok)
 refine wp_call e_pile_Sorted rfl ?_
 simp at N1 A1
 simp [F_pile_Sorted, N1, A1]
end Go.AM

namespace Go.AM
theorem i64_mask (i : Nat) (hi : i ≤ 62) (x : Int) : bits .and .i64 x (2 ^ i - 1) = x % 2 ^ i := by
 have hpos : 0 < 2 ^ i := Nat.two_pow_pos i
 have hlt : 2 ^ i ≤ 2 ^ 62 := Nat.pow_le_pow_right (by decide) hi
 have hc : ((2 : Int) ^ i - 1) = ((2 ^ i - 1 : Nat) : Int) := by rw [Int.natCast_sub hpos]; simp
 rw [hc]
 show IntKind.i64.wrap ((BitVec.ofInt 64 x &&& BitVec.ofInt 64 ((2 ^ i - 1 : Nat) : Int) : BitVec 64).toNat : Int) = _
 rw [BitVec.ofInt_natCast, BitVec.toNat_and, BitVec.toNat_ofNat, Nat.mod_eq_of_lt (show 2 ^ i - 1 < 2 ^ 64 by omega), Nat.and_two_pow_sub_one_eq_mod]
 have e1 : ((BitVec.ofInt 64 x).toNat : Int) = x % 2 ^ 64 := by rw [BitVec.toNat_ofInt]; omega
 have hd : (2 : Int) ^ i ∣ 2 ^ 64 := by
  have := Nat.pow_dvd_pow 2 (show i ≤ 64 by omega)
  exact_mod_cast this
 have e2 : (((BitVec.ofInt 64 x).toNat % 2 ^ i : Nat) : Int) = x % 2 ^ i := by
  rw [Int.natCast_emod, e1, Int.natCast_pow]
  exact Int.emod_emod_of_dvd x hd
 rw [e2, wrap64]
 have := Int.emod_nonneg x (show (2 : Int) ^ i ≠ 0 by exact_mod_cast Nat.pos_iff_ne_zero.1 hpos)
 have h3 := Int.emod_lt_of_pos x (show (0 : Int) < 2 ^ i by exact_mod_cast hpos)
 have h4 : (2 : Int) ^ i ≤ 2 ^ 62 := by exact_mod_cast hlt
 constructor
 ·omega
 ·have : (2 : Int) ^ 62 = 4611686018427387904 := by decide
  omega
theorem i64_255 (x : Int) : bits .and .i64 x 255 = x % 256 := i64_mask 8 (by decide) x
theorem i64_40 (x : Int) : bits .and .i64 x 1099511627775 = x % 1099511627776 := i64_mask 40 (by decide) x
def legal (k p : Int) : Int := if k < 1 ∨ k > 4 then 6 else if p < 1 ∨ p > 16 ∨ (k = 4 ∧ p ≠ 1 ∧ p ≠ 2 ∧ p ≠ 4 ∧ p ≠ 8 ∧ p ≠ 16) then 5 else 0
theorem pow2_16 (p : Int) (h1 : 1 ≤ p) (h2 : p ≤ 16) : bits .and .i64 p (IntKind.i64.wrap (p - 1)) = 0 ↔ (p = 1 ∨ p = 2 ∨ p = 4 ∨ p = 8 ∨ p = 16) := by
 have : p = 1 ∨ p = 2 ∨ p = 3 ∨ p = 4 ∨ p = 5 ∨ p = 6 ∨ p = 7 ∨ p = 8 ∨ p = 9 ∨ p = 10 ∨ p = 11 ∨ p = 12 ∨ p = 13 ∨ p = 14 ∨ p = 15 ∨ p = 16 := by omega
 rcases this with rfl | rfl | rfl | rfl | rfl | rfl | rfl | rfl | rfl | rfl | rfl | rfl | rfl | rfl | rfl | rfl <;> decide
theorem c_op_Legal (k p : Int) (sg) : LL.call n_op_Legal [.i .i64 k, .i .i64 p] sg sg.length = some (.i .i64 (legal k p), sg, sg.length) := by
 refine wp_call e_op_Legal rfl ?_
 simp [F_op_Legal]
 repeat' (refine bq_i (fun h => ?_) (fun h => ?_) <;> (have h' := h) <;> (try simp at h') <;> simp [h, h'])
 all_goals unfold legal
 ·rw [if_pos (by omega)]
 ·rw [if_pos (by omega)]
 ·rw [if_neg (by omega), if_pos (by omega)]
 ·rw [if_neg (by omega), if_pos (by omega)]
 ·rename_i a b c d e f g hh i j
  have := pow2_16 p (by omega) (by omega)
  rw [if_neg (by omega), if_pos]
  omega
 ·rename_i a b c d e f g hh i j
  have := pow2_16 p (by omega) (by omega)
  rw [if_neg (by omega), if_neg]
  omega
 ·rw [if_neg (by omega), if_neg (by omega)]
theorem c_ref06_Legal (k p : Int) (sg) : LL.call n_c_ref06_Legal [.i .i64 k, .i .i64 p] sg sg.length = some (.i .i64 (legal k p), sg, sg.length) := by
 refine wp_call e_c_ref06_Legal rfl ?_
 simp [F_c_ref06_Legal]
 repeat' (refine bq_i (fun h => ?_) (fun h => ?_) <;> (have h' := h) <;> (try simp at h') <;> simp [h, h'])
 all_goals unfold legal
 all_goals (repeat' split) <;> omega
def kindOf (k : Int) : Int := 1 + k % 4
def paramOf (k p : Int) : Int := if kindOf k = 4 then 2 ^ (p % 256 % 5).toNat else 1 + p % 16
theorem kindOf_le (k : Int) : 1 ≤ kindOf k ∧ kindOf k ≤ 4 := by unfold kindOf; omega
theorem paramOf_le (k p : Int) : 1 ≤ paramOf k p ∧ paramOf k p ≤ 16 := by
 unfold paramOf
 split
 ·have : (p % 256 % 5).toNat = 0 ∨ (p % 256 % 5).toNat = 1 ∨ (p % 256 % 5).toNat = 2 ∨ (p % 256 % 5).toNat = 3 ∨ (p % 256 % 5).toNat = 4 := by omega
  rcases this with h | h | h | h | h <;> rw [h] <;> decide
 ·omega
theorem legal_kind (k p : Int) : legal (kindOf k) (paramOf k p) = 0 := by
 have h1 := kindOf_le k
 have h2 := paramOf_le k p
 unfold legal
 rw [if_neg (by omega), if_neg]
 rintro (h | h | ⟨h, h'⟩)
 ·omega
 ·omega
 ·unfold paramOf at h'
  rw [if_pos h] at h'
  have : (p % 256 % 5).toNat = 0 ∨ (p % 256 % 5).toNat = 1 ∨ (p % 256 % 5).toNat = 2 ∨ (p % 256 % 5).toNat = 3 ∨ (p % 256 % 5).toNat = 4 := by omega
  rcases this with h | h | h | h | h <;> rw [h] at h' <;> revert h' <;> decide
theorem tmod_nn (a b : Int) (h : 0 ≤ a) : a.tmod b = a % b := Int.tmod_eq_emod_of_nonneg h
theorem c_law12_Kind (k p : Int) (sg) : LL.call n_c_law12_Kind [.i .i64 k, .i .i64 p] sg sg.length = some (.t [.i .i64 (kindOf k), .i .i64 (paramOf k p)], sg, sg.length) := by
 refine wp_call e_c_law12_Kind rfl ?_
 have e1 : (k % 256).tmod 4 = k % 4 := by rw [tmod_nn _ _ (by omega)]; omega
 have e2 : (p % 256).tmod 5 = p % 256 % 5 := tmod_nn _ _ (by omega)
 have e3 : (p % 256).tmod 16 = p % 16 := by rw [tmod_nn _ _ (by omega)]; omega
 have e4 : IntKind.i64.wrap (1 + k % 4) = kindOf k := wrap64 (by omega)
 have e5 : IntKind.i64.wrap (1 + p % 16) = 1 + p % 16 := wrap64 (by omega)
 simp [F_c_law12_Kind, i64_255, e1, e4]
 refine bq_i (fun h => ?_) (fun h => ?_) <;> (have h' := h) <;> (try simp at h') <;> simp [h, h', i64_255, e2, e3, e5]
 ·refine ⟨by omega, ?_⟩
  have e6 : min (p % 256 % 5).toNat IntKind.i64.bits = (p % 256 % 5).toNat := by simp [IntKind.bits]; omega
  rw [e6, paramOf, if_pos h']
  refine wrap64 ?_
  have : (p % 256 % 5).toNat = 0 ∨ (p % 256 % 5).toNat = 1 ∨ (p % 256 % 5).toNat = 2 ∨ (p % 256 % 5).toNat = 3 ∨ (p % 256 % 5).toNat = 4 := by omega
  rcases this with h | h | h | h | h <;> rw [h] <;> decide
 ·simp [paramOf, h']
end Go.AM

namespace Go.AM
def shapeOf (k p : Int) : Int × Int := if k = 1 then (p, 0) else if k = 2 then (1, 0) else if k = 3 then (0, p) else if k = 4 then (0, 1) else (0, 0)
theorem c_image_Shape (k p : Int) (sg) : LL.call n_image_Shape [.i .i64 k, .i .i64 p] sg sg.length = some (.t [.i .i64 (shapeOf k p).1, .i .i64 (shapeOf k p).2], sg, sg.length) := by
 refine wp_call e_image_Shape rfl ?_
 simp [F_image_Shape]
 repeat' (refine bq_i (fun h => ?_) (fun h => ?_) <;> simp [h])
 all_goals simp_all [shapeOf]
end Go.AM

namespace Go.AM
def ordered : List It → Bool
 | x :: y :: r => decide (0 ≤ cmpI y x) && ordered (y :: r)
 | _ => true
theorem ordered_iff : ∀ l : List It, ordered l = true ↔ ∀ j, j + 1 < l.length → ∀ a b, l[j]? = some a → l[j + 1]? = some b → 0 ≤ cmpI b a
 | [] => by simp [ordered]
 | [x] => by simp [ordered]
 | x :: y :: r => by
  simp only [ordered, Bool.and_eq_true, decide_eq_true_eq, ordered_iff (y :: r)]
  constructor
  ·rintro ⟨h1, h2⟩ j hj a b ha hb
   cases j with
   | zero => simp at ha hb; subst ha; subst hb; exact h1
   | succ j => exact h2 j (by simp at hj ⊢; omega) a b (by simpa using ha) (by simpa using hb)
  ·intro h
   exact ⟨h 0 (by simp) x y rfl rfl, fun j hj a b ha hb => h (j + 1) (by simp at hj ⊢; omega) a b (by simpa using ha) (by simpa using hb)⟩
def orderE (k : Int) (l : List It) : Int := if k = 1 then (if 62 < l.length then 3 else if ordered l then 0 else 14) else 0
theorem c_image_order (k : Int) (l : List It) (hl : ∀ x ∈ l, x.ok) (K) (sg) : LL.call n_image_order [.i .i64 k, .l K 2 (l.map eI)] sg sg.length = some (.i .i64 (orderE k l), sg, sg.length) := by
 refine wp_call e_image_order rfl ?_
 by_cases hk : k = 1
 ·subst hk
  by_cases hlen : (l.length : Int) > 62
  ·simp [F_image_order, hlen, orderE]; omega
  ·simp [F_image_order, hlen]
   refine wc_ind (fun i : Nat => ⟨[(0, .v (.i .i64 1)), (1, .v (.l .z 2 (l.map eI))), (5, .v (.i .i64 (i : Int)))], [], sg, sg.length⟩) (fun i => l.length + 1 - i)
    (fun i => 1 ≤ i ∧ i ≤ max 1 l.length ∧ ∀ j, j + 1 < i → ∀ a b, l[j]? = some a → l[j + 1]? = some b → 0 ≤ cmpI b a) ?_ 1 ⟨by omega, by omega, by omega⟩
   rintro i ⟨h1, h2, h3⟩ ih
   by_cases hi : i < l.length
   ·obtain ⟨j, rfl⟩ : ∃ j, i = j + 1 := ⟨i - 1, by omega⟩
    have e1 : l[j + 1]? = some l[j + 1] := List.getElem?_eq_getElem hi
    have e2 : l[j]? = some l[j] := List.getElem?_eq_getElem (by omega)
    have hc := c_pile_Item_Cmp l[j + 1] l[j] (hl _ (List.getElem_mem _)) (hl _ (List.getElem_mem _)) sg
    have hi' : (j : Int) + 1 < l.length := by omega
    simp at hc
    have w0 : IntKind.i64.wrap (j : Int) = j := wrap64 (by omega)
    have w2 : IntKind.i64.wrap ((j : Int) + 1 + 1) = (j : Int) + 1 + 1 := wrap64 (by omega)
    have p0 : (0 : Int) ≤ j + 1 := by omega
    simp [hi', e1, e2, w0, w2, p0, hc]
    refine bq_i (fun h => ?_) (fun h => ?_) <;> (have h' := h) <;> simp at h' <;> simp [h, w0, w2]
    ·have : ordered l = false := by
      rw [Bool.eq_false_iff]
      intro ho
      have := (ordered_iff l).1 ho j hi _ _ e2 e1
      omega
     simp [orderE, this]; omega
    ·have := ih (j + 1 + 1) (by omega) ⟨by omega, by omega, fun j' hj' a b ha hb => by
      by_cases e : j' = j
      ·subst e; rw [e2] at ha; rw [e1] at hb; cases ha; cases hb; exact h'
      ·exact h3 j' (by omega) a b ha hb⟩
     simpa using this
   ·have hi' : ¬ (i : Int) < l.length := by omega
    simp [hi']
    have : ordered l = true := (ordered_iff l).2 (fun j hj => h3 j (by omega))
    simp [orderE, this]; omega
 ·have hkb : (k == 1) = false := by simpa using hk
  simp [F_image_order, hkb]
  refine wc_loop ?_
  simp [hk, hkb, orderE]
structure Im where
 k : Int
 p : Int
 c : Int
 ls : List (List It)
 cs : List Int
def eIm (x : Im) : D := .a [.i .i64 x.k, .i .i64 x.p, .i .u64 x.c, .l .z 1 (x.ls.map (eL 2 eI)), .l .z 1 (x.cs.map (.i .i64))]
def eRm (x : Im) : D := .a [.i .i64 x.k, .i .i64 x.p, .i .u64 x.c, .l .z 1 (x.ls.map (eL 2 eR)), .l .z 1 (x.cs.map (.i .i64))]
def Im.ok (x : Im) : Prop := (∀ l ∈ x.ls, ∀ y ∈ l, y.ok) ∧ (∀ n ∈ x.cs, -9223372036854775808 ≤ n ∧ n ≤ 9223372036854775807) ∧ (x.ls.map List.length).sum ≤ 1099511627776
def ordersE (k : Int) : List (List It) → Int
 | [] => 0
 | l :: r => if orderE k l ≠ 0 then orderE k l else ordersE k r
def badN (n : Int) : Bool := n < 0 || n > 1125899906842624
def countsE (l : List Int) : Int := if l.any badN || l.sum > 1125899906842624 then 4 else 0
def checkI (x : Im) : Int :=
 if legal x.k x.p ≠ 0 then legal x.k x.p else
 if (x.ls.length : Int) ≠ (shapeOf x.k x.p).1 ∨ (x.cs.length : Int) ≠ (shapeOf x.k x.p).2 then 2 else
 if ordersE x.k x.ls ≠ 0 then ordersE x.k x.ls else
 if (x.ls.map List.length).sum > 1000 then 3 else countsE x.cs
theorem shape_le (k p : Int) (h : legal k p = 0) : (shapeOf k p).1 ≤ 16 ∧ (shapeOf k p).2 ≤ 16 := by
 unfold legal at h
 split at h
 ·cases h
 split at h
 ·cases h
 ·unfold shapeOf
  repeat' split
  all_goals simp
  all_goals omega
theorem c_image_Image_Check (x : Im) (ho : x.ok) (sg) : LL.call n_image_Image_Check [eIm x] sg sg.length = some (.i .i64 (checkI x), sg, sg.length) := by
 refine wp_call e_image_Image_Check rfl ?_
 have h1 := c_op_Legal x.k x.p sg
 have h2 := c_image_Shape x.k x.p sg
 simp [F_image_Image_Check, eIm, h1]
 refine bq_i (fun h => ?_) (fun h => ?_) <;> (have h' := h) <;> simp at h' <;> simp [h, h', h2]
 ·simp [checkI, h']
 refine bq_i (fun g => ?_) (fun g => ?_) <;> (have g' := g) <;> simp at g' <;> simp [g, g']
 ·simp [checkI, h', g']
 refine bq_i (fun k => ?_) (fun k => ?_) <;> (have k' := k) <;> simp at k' <;> simp [k, k']
 ·simp [checkI, h', k']
 have hl : x.ls.length ≤ 16 ∧ x.cs.length ≤ 16 := by
  have := shape_le x.k x.p h'
  omega
 obtain ⟨ho1, ho2, ho3⟩ := ho
 refine wc_list x.ls (fun i b => ⟨[(1, .q (.ptr 1 0)), (6, .v (.i .i64 (b : Nat))), (42, .v (.l .z 1 (x.ls.map (eL 2 eI)))), (43, .v (.i .i64 x.ls.length)), (44, .v (.i .i64 i))],
  [(1, [.i .i64 x.k, .i .i64 x.p, .i .u64 x.c, .l .z 1 (x.ls.map (eL 2 eI)), .l .z 1 (x.cs.map (.i .i64))])], sg, sg.length⟩)
  (fun r b => ordersE x.k x.ls = ordersE x.k r ∧ b + (r.map List.length).sum = (x.ls.map List.length).sum) ?_ ?_ 0 ⟨rfl, by simp⟩
 ·rintro i l r b hi hlt ⟨hb1, hb2⟩ ih
  have hlt' : (i : Int) < x.ls.length := by omega
  have ho := c_image_order x.k l (ho1 l (mem_of_get hi)) .z sg
  simp at hb2
  simp [hlt', hi, ho, eL]
  refine bq_i (fun e => ?_) (fun e => ?_) <;> (have e' := e) <;> simp at e' <;> simp [e, e']
  ·simp [checkI, h', g', k', hb1, ordersE, e']
  ·have w : IntKind.i64.wrap (↑b + ↑l.length) = ((b + l.length : Nat) : Int) := wrap64 (by omega)
   have w2 : IntKind.i64.wrap (↑i + 1) = (i : Int) + 1 := wrap64 (by omega)
   have := ih (b + l.length) ⟨by rw [hb1]; simp [ordersE, e'], by omega⟩
   simpa [w, w2] using this
 ·rintro b ⟨hb1, hb2⟩
  simp at hb1 hb2
  simp
  refine bq_i (fun e => ?_) (fun e => ?_) <;> (have e' := e) <;> simp at e' <;> simp [e, e']
  ·simp [checkI, h', g', k', hb1, ordersE, e']; omega
  have hmax : (x.ls.map List.length).sum ≤ 1000 := by omega
  refine wc_list x.cs (fun i b => ⟨[(10, .v (.i .i64 b)), (63, .v (.l .z 1 (x.cs.map (.i .i64)))), (64, .v (.i .i64 x.cs.length)), (65, .v (.i .i64 i))], [], sg, sg.length⟩)
   (fun r (b : Int) => x.cs.any badN = r.any badN ∧ b + r.sum = x.cs.sum ∧ 0 ≤ b ∧ b + r.length * 1125899906842624 ≤ 18014398509481984) ?_ ?_ 0 ⟨rfl, by simp, by omega, by omega⟩
  ·rintro i n r b hi hlt ⟨hc1, hc2, hc3, hc4⟩ ih
   have hlt' : (i : Int) < x.cs.length := by omega
   simp [hlt', hi]
   refine bq_i (fun u => ?_) (fun u => ?_) <;> (have u' := u) <;> simp at u' <;> simp [u, u']
   ·simp [checkI, h', g', k', hb1, countsE, hmax, hc1, badN, u', ordersE]
   refine bq_i (fun v => ?_) (fun v => ?_) <;> (have v' := v) <;> simp at v' <;> simp [v, v']
   ·simp [checkI, h', g', k', hb1, countsE, hmax, hc1, badN, v', ordersE]
   ·have w : IntKind.i64.wrap (b + n) = b + n := wrap64 (by simp at hc4; omega)
    have w2 : IntKind.i64.wrap (↑i + 1) = (i : Int) + 1 := wrap64 (by omega)
    have := ih (b + n) ⟨by rw [hc1]; simp [badN]; omega, by simp at hc2; omega, by omega, by simp at hc4 ⊢; omega⟩
    simpa [w, w2] using this
  ·rintro b ⟨hc1, hc2, hc3, hc4⟩
   simp at hc1 hc2
   simp
   refine bq_i (fun u => ?_) (fun u => ?_) <;> (have u' := u) <;> simp at u' <;> simp [u, u']
   ·simp [checkI, h', g', k', hb1, countsE, hmax, hc1, ordersE, ← hc2, u']
   ·simp [checkI, h', g', k', hb1, countsE, hmax, hc1, ordersE, ← hc2]
    rw [if_neg (by omega), if_neg]
    rintro (⟨y, hy, h⟩ | h)
    ·simp [hc1 y hy] at h
    ·omega
theorem legal_k {k p : Int} (h : legal k p = 0) : 1 ≤ k ∧ k ≤ 4 := by
 unfold legal at h
 split at h
 ·cases h
 ·omega
theorem shape_get1 {k p : Int} (h : 1 ≤ k ∧ k ≤ 4) : ([D.i .i64 0, .i .i64 p, .i .i64 1, .i .i64 0, .i .i64 0] : List D)[k.toNat]? = some (.i .i64 (shapeOf k p).1) := by
 have : k = 1 ∨ k = 2 ∨ k = 3 ∨ k = 4 := by omega
 rcases this with rfl | rfl | rfl | rfl <;> simp [shapeOf]
theorem shape_get2 {k p : Int} (h : 1 ≤ k ∧ k ≤ 4) : ([D.i .i64 0, .i .i64 0, .i .i64 0, .i .i64 p, .i .i64 1] : List D)[k.toNat]? = some (.i .i64 (shapeOf k p).2) := by
 have : k = 1 ∨ k = 2 ∨ k = 3 ∨ k = 4 := by omega
 rcases this with rfl | rfl | rfl | rfl <;> simp [shapeOf]
theorem ordersE_cons_eq (k : Int) (l : List It) (r : List (List It)) (h : orderE k l = 0) : ordersE k (l :: r) = ordersE k r := by simp [ordersE, h]
theorem orderE_ordered (l : List It) (h : l.length ≤ 62) (ho : ∀ j, j + 1 < l.length → ∀ a b, l[j]? = some a → l[j + 1]? = some b → 0 ≤ cmpI b a) : orderE 1 l = 0 := by
 simp [orderE, (ordered_iff l).2 ho]; omega
theorem cmpI_swap (x y : It) : cmpI y x = - cmpI x y := by
 unfold cmpI cmpV cmpN
 repeat' split
 all_goals omega
theorem shape_k {k p : Int} (h : 0 < (shapeOf k p).1) : k = 1 ∨ k = 2 := by
 unfold shapeOf at h
 split at h
 ·exact .inl ‹_›
 split at h
 ·exact .inr ‹_›
 ·split at h
  ·simp at h
  ·split at h <;> simp at h
theorem c_ref17_Check (x : Im) (ho : x.ok) (sg) : LL.call n_c_ref17_Check [eRm x] sg sg.length = some (.i .i64 (checkI x), sg, sg.length) := by
 refine wp_call e_c_ref17_Check rfl ?_
 have h1 := c_ref06_Legal x.k x.p sg
 simp [F_c_ref17_Check, eRm, h1]
 refine bq_i (fun h => ?_) (fun h => ?_) <;> (have h' := h) <;> simp at h' <;> simp [h, h']
 ·simp [checkI, h']
 have hk := legal_k h'
 have hk0 : 0 ≤ x.k := by omega
 have hp := (shape_le x.k x.p h')
 simp [hk0, shape_get1 hk, shape_get2 hk]
 refine bq_i (fun g => ?_) (fun g => ?_) <;> (have g' := g) <;> simp at g' <;> simp [g, g']
 ·simp [checkI, h', g']
 refine bq_i (fun k => ?_) (fun k => ?_) <;> (have k' := k) <;> simp at k' <;> simp [k, k']
 ·simp [checkI, h', k']
 have hl : x.ls.length ≤ 16 ∧ x.cs.length ≤ 16 := by omega
 obtain ⟨ho1, ho2, ho3⟩ := ho
 refine wc_list x.ls (fun i b => ⟨[(1, .q (.ptr 1 0)), (6, .v (.i .i64 (b : Nat))), (48, .v (.l .z 1 (x.ls.map (eL 2 eR)))), (49, .v (.i .i64 x.ls.length)), (50, .v (.i .i64 i))],
  [(1, [.i .i64 x.k, .i .i64 x.p, .i .u64 x.c, .l .z 1 (x.ls.map (eL 2 eR)), .l .z 1 (x.cs.map (.i .i64))])], sg, sg.length⟩)
  (fun r b => ordersE x.k x.ls = ordersE x.k r ∧ b + (r.map List.length).sum = (x.ls.map List.length).sum) ?_ ?_ 0 ⟨rfl, by simp⟩
 ·rintro i l r b hi hlt ⟨hb1, hb2⟩ ih
  have hlt' : (i : Int) < x.ls.length := by omega
  simp at hb2
  have w : IntKind.i64.wrap (↑b + ↑l.length) = (b : Int) + l.length := wrap64 (by omega)
  have w2 : IntKind.i64.wrap (↑i + 1) = (i : Int) + 1 := wrap64 (by omega)
  have ih' : orderE x.k l = 0 → _ := fun ho => ih (b + l.length) ⟨by rw [hb1, ordersE_cons_eq _ _ _ ho], by omega⟩
  simp [hlt', hi, eL, w]
  refine bq_i (fun e => ?_) (fun e => ?_) <;> (have e' := e) <;> simp at e' <;> simp [e, e']
  ·simpa [w2, e'] using ih' (by simp [orderE, e'])
  refine bq_i (fun f => ?_) (fun f => ?_) <;> (have f' := f) <;> simp at f' <;> simp [f, f']
  ·have hk1 : x.k = 1 := by rcases shape_k (k := x.k) (p := x.p) (by omega) with h | h <;> omega
   have ho : orderE x.k l = 3 := by simp [orderE, hk1]; omega
   simp [checkI, h', g', k', hb1, ordersE, ho]
  ·have hk1 : x.k = 1 := by rcases shape_k (k := x.k) (p := x.p) (by omega) with h | h <;> omega
   refine wc_up (max 1 l.length) (fun j => ⟨[(1, .q (.ptr 1 0)), (6, .v (.i .i64 (b + l.length))), (8, .v (.l .z 2 (l.map eR))), (9, .v (.i .i64 j)), (48, .v (.l .z 1 (x.ls.map (eL 2 eR)))), (49, .v (.i .i64 x.ls.length)), (50, .v (.i .i64 i))],
    [(1, [.i .i64 x.k, .i .i64 x.p, .i .u64 x.c, .l .z 1 (x.ls.map (eL 2 eR)), .l .z 1 (x.cs.map (.i .i64))])], sg, sg.length⟩)
    (fun i => 1 ≤ i ∧ ∀ j, j + 1 < i → ∀ a b, l[j]? = some a → l[j + 1]? = some b → 0 ≤ cmpI b a) ?_ ?_ 1 (by omega) ⟨by omega, by omega⟩
   ·rintro j hj ⟨hj1, hj2⟩ ih2
    obtain ⟨j, rfl⟩ : ∃ j', j = j' + 1 := ⟨j - 1, by omega⟩
    have q1 : l[j]? = some l[j] := List.getElem?_eq_getElem (by omega)
    have q2 : l[j + 1]? = some l[j + 1] := List.getElem?_eq_getElem (by omega)
    have hc := c_ref04_Cmp l[j] l[j + 1] (ho1 l (mem_of_get hi) _ (List.getElem_mem _)) (ho1 l (mem_of_get hi) _ (List.getElem_mem _)) sg
    have wj : IntKind.i64.wrap (j : Int) = j := wrap64 (by omega)
    have hj' : (j : Int) + 1 < l.length := by omega
    have p0 : (0 : Int) ≤ j + 1 := by omega
    simp at hc
    simp [hj', q1, q2, wj, p0, hc]
    refine bq_i (fun u => ?_) (fun u => ?_) <;> (have u' := u) <;> simp at u' <;> simp [u, u']
    ·have ho : orderE x.k l = 14 := by
      have : ordered l = false := by
       rw [Bool.eq_false_iff]
       intro ho
       have := (ordered_iff l).1 ho j (by omega) _ _ q1 q2
       rw [cmpI_swap] at this
       omega
      simp [orderE, hk1, this]; omega
     simp [checkI, h', g', k', hb1, ordersE, ho]
    ·have w3 : IntKind.i64.wrap ((j : Int) + 1 + 1) = (j : Int) + 1 + 1 := wrap64 (by omega)
     have := ih2 ⟨by omega, fun j' hj' a b ha hb => by
      by_cases e : j' = j
      ·subst e; rw [q1] at ha; rw [q2] at hb; cases ha; cases hb; rw [cmpI_swap]; omega
      ·exact hj2 j' (by omega) a b ha hb⟩
     simpa [w3] using this
   ·rintro ⟨hj1, hj2⟩
    have hj' : ¬ ((max 1 l.length : Nat) : Int) < l.length := by omega
    have ho : orderE x.k l = 0 := by rw [hk1]; exact orderE_ordered l (by omega) (fun j hj => hj2 j (by omega))
    simp [hj', w2]
    simpa using ih' ho
 ·rintro b ⟨hb1, hb2⟩
  simp at hb1 hb2
  simp
  refine bq_i (fun e => ?_) (fun e => ?_) <;> (have e' := e) <;> simp at e' <;> simp [e, e']
  ·simp [checkI, h', g', k', hb1, ordersE, e']; omega
  have hmax : (x.ls.map List.length).sum ≤ 1000 := by omega
  refine wc_list x.cs (fun i b => ⟨[(10, .v (.i .i64 b)), (85, .v (.l .z 1 (x.cs.map (.i .i64)))), (86, .v (.i .i64 x.cs.length)), (87, .v (.i .i64 i))], [], sg, sg.length⟩)
   (fun r (b : Int) => x.cs.any badN = r.any badN ∧ b + r.sum = x.cs.sum ∧ 0 ≤ b ∧ b + r.length * 1125899906842624 ≤ 18014398509481984) ?_ ?_ 0 ⟨rfl, by simp, by omega, by omega⟩
  ·rintro i n r b hi hlt ⟨hc1, hc2, hc3, hc4⟩ ih
   have hlt' : (i : Int) < x.cs.length := by omega
   simp [hlt', hi]
   refine bq_i (fun u => ?_) (fun u => ?_) <;> (have u' := u) <;> simp at u' <;> simp [u, u']
   ·simp [checkI, h', g', k', hb1, countsE, hmax, hc1, badN, u', ordersE]
   refine bq_i (fun v => ?_) (fun v => ?_) <;> (have v' := v) <;> simp at v' <;> simp [v, v']
   ·simp [checkI, h', g', k', hb1, countsE, hmax, hc1, badN, v', ordersE]
   ·have w : IntKind.i64.wrap (b + n) = b + n := wrap64 (by simp at hc4; omega)
    have w2 : IntKind.i64.wrap (↑i + 1) = (i : Int) + 1 := wrap64 (by omega)
    have := ih (b + n) ⟨by rw [hc1]; simp [badN]; omega, by simp at hc2; omega, by omega, by simp at hc4 ⊢; omega⟩
    simpa [w, w2] using this
  ·rintro b ⟨hc1, hc2, hc3, hc4⟩
   simp at hc1 hc2
   simp
   refine bq_i (fun u => ?_) (fun u => ?_) <;> (have u' := u) <;> simp at u' <;> simp [u, u']
   ·simp [checkI, h', g', k', hb1, countsE, hmax, hc1, ordersE, ← hc2, u']
   ·simp [checkI, h', g', k', hb1, countsE, hmax, hc1, ordersE, ← hc2]
    rw [if_neg (by omega), if_neg]
    rintro (⟨y, hy, h⟩ | h)
    ·simp [hc1 y hy] at h
    ·omega
end Go.AM

namespace Go.AM
def ltI (x y : It) : Prop := key x.p < key y.p ∨ (key x.p = key y.p ∧ x.v < y.v)
instance (x y : It) : Decidable (ltI x y) := by unfold ltI; infer_instance
theorem cmpI_lt (x y : It) : cmpI x y < 0 ↔ ltI x y := by unfold cmpI cmpN cmpV ltI; repeat' split; all_goals omega
theorem cmpI_ge (x y : It) : 0 ≤ cmpI x y ↔ ¬ ltI x y := by rw [← cmpI_lt]; omega
theorem ltI_trans' {x y z : It} (h1 : ¬ ltI y x) (h2 : ¬ ltI z y) : ¬ ltI z x := by unfold ltI at *; omega
def backN (x : It) (l : List It) : Nat → Nat
 | 0 => 0
 | n + 1 => match l[n]? with
  | some y => if ltI x y then backN x l n else n + 1
  | none => n + 1
def insI (x : It) (l : List It) : List It := l.take (backN x l l.length) ++ x :: l.drop (backN x l l.length)
def sortI (l : List It) : List It := l.foldl (fun o x => insI x o) []
theorem backN_le (x : It) (l : List It) : ∀ n, backN x l n ≤ n
 | 0 => by simp [backN]
 | n + 1 => by
  unfold backN
  split
  ·split
   ·have := backN_le x l n; omega
   ·omega
  ·omega
theorem insI_len (x : It) (l : List It) : (insI x l).length = l.length + 1 := by
 have := backN_le x l l.length
 simp [insI]; omega
theorem sortI_len (l : List It) : (sortI l).length = l.length := by
 have : ∀ (l o : List It), (l.foldl (fun o x => insI x o) o).length = o.length + l.length := by
  intro l
  induction l with
  | nil => simp
  | cons x l ih => intro o; simp only [List.foldl_cons, ih, insI_len, List.length_cons]; omega
 have h := this l []
 simp only [List.length_nil, Nat.zero_add, List.nil_append] at h
 exact h
theorem insI_perm (x : It) (l : List It) : (insI x l).Perm (x :: l) := by
 unfold insI
 refine List.perm_middle.trans ?_
 rw [List.take_append_drop]
theorem sortI_perm (l : List It) : (sortI l).Perm l := by
 have : ∀ (l o : List It), (l.foldl (fun o x => insI x o) o).Perm (o ++ l) := by
  intro l
  induction l with
  | nil => simp
  | cons x l ih =>
   intro o
   simp only [List.foldl_cons]
   refine (ih (insI x o)).trans ?_
   refine ((insI_perm x o).append_right l).trans ?_
   exact List.perm_middle.symm
 have h := this l []
 simp only [List.length_nil, Nat.zero_add, List.nil_append] at h
 exact h
theorem ordered_pw : ∀ l : List It, ordered l = true ↔ l.Pairwise (fun a b => ¬ ltI b a)
 | [] => by simp [ordered]
 | [x] => by simp [ordered]
 | x :: y :: r => by
  have ih := ordered_pw (y :: r)
  simp only [ordered, Bool.and_eq_true, decide_eq_true_eq, ih, cmpI_ge]
  constructor
  ·rintro ⟨h1, h2⟩
   refine List.pairwise_cons.2 ⟨fun z hz => ?_, h2⟩
   rcases List.mem_cons.1 hz with rfl | hz
   ·exact h1
   ·exact ltI_trans' h1 ((List.pairwise_cons.1 h2).1 z hz)
  ·intro h
   have h' := List.pairwise_cons.1 h
   exact ⟨h'.1 y (by simp), h'.2⟩
theorem backN_above (x : It) (l : List It) : ∀ n, n ≤ l.length → ∀ j, backN x l n ≤ j → j < n → ∀ y, l[j]? = some y → ltI x y
 | 0 => by omega
 | n + 1 => by
  intro hn j h1 h2 y hy
  have q : l[n]? = some l[n] := List.getElem?_eq_getElem (by omega)
  rw [backN, q] at h1
  simp only at h1
  split at h1
  ·by_cases e : j = n
   ·subst e; rw [q] at hy; cases hy; assumption
   ·exact backN_above x l n (by omega) j h1 (by omega) y hy
  ·omega
theorem backN_below (x : It) (l : List It) : ∀ n, n ≤ l.length → 0 < backN x l n → ∃ y, l[backN x l n - 1]? = some y ∧ ¬ ltI x y
 | 0 => by simp [backN]
 | n + 1 => by
  intro hn h
  have q : l[n]? = some l[n] := List.getElem?_eq_getElem (by omega)
  rw [backN, q] at h ⊢
  simp only at h ⊢
  split
  ·rename_i e
   rw [if_pos e] at h
   exact backN_below x l n (by omega) h
  ·exact ⟨_, q, by assumption⟩
theorem insI_ordered (x : It) (l : List It) (h : ordered l = true) : ordered (insI x l) = true := by
 rw [ordered_pw] at h ⊢
 have hle := backN_le x l l.length
 unfold insI
 refine List.pairwise_append.2 ⟨h.sublist (List.take_sublist _ _), List.pairwise_cons.2 ⟨fun y hy => ?_, h.sublist (List.drop_sublist _ _)⟩, fun a ha b hb => ?_⟩
 ·obtain ⟨j, hj⟩ := List.mem_iff_getElem?.1 hy
  rw [List.getElem?_drop] at hj
  have : backN x l l.length + j < l.length := (List.getElem?_eq_some_iff.1 hj).1
  have := backN_above x l l.length (by omega) _ (by omega) this y hj
  unfold ltI at *; omega
 ·have hax : ¬ ltI x a := by
   obtain ⟨j, hj⟩ := List.mem_iff_getElem?.1 ha
   rw [List.getElem?_take] at hj
   split at hj
   ·rename_i hlt
    obtain ⟨y, hy, hxy⟩ := backN_below x l l.length (by omega) (by omega)
    by_cases e : j = backN x l l.length - 1
    ·subst e; rw [hj] at hy; cases hy; exact hxy
    ·obtain ⟨p1, q1⟩ := List.getElem?_eq_some_iff.1 hj
     obtain ⟨p2, q2⟩ := List.getElem?_eq_some_iff.1 hy
     have := List.pairwise_iff_getElem.1 h j (backN x l l.length - 1) p1 p2 (by omega)
     rw [q1, q2] at this
     exact ltI_trans' this hxy
   ·cases hj
  rcases List.mem_cons.1 hb with rfl | hb
  ·exact hax
  ·have : a ∈ l.take (backN x l l.length) := ha
   have h2 := List.take_append_drop (backN x l l.length) l
   rw [← h2] at h
   exact (List.pairwise_append.1 h).2.2 a ha b hb
theorem sortI_ordered (l : List It) : ordered (sortI l) = true := by
 have : ∀ (l o : List It), ordered o = true → ordered (l.foldl (fun o x => insI x o) o) = true := by
  intro l
  induction l with
  | nil => exact fun o h => h
  | cons x l ih => exact fun o h => ih _ (insI_ordered x o h)
 exact this l [] rfl
theorem c_law17_sorted (l : List It) (hl : ∀ x ∈ l, x.ok) (hn : l.length ≤ 1000) (sg) : LL.call n_c_law17_sorted [.l .z 2 (l.map eI)] sg sg.length = some (.l .o 2 ((sortI l).map eI), sg, sg.length) := by
 refine wp_call e_c_law17_sorted rfl ?_
 simp [F_c_law17_sorted]
 refine wc_list l (fun i o => ⟨[(3, .v (.l .o 2 (o.map eI))), (8, .v (.l .z 2 (l.map eI))), (9, .v (.i .i64 l.length)), (10, .v (.i .i64 i))], [], sg, sg.length⟩)
  (fun r (o : List It) => r.foldl (fun o x => insI x o) o = sortI l ∧ o.length + r.length = l.length ∧ ∀ x ∈ o, x.ok) ?_ ?_ [] ⟨rfl, by simp, by simp⟩
 ·rintro i x r o hi hlt ⟨h1, h2, h3⟩ ih
  have hlt' : (i : Int) < l.length := by omega
  have hx := hl x (mem_of_get hi)
  simp at h2
  simp [hlt', hi]
  refine wc_ind (fun at_ : Nat => ⟨[(3, .v (.l .o 2 (o.map eI))), (5, .q (.ptr 5 0)), (6, .v (.i .i64 at_)), (8, .v (.l .z 2 (l.map eI))), (9, .v (.i .i64 l.length)), (10, .v (.i .i64 i))], [(5, [.f .f64 x.p, .i .i64 x.v])], sg, sg.length⟩)
   (fun a => a) (fun a => a ≤ o.length ∧ backN x o o.length = backN x o a) ?_ o.length ⟨by omega, rfl⟩
  rintro a ⟨ha1, ha2⟩ ih2
  have tk : (o.map eI).take o.length = o.map eI := List.take_of_length_le (by simp)
  have w2 : IntKind.i64.wrap (↑i + 1) = (i : Int) + 1 := wrap64 (by omega)
  have ok : ∀ y ∈ insI x o, y.ok := fun y hy => by
   rcases List.mem_cons.1 ((insI_perm x o).mem_iff.1 hy) with rfl | h
   ·exact hx
   ·exact h3 y h
  have nx := ih (insI x o) ⟨by rw [← h1]; rfl, by rw [insI_len]; omega, ok⟩
  cases a with
  | zero =>
   simp
   have e : insI x o = [x] ++ o := by simp [insI, ha2, backN]
   simp [tk, w2]
   refine ⟨by omega, by omega, ?_⟩
   simpa [e] using nx
  | succ a =>
   have q : o[a]? = some o[a] := List.getElem?_eq_getElem (by omega)
   have hc := c_pile_Item_Cmp x o[a] hx (h3 _ (List.getElem_mem _)) sg
   have w : IntKind.i64.wrap (a : Int) = a := wrap64 (by omega)
   simp at hc
   have p0 : (0 : Int) < a + 1 := by omega
   simp [p0, w, q, hc]
   refine bq_i (fun u => ?_) (fun u => ?_) <;> (have u' := u) <;> simp at u' <;> simp [u, u']
   ·have hb : backN x o (a + 1) = backN x o a := by rw [backN, q]; simp [(cmpI_lt x o[a]).1 u']
    have := ih2 a (by omega) ⟨by omega, by rw [ha2, hb]⟩
    simpa [w] using this
   ·have hb : backN x o (a + 1) = a + 1 := by rw [backN, q]; simp [(cmpI_ge x o[a]).1 u']
    have e : insI x o = o.take (a + 1) ++ x :: o.drop (a + 1) := by simp [insI, ha2, hb]
    have m : min (a + 1) o.length = a + 1 := by omega
    have p1 : (0 : Int) ≤ a + 1 := by omega
    have p2 : (a : Int) + 1 ≤ o.length := by omega
    have p3 : (1 + (o.length - (a + 1))) * 16 ≤ 140737488355328 := by omega
    have p4 : (a + 1 + (o.length - (a + 1) + 1)) * 16 ≤ 140737488355328 := by omega
    simp [tk, w2, m, p1, p2, p3, p4]
    simpa [e] using nx
 ·rintro o ⟨h1, h2, h3⟩
  simp at h1
  simp [h1]
end Go.AM

namespace Go.AM
def eLK {α : Type} (K : K) (sz : Nat) (e : α → D) (l : List α) : D := .l K sz (l.map e)
theorem zzs_eLK {α : Type} (K : K) (sz : Nat) (e : α → D) [Flat e] : ∀ l : List (List α), D.zzs (l.map (eLK K sz e)) = l.map (eL sz e)
 | [] => rfl
 | x :: l => by simp [D.zzs, zzs_eLK K sz e l, eLK, eL]
theorem fzs_eLK {α : Type} (K : K) (hK : K = .o ∨ K = .x) (sz : Nat) (e : α → D) [Flat e] : ∀ l : List (List α), D.fzs (l.map (eLK K sz e)) = l.map (eL sz e)
 | [] => rfl
 | x :: l => by
  have ih := fzs_eLK K hK sz e l
  rcases hK with rfl | rfl <;> simp only [List.map_cons, D.fzs, ih] <;> simp [eLK, eL]
theorem fzs_eLo {α : Type} (sz : Nat) (e : α → D) [Flat e] (l : List (List α)) : D.fzs (l.map (eLK .o sz e)) = l.map (eL sz e) := fzs_eLK _ (.inl rfl) sz e l
theorem fzs_eLx {α : Type} (sz : Nat) (e : α → D) [Flat e] (l : List (List α)) : D.fzs (l.map (eLK .x sz e)) = l.map (eL sz e) := fzs_eLK _ (.inr rfl) sz e l
attribute [simp] zzs_eLK fzs_eLo fzs_eLx eL eLK
def eImK (K1 K2 K3 : K) (x : Im) : D := .a [.i .i64 x.k, .i .i64 x.p, .i .u64 x.c, .l K1 1 (x.ls.map (eLK K2 2 eI)), .l K3 1 (x.cs.map (.i .i64))]
theorem zz_eImK (K1 K2 K3 : K) (x : Im) : D.zz (eImK K1 K2 K3 x) = eIm x := by simp [eImK, eIm]
attribute [simp] zz_eImK
structure Raw where
 k : Int
 p : Int
 c : Int
 is : List It
 cs : List Int
 sp : Int
def eRaw (x : Raw) : D := .a [.i .i64 x.k, .i .i64 x.p, .i .u64 x.c, .l .z 2 (x.is.map eR), .l .z 1 (x.cs.map (.i .i64)), .i .i64 x.sp]
def Raw.ok (x : Raw) : Prop := (∀ y ∈ x.is, y.ok) ∧ (0 ≤ x.c ∧ x.c < 18446744073709551616) ∧ (-9223372036854775808 ≤ x.sp ∧ x.sp ≤ 9223372036854775807)
def dealI (n : Nat) : List (List It) → Nat → List It → List (List It)
 | a, _, [] => a
 | a, i, x :: r => dealI n (a.set (i % n) ((a[i % n]?).getD [] ++ [x.canon])) (i + 1) r
def makeCs (m : Nat) (cs : List Int) : List Int := (List.range m).map fun i => match cs[i]? with
 | some n => n % 1099511627776
 | none => 0
def makeI (x : Raw) : Im :=
 let k := kindOf x.k
 let p := paramOf x.k x.p
 let n := (shapeOf k p).1.toNat
 let ls := dealI n (List.replicate n []) 0 (if n = 0 then [] else x.is.take 60)
 ⟨k, p, x.c, if k = 1 then ls.map sortI else ls, makeCs (shapeOf k p).2.toNat x.cs⟩
theorem shape_nn (k p : Int) (h : 0 ≤ p) : 0 ≤ (shapeOf k p).1 ∧ 0 ≤ (shapeOf k p).2 := by
 unfold shapeOf
 repeat' split
 all_goals simp
 all_goals omega
theorem canon_ok (x : It) (h : x.ok) : x.canon.ok := by
 refine ⟨?_, h.2⟩
 have := h.1
 simp only [It.canon, canon]
 split <;> omega
theorem c_law17_Make (x : Raw) (h : x.ok) (sg) : LL.call n_c_law17_Make [eRaw x] sg sg.length = some (eImK .x .o .x (makeI x), sg, sg.length) := by
 refine wp_call e_c_law17_Make rfl ?_
 have hk := kindOf_le x.k
 have hk0 : 0 ≤ kindOf x.k := by omega
 have h1 := c_law12_Kind x.k x.p sg
 have hs := shape_le _ _ (legal_kind x.k x.p)
 have hs0 := shape_nn (kindOf x.k) (paramOf x.k x.p) (by have := paramOf_le x.k x.p; omega)
 obtain ⟨n, hn⟩ : ∃ n : Nat, (shapeOf (kindOf x.k) (paramOf x.k x.p)).1 = n := ⟨(shapeOf (kindOf x.k) (paramOf x.k x.p)).1.toNat, by omega⟩
 obtain ⟨m, hm⟩ : ∃ m : Nat, (shapeOf (kindOf x.k) (paramOf x.k x.p)).2 = m := ⟨(shapeOf (kindOf x.k) (paramOf x.k x.p)).2.toNat, by omega⟩
 rw [hn, hm] at hs hs0
 simp [F_c_law17_Make, eRaw, h1, hk0, shape_get1 hk, shape_get2 hk, hn, hm]
 refine wc_up n (fun i => ⟨[(1, .q (.ptr 1 0)), (2, .q (.ptr 2 0)), (3, .v (.i .i64 (kindOf x.k))), (5, .q (.ptr 5 0)), (6, .v (.i .i64 n)), (7, .v (.i .i64 m)), (35, .v (.i .i64 n)), (36, .v (.i .i64 i))],
  [(1, [.i .i64 x.k, .i .i64 x.p, .i .u64 x.c, .l .z 2 (x.is.map eR), .l .z 1 (x.cs.map (.i .i64)), .i .i64 x.sp]), (2, [.i .i64 0, .i .i64 0, .i .u64 0, .l .x 1 [], .l .x 1 []]),
   (5, [.i .i64 (kindOf x.k), .i .i64 (paramOf x.k x.p), .i .u64 x.c, .l .x 1 (List.replicate i (.l .o 2 [])), .l .x 1 []])], sg, sg.length⟩) (fun _ => True) ?_ ?_ 0 (by omega) trivial
 ·intro i hi _ ih
  have hi' : (i : Int) < n := by omega
  have w : IntKind.i64.wrap (↑i + 1) = (i : Int) + 1 := wrap64 (by omega)
  have p1 : (i + 1) * 24 ≤ 140737488355328 := by omega
  simp [hi', w, p1]
  simpa [List.replicate_succ'] using ih trivial
 ·intro _
  simp
  have e0 : List.replicate n (D.l .o 2 []) = (List.replicate n ([] : List It)).map (eLK .o 2 eI) := by simp [eLK]
  rw [e0]
  refine wc_ind (fun a : Nat × List (List It) => ⟨[(1, .q (.ptr 1 0)), (2, .q (.ptr 2 0)), (3, .v (.i .i64 (kindOf x.k))), (5, .q (.ptr 5 0)), (6, .v (.i .i64 n)), (7, .v (.i .i64 m)), (8, .v (.i .i64 a.1))],
   [(1, [.i .i64 x.k, .i .i64 x.p, .i .u64 x.c, .l .z 2 (x.is.map eR), .l .z 1 (x.cs.map (.i .i64)), .i .i64 x.sp]), (2, [.i .i64 0, .i .i64 0, .i .u64 0, .l .x 1 [], .l .x 1 []]),
    (5, [.i .i64 (kindOf x.k), .i .i64 (paramOf x.k x.p), .i .u64 x.c, .l .x 1 (a.2.map (eLK .o 2 eI)), .l .x 1 []])], sg, sg.length⟩) (fun a => 60 - a.1) (fun a => a.1 ≤ 60 ∧ a.2.length = n ∧ (∀ l ∈ a.2, l.length ≤ a.1 ∧ ∀ y ∈ l, y.ok) ∧ (n ≠ 0 → dealI n a.2 a.1 ((x.is.take 60).drop a.1) = dealI n (List.replicate n []) 0 (x.is.take 60))) ?_ (0, List.replicate n []) ⟨by simp, by simp, by simp, by simp⟩
  rintro ⟨i, ls⟩ ⟨h1, h2, h4, h3⟩ ih
  simp only at h1 h2 h3 h4
  have w : IntKind.i64.wrap (↑i + 1) = (i : Int) + 1 := wrap64 (by omega)
  by_cases hgo : i < x.is.length ∧ i < 60 ∧ 0 < n
  ·obtain ⟨g1, g2, g3⟩ := hgo
   have g2' : (i : Int) < 60 := by omega
   have g3' : (0 : Int) < n := by omega
   have q1 : x.is[i]? = some x.is[i] := List.getElem?_eq_getElem g1
   have hr : Int.tmod (i : Int) n = ((i % n : Nat) : Int) := by rw [Int.tmod_eq_emod_of_nonneg (by omega)]; rfl
   have hlt : i % n < ls.length := by rw [h2]; exact Nat.mod_lt _ g3
   have q2 : ls[i % n]? = some ls[i % n] := List.getElem?_eq_getElem hlt
   have hx := h.1 _ (List.getElem_mem g1)
   have c1 := c_law04_Own x.is[i] sg
   have c2 := c_pile_Item_Canon x.is[i] hx sg
   simp at c1 c2
   have g3n : n ≠ 0 := by omega
   have hr2 : ((i : Int) % n).toNat = i % n := rfl
   have hr3 : (0 : Int) ≤ (i : Int) % n := Int.natCast_nonneg (i % n)
   simp [g1, g2', g3, g3', q1, hr, q2, hlt, c1, c2, g3n, hr2, hr3]
   have h5 := h4 _ (List.getElem_mem hlt)
   refine ⟨by omega, ?_⟩
   have e1 : (x.is.take 60).drop i = x.is[i] :: (x.is.take 60).drop (i + 1) := by
    rw [List.drop_eq_getElem_cons (by simp; omega)]; simp
   have := ih (i + 1, ls.set (i % n) (ls[i % n] ++ [x.is[i].canon])) (by simp; omega) ⟨by simp; omega, by simpa using h2, fun l hl => ?_, fun hn0 => ?_⟩
   ·simpa [w] using this
   ·rcases List.mem_or_eq_of_mem_set hl with hl | rfl
    ·exact ⟨by have := (h4 l hl).1; simp; omega, (h4 l hl).2⟩
    ·refine ⟨by simp; omega, fun y hy => ?_⟩
     rcases List.mem_append.1 hy with hy | hy
     ·exact h5.2 y hy
     ·simp at hy; subst hy; exact canon_ok _ hx
   ·rw [← h3 hn0, e1]; simp [dealI, q2]
  ·have hls : dealI n (List.replicate n []) 0 (if n = 0 then [] else x.is.take 60) = ls := by
    by_cases hn0 : n = 0
    ·subst hn0; simp [dealI]; exact List.length_eq_zero_iff.1 h2
    ·rw [if_neg hn0, ← h3 hn0]
     have : (x.is.take 60).drop i = [] := by apply List.drop_eq_nil_of_le; simp; omega
     rw [this]; rfl
   have hmk : makeI x = ⟨kindOf x.k, paramOf x.k x.p, x.c, if kindOf x.k = 1 then ls.map sortI else ls, makeCs m x.cs⟩ := by
    simp [makeI, hn, hm, hls]
   have hc : ¬ i < x.is.length ∨ (i < x.is.length ∧ ¬ (i : Int) < 60) ∨ (i < x.is.length ∧ (i : Int) < 60 ∧ ¬ 0 < n) := by omega
   rcases hc with g1 | ⟨g1, g2⟩ | ⟨g1, g2, g3⟩
   (simp [g1]) <;> skip
   rotate_left
   (simp [g1, g2]) <;> skip
   rotate_left
   (simp [g1, g2, g3]) <;> skip
   rotate_left
   all_goals
    refine wc_ind (fun a : Nat × List (List It) => ⟨[(1, .q (.ptr 1 0)), (2, .q (.ptr 2 0)), (3, .v (.i .i64 (kindOf x.k))), (5, .q (.ptr 5 0)), (7, .v (.i .i64 m)), (84, .v (.i .i64 ls.length)), (85, .v (.i .i64 a.1))],
     [(1, [.i .i64 x.k, .i .i64 x.p, .i .u64 x.c, .l .z 2 (x.is.map eR), .l .z 1 (x.cs.map (.i .i64)), .i .i64 x.sp]), (2, [.i .i64 0, .i .i64 0, .i .u64 0, .l .x 1 [], .l .x 1 []]), (5, [.i .i64 (kindOf x.k), .i .i64 (paramOf x.k x.p), .i .u64 x.c, .l .x 1 (a.2.map (eLK .o 2 eI)), .l .x 1 []])], sg, sg.length⟩)
     (fun a => ls.length - a.1) (fun a => a.1 ≤ ls.length ∧ a.2.length = ls.length ∧ ∀ t, a.2[t]? = if t < a.1 ∧ kindOf x.k = 1 then (ls[t]?).map sortI else ls[t]?) ?_ (0, ls) ⟨by simp, rfl, by simp⟩
    rintro ⟨j, cur⟩ ⟨p1, p2, p3⟩ ihj
    simp only at p1 p2 p3
    by_cases hj : j < ls.length
    ·have w3 : IntKind.i64.wrap (↑j + 1) = (j : Int) + 1 := wrap64 (by omega)
     have q1 : ls[j]? = some ls[j] := List.getElem?_eq_getElem hj
     have q2 : cur[j]? = some ls[j] := by rw [p3 j]; simp
     have hj2 : j < cur.length := by omega
     by_cases hk1 : kindOf x.k = 1
     ·have hs := c_law17_sorted ls[j] (h4 _ (List.getElem_mem hj)).2 (by have := (h4 _ (List.getElem_mem hj)).1; omega) sg
      have q3 : cur[j] = ls[j] := by have := List.getElem?_eq_getElem hj2; rw [q2] at this; exact (Option.some.inj this).symm
      simp [hj, hk1, q3, hs, hj2]
      have := ihj (j + 1, cur.set j (sortI ls[j])) (by simp; omega) ⟨by simp; omega, by simpa using p2, fun t => by
       rw [List.getElem?_set]
       by_cases e : j = t
       ·subst e; simp [hj2, hk1, q1]
       ·rw [if_neg e, p3 t]; simp [hk1]
        have : t < j + 1 ↔ t < j := by omega
        simp [this]⟩
      simpa [w3, hk1] using this
     ·have hk1' : (kindOf x.k == 1) = false := by simpa using hk1
      simp [hj, hk1']
      have := ihj (j + 1, cur) (by simp; omega) ⟨by simp; omega, p2, fun t => by rw [p3 t]; simp [hk1]⟩
      simpa [w3] using this
    ·simp [hj]
     have hcur : cur = (makeI x).ls := by
      rw [hmk]
      apply List.ext_getElem?
      intro t
      rw [p3 t]
      by_cases hk1 : kindOf x.k = 1
      ·simp only [hk1, if_true, List.getElem?_map]
       by_cases ht : t < j
       ·simp [ht]
       ·have : ls[t]? = none := List.getElem?_eq_none (by omega)
        simp [this]
      ·simp [hk1]
     have hcs : (makeI x).cs = makeCs m x.cs := by rw [hmk]
     have hki : (makeI x).k = kindOf x.k := by rw [hmk]
     have hpi : (makeI x).p = paramOf x.k x.p := by rw [hmk]
     have hci : (makeI x).c = x.c := by rw [hmk]
     rw [hcur]
     refine wc_up m (fun i => ⟨[(1, .q (.ptr 1 0)), (2, .q (.ptr 2 0)), (5, .q (.ptr 5 0)), (101, .v (.i .i64 m)), (102, .v (.i .i64 i))], [(1, [.i .i64 x.k, .i .i64 x.p, .i .u64 x.c, .l .z 2 (x.is.map eR), .l .z 1 (x.cs.map (.i .i64)), .i .i64 x.sp]), (2, [.i .i64 0, .i .i64 0, .i .u64 0, .l .x 1 [], .l .x 1 []]),
      (5, [.i .i64 (kindOf x.k), .i .i64 (paramOf x.k x.p), .i .u64 x.c, .l .x 1 ((makeI x).ls.map (eLK .o 2 eI)), .l .x 1 ((makeCs i x.cs).map (.i .i64))])], sg, sg.length⟩) (fun _ => True) ?_ ?_ 0 (by omega) trivial
     ·intro i hi _ ih
      have w : IntKind.i64.wrap (↑i + 1) = (i : Int) + 1 := wrap64 (by omega)
      have p1 : (i + 1) * 8 ≤ 140737488355328 := by omega
      by_cases hi2 : i < x.cs.length
      ·have q : x.cs[i]? = some x.cs[i] := List.getElem?_eq_getElem hi2
       have e : makeCs (i + 1) x.cs = makeCs i x.cs ++ [x.cs[i] % 1099511627776] := by simp [makeCs, List.range_succ, q]
       have el : (makeCs i x.cs).length = i := by simp [makeCs]
       simp [hi, hi2, q, i64_40, w, el, p1]
       simpa [e] using ih trivial
      ·have q : x.cs[i]? = none := List.getElem?_eq_none (by omega)
       have e : makeCs (i + 1) x.cs = makeCs i x.cs ++ [0] := by simp [makeCs, List.range_succ, q]
       have el : (makeCs i x.cs).length = i := by simp [makeCs]
       simp [hi, hi2, q, w, el, p1]
       simpa [e] using ih trivial
     ·intro _
      simp [eImK, hki, hpi, hci, hcs]
end Go.AM

namespace Go.AM
def eRmK (K1 K2 K3 : K) (x : Im) : D := .a [.i .i64 x.k, .i .i64 x.p, .i .u64 x.c, .l K1 1 (x.ls.map (eLK K2 2 eR)), .l K3 1 (x.cs.map (.i .i64))]
theorem zz_eRmK (K1 K2 K3 : K) (x : Im) : D.zz (eRmK K1 K2 K3 x) = eRm x := by simp [eRmK, eRm]
attribute [simp] zz_eRmK
def toldI (x : Im) : Im := { x with ls := x.ls.map (·.map It.canon) }
def Im.small (x : Im) : Prop := x.ls.length ≤ 1099511627776 ∧ x.cs.length ≤ 1099511627776 ∧ ∀ l ∈ x.ls, l.length ≤ 1099511627776
theorem c_law17_Told (x : Im) (h : x.ok) (hs : x.small) (sg) : LL.call n_c_law17_Told [eIm x] sg sg.length = some (eRmK .o .z .o (toldI x), sg, sg.length) := by
 refine wp_call e_c_law17_Told rfl ?_
 simp [F_c_law17_Told, eIm]
 obtain ⟨s1, s2, s3⟩ := hs
 refine wc_list x.ls (fun i (o : List (List It)) => ⟨[(1, .q (.ptr 1 0)), (2, .q (.ptr 2 0)), (3, .q (.ptr 3 0)), (19, .v (.l .z 1 (x.ls.map (eL 2 eI)))), (20, .v (.i .i64 x.ls.length)), (21, .v (.i .i64 i))],
  [(1, [.i .i64 x.k, .i .i64 x.p, .i .u64 x.c, .l .z 1 (x.ls.map (eL 2 eI)), .l .z 1 (x.cs.map (.i .i64))]), (2, [.i .i64 0, .i .i64 0, .i .u64 0, .l .o 1 [], .l .o 1 []]), (3, [.i .i64 x.k, .i .i64 x.p, .i .u64 x.c, .l .o 1 (o.map (eL 2 eR)), .l .o 1 []])], sg, sg.length⟩)
  (fun r o => o ++ r.map (·.map It.canon) = (toldI x).ls ∧ o.length + r.length = x.ls.length) ?_ ?_ [] ⟨rfl, by simp⟩
 ·rintro i l r o hi hlt ⟨h1, h2⟩ ih
  have hlt' : (i : Int) < x.ls.length := by omega
  simp at h2
  have w : IntKind.i64.wrap (↑i + 1) = (i : Int) + 1 := wrap64 (by omega)
  have hl := s3 l (mem_of_get hi)
  simp [hlt', hi]
  refine wc_list l (fun j (m : List It) => ⟨[(1, .q (.ptr 1 0)), (2, .q (.ptr 2 0)), (3, .q (.ptr 3 0)), (6, .v (.l .o 2 (m.map eR))), (19, .v (.l .z 1 (x.ls.map (eL 2 eI)))), (20, .v (.i .i64 x.ls.length)), (21, .v (.i .i64 i)), (26, .v (.l .z 2 (l.map eI))), (27, .v (.i .i64 l.length)), (28, .v (.i .i64 j))],
   [(1, [.i .i64 x.k, .i .i64 x.p, .i .u64 x.c, .l .z 1 (x.ls.map (eL 2 eI)), .l .z 1 (x.cs.map (.i .i64))]), (2, [.i .i64 0, .i .i64 0, .i .u64 0, .l .o 1 [], .l .o 1 []]), (3, [.i .i64 x.k, .i .i64 x.p, .i .u64 x.c, .l .o 1 (o.map (eL 2 eR)), .l .o 1 []])], sg, sg.length⟩)
   (fun r o => o ++ r.map It.canon = l.map It.canon ∧ o.length + r.length = l.length) ?_ ?_ [] ⟨rfl, by simp⟩
  ·rintro j y r2 m hj hjl ⟨g1, g2⟩ ih2
   have hjl' : (j : Int) < l.length := by omega
   simp at g2
   have w2 : IntKind.i64.wrap (↑j + 1) = (j : Int) + 1 := wrap64 (by omega)
   have hb := c_law04_Bits y (h.1 l (mem_of_get hi) y (mem_of_get hj)) sg
   simp at hb
   have p1 : (m.length + 1) * 16 ≤ 140737488355328 := by omega
   simp [hjl', hj, hb, w2, p1]
   simpa [It.canon] using ih2 (m ++ [y.canon]) ⟨by rw [← g1]; simp, by simp; omega⟩
  ·rintro m ⟨g1, g2⟩
   simp at g1
   have p1 : (o.length + 1) * 24 ≤ 140737488355328 := by omega
   simp [w, g1, p1]
   simpa using ih (o ++ [l.map It.canon]) ⟨by rw [← h1]; simp, by simp; omega⟩
 ·rintro o ⟨h1, h2⟩
  simp at h1
  simp [h1]
  refine wc_list x.cs (fun i (o : List Int) => ⟨[(2, .q (.ptr 2 0)), (3, .q (.ptr 3 0)), (49, .v (.l .z 1 (x.cs.map (.i .i64)))), (50, .v (.i .i64 x.cs.length)), (51, .v (.i .i64 i))],
   [(2, [.i .i64 0, .i .i64 0, .i .u64 0, .l .o 1 [], .l .o 1 []]), (3, [.i .i64 x.k, .i .i64 x.p, .i .u64 x.c, .l .o 1 ((toldI x).ls.map (eL 2 eR)), .l .o 1 (o.map (.i .i64))])], sg, sg.length⟩) (fun r o => o ++ r = x.cs ∧ o.length + r.length = x.cs.length) ?_ ?_ [] ⟨rfl, by simp⟩
  ·rintro i n r o hi hlt ⟨g1, g2⟩ ih
   simp at g2
   have hlt' : (i : Int) < x.cs.length := by omega
   have w : IntKind.i64.wrap (↑i + 1) = (i : Int) + 1 := wrap64 (by omega)
   have p1 : (o.length + 1) * 8 ≤ 140737488355328 := by omega
   simp [hlt', hi, w, p1]
   simpa using ih (o ++ [n]) ⟨by rw [← g1]; simp, by simp; omega⟩
  ·rintro o ⟨g1, g2⟩
   simp at g1
   have ec : (toldI x).cs = x.cs := rfl
   have ek : (toldI x).k = x.k := rfl
   have ep : (toldI x).p = x.p := rfl
   have ecl : (toldI x).c = x.c := rfl
   have ee : (eLK .z 2 eR : List It → D) = eL 2 eR := rfl
   simp [g1, eRmK, ec, ek, ep, ecl, ee]
end Go.AM

namespace Go.AM
theorem sum_le {α : Type} (B : Nat) (f : α → Nat) : ∀ l : List α, (∀ x ∈ l, f x ≤ B) → (l.map f).sum ≤ l.length * B
 | [], _ => by simp
 | x :: l, h => by
  have := sum_le B f l (fun y hy => h y (by simp [hy]))
  have := h x (by simp)
  simp only [List.map_cons, List.sum_cons, List.length_cons, Nat.succ_mul]; omega
theorem isum_le (B : Int) (hB : 0 ≤ B) : ∀ l : List Int, (∀ x ∈ l, 0 ≤ x ∧ x ≤ B) → 0 ≤ l.sum ∧ l.sum ≤ l.length * B
 | [], _ => by simp
 | x :: l, h => by
  have h1 := isum_le B hB l (fun y hy => h y (by simp [hy]))
  have h2 := h x (by simp)
  have e : ((x :: l).length : Int) * B = l.length * B + B := by simp [Int.add_mul]
  rw [List.sum_cons, e]; omega
theorem dealI_len (n : Nat) : ∀ (r : List It) (a : List (List It)) (i : Nat), (dealI n a i r).length = a.length
 | [], _, _ => rfl
 | x :: r, a, i => by rw [dealI, dealI_len n r]; simp
theorem dealI_all (n B : Nat) : ∀ (r : List It) (a : List (List It)) (i : Nat), (∀ l ∈ a, l.length ≤ B ∧ ∀ y ∈ l, y.ok ∧ y.canon = y) → (∀ y ∈ r, y.ok) → ∀ l ∈ dealI n a i r, l.length ≤ B + r.length ∧ ∀ y ∈ l, y.ok ∧ y.canon = y
 | [], a, i, h, _ => by simpa [dealI] using h
 | x :: r, a, i, h, hr => by
  rw [dealI]
  have := dealI_all n (B + 1) r (a.set (i % n) ((a[i % n]?).getD [] ++ [x.canon])) (i + 1) (fun l hl => by
   rcases List.mem_or_eq_of_mem_set hl with hl | rfl
   ·exact ⟨by have := (h l hl).1; omega, (h l hl).2⟩
   ·have : ∀ l, a[i % n]? = some l → l.length ≤ B ∧ ∀ y ∈ l, y.ok ∧ y.canon = y := fun l hl => h l (mem_of_get hl)
    have hx : x.canon.ok ∧ x.canon.canon = x.canon := ⟨canon_ok x (hr x (by simp)), by simp [It.canon, canon_canon]⟩
    cases e : a[i % n]? with
    | none => refine ⟨by simp, fun y hy => ?_⟩; simp at hy; subst hy; exact hx
    | some l =>
     refine ⟨by have := (this l e).1; simp; omega, fun y hy => ?_⟩
     rcases List.mem_append.1 hy with hy | hy
     ·exact (this l e).2 y (by simpa using hy)
     ·simp at hy; subst hy; exact hx) (fun y hy => hr y (by simp [hy]))
  intro l hl
  have := this l hl
  exact ⟨by simp; omega, this.2⟩
theorem makeI_k (x : Raw) : (makeI x).k = kindOf x.k := rfl
theorem makeI_p (x : Raw) : (makeI x).p = paramOf x.k x.p := rfl
theorem makeI_c (x : Raw) : (makeI x).c = x.c := rfl
theorem makeI_legal (x : Raw) : legal (makeI x).k (makeI x).p = 0 := legal_kind x.k x.p
theorem makeI_nn (x : Raw) : 0 ≤ (shapeOf (makeI x).k (makeI x).p).1 ∧ 0 ≤ (shapeOf (makeI x).k (makeI x).p).2 := shape_nn _ _ (by have := paramOf_le x.k x.p; rw [makeI_p]; omega)
theorem makeI_lens (x : Raw) : ((makeI x).ls.length : Int) = (shapeOf (makeI x).k (makeI x).p).1 ∧ ((makeI x).cs.length : Int) = (shapeOf (makeI x).k (makeI x).p).2 := by
 have h := makeI_nn x
 rw [makeI_k, makeI_p] at h ⊢
 constructor
 ·have : (makeI x).ls.length = (shapeOf (kindOf x.k) (paramOf x.k x.p)).1.toNat := by
   simp only [makeI]; split <;> simp [dealI_len]
  omega
 ·have : (makeI x).cs.length = (shapeOf (kindOf x.k) (paramOf x.k x.p)).2.toNat := by simp [makeI, makeCs]
  omega
theorem makeI_ls (x : Raw) (h : x.ok) : ∀ l ∈ (makeI x).ls, l.length ≤ 60 ∧ ∀ y ∈ l, y.ok ∧ y.canon = y := by
 have hd : ∀ l ∈ dealI (shapeOf (kindOf x.k) (paramOf x.k x.p)).1.toNat (List.replicate (shapeOf (kindOf x.k) (paramOf x.k x.p)).1.toNat []) 0 (if (shapeOf (kindOf x.k) (paramOf x.k x.p)).1.toNat = 0 then [] else x.is.take 60), l.length ≤ 60 ∧ ∀ y ∈ l, y.ok ∧ y.canon = y := by
  intro l hl
  have hy : ∀ y ∈ (if (shapeOf (kindOf x.k) (paramOf x.k x.p)).1.toNat = 0 then [] else x.is.take 60), y.ok := by
   intro y hy
   split at hy
   ·simp at hy
   ·exact h.1 y (List.mem_of_mem_take hy)
  have := dealI_all _ 0 _ (List.replicate (shapeOf (kindOf x.k) (paramOf x.k x.p)).1.toNat []) 0 (fun l hl => by rw [(List.mem_replicate.1 hl).2]; simp) hy l hl
  refine ⟨?_, this.2⟩
  have h2 := this.1
  have : (if (shapeOf (kindOf x.k) (paramOf x.k x.p)).1.toNat = 0 then [] else x.is.take 60).length ≤ 60 := by split <;> simp; omega
  omega
 simp only [makeI]
 split
 ·intro l hl
  obtain ⟨m, hm, rfl⟩ := List.mem_map.1 hl
  rw [sortI_len]
  exact ⟨(hd m hm).1, fun y hy => (hd m hm).2 y ((sortI_perm m).mem_iff.1 hy)⟩
 ·exact hd
theorem makeI_cs (x : Raw) : ∀ n ∈ (makeI x).cs, 0 ≤ n ∧ n ≤ 1099511627775 := by
 intro n hn
 simp only [makeI, makeCs, List.mem_map] at hn
 obtain ⟨i, _, rfl⟩ := hn
 split <;> omega
theorem makeI_sum (x : Raw) (h : x.ok) : ((makeI x).ls.map List.length).sum ≤ 960 := by
 have h1 := makeI_lens x
 have h2 := shape_le _ _ (makeI_legal x)
 have := sum_le 60 List.length (makeI x).ls (fun l hl => (makeI_ls x h l hl).1)
 have : (makeI x).ls.length ≤ 16 := by omega
 omega
theorem ordersE_zero (k : Int) : ∀ ls : List (List It), (∀ l ∈ ls, orderE k l = 0) → ordersE k ls = 0
 | [], _ => rfl
 | l :: r, h => by rw [ordersE_cons_eq _ _ _ (h l (by simp))]; exact ordersE_zero k r (fun m hm => h m (by simp [hm]))
theorem makeI_check (x : Raw) (h : x.ok) : checkI (makeI x) = 0 := by
 have h1 := makeI_lens x
 have h2 := shape_le _ _ (makeI_legal x)
 have ho : ordersE (makeI x).k (makeI x).ls = 0 := ordersE_zero _ _ (fun l hl => by
  by_cases hk : kindOf x.k = 1
  ·have hlen := (makeI_ls x h l hl).1
   rw [makeI_k, hk]
   have : ordered l = true := by
    simp only [makeI, hk, if_true] at hl
    obtain ⟨m, _, rfl⟩ := List.mem_map.1 hl
    exact sortI_ordered m
   simp [orderE, this]; omega
  ·rw [makeI_k]; simp [orderE, hk])
 have hc : countsE (makeI x).cs = 0 := by
  have h3 := makeI_cs x
  have h4 := isum_le 1099511627775 (by omega) _ h3
  have : ((makeI x).cs.length : Int) ≤ 16 := by omega
  unfold countsE
  rw [if_neg]
  simp only [Bool.or_eq_true, decide_eq_true_eq, List.any_eq_true]
  rintro (⟨n, hn, hb⟩ | hb)
  ·have := h3 n hn; simp [badN] at hb; omega
  ·omega
 have := makeI_sum x h
 simp only [checkI, makeI_legal, ho, hc]
 rw [if_neg (by omega), if_neg (by omega), if_neg (by omega), if_neg (by omega)]
theorem toldI_make (x : Raw) (h : x.ok) : toldI (makeI x) = makeI x := by
 have : (makeI x).ls.map (·.map It.canon) = (makeI x).ls := by
  conv => rhs; rw [← List.map_id (makeI x).ls]
  apply List.map_congr_left
  intro l hl
  conv => rhs; rw [id, ← List.map_id l]
  apply List.map_congr_left
  intro y hy
  exact ((makeI_ls x h l hl).2 y hy).2
 simp only [toldI, this]
end Go.AM

namespace Go.AM
theorem cmpI_zero {x y : It} (hx : x.ok) (hy : y.ok) : cmpI x y = 0 ↔ x.canon = y.canon := by
 have h1 : cmpN (key x.p) (key y.p) = 0 ↔ AM.canon x.p = AM.canon y.p := by
  constructor
  ·intro h
   refine keyC_inj (canon_lt hx.1) (canon_lt hy.1) ?_
   show key x.p = key y.p
   unfold cmpN at h
   split at h
   ·omega
   ·split at h <;> omega
  ·intro h
   have : key x.p = key y.p := by unfold key; rw [h]
   unfold cmpN; rw [this]; simp
 unfold It.canon cmpI
 by_cases h : AM.canon x.p = AM.canon y.p
 ·rw [if_neg (by simp [h1.2 h])]
  simp only [h, It.mk.injEq, true_and]
  unfold cmpV
  split
  ·omega
  ·split <;> omega
 ·have : cmpN (key x.p) (key y.p) ≠ 0 := fun h2 => h (h1.1 h2)
  rw [if_pos this]
  simp [h, this]
instance : DecidableEq Im := fun x y => decidable_of_iff (x.k = y.k ∧ x.p = y.p ∧ x.c = y.c ∧ x.ls = y.ls ∧ x.cs = y.cs) (by cases x; cases y; simp)
end Go.AM

namespace Go.AM
abbrev leI (a b : It) : Prop := ¬ ltI b a
theorem leI_refl (a : It) : leI a a := by unfold leI ltI; omega
theorem leI_trans {a b c : It} (h1 : leI a b) (h2 : leI b c) : leI a c := ltI_trans' h1 h2
theorem leI_of_lt {a b : It} (h : ltI a b) : leI a b := by unfold leI ltI at *; omega
theorem swp_get {h : List It} {i j : Nat} (hi : i < h.length) (hj : j < h.length) (k : Nat) : (swp h i j)[k]! = if k = j then h[i]! else if k = i then h[j]! else h[k]! := by
 unfold swp
 simp only [List.getElem!_eq_getElem?_getD, List.getElem?_set, List.length_set]
 by_cases e : j = k
 ·subst e; simp [hj]
 ·rw [if_neg e, if_neg (Ne.symm e)]
  by_cases e2 : i = k
  ·subst e2; simp [hi]
  ·rw [if_neg e2, if_neg (Ne.symm e2)]
def HP (h : List It) (s n : Nat) : Prop := ∀ j, 1 ≤ j → j < n → s ≤ (j - 1) / 2 → leI h[(j - 1) / 2]! h[j]!
def PreH (h : List It) (i s n : Nat) : Prop := s ≤ i ∧ (∀ j, 1 ≤ j → j < n → s ≤ (j - 1) / 2 → (j - 1) / 2 ≠ i → leI h[(j - 1) / 2]! h[j]!) ∧
 (1 ≤ i → s ≤ (i - 1) / 2 → ∀ c, (c - 1) / 2 = i → 1 ≤ c → c < n → leI h[(i - 1) / 2]! h[c]!)
theorem pre_swp {h : List It} {i s n c : Nat} (hn : n ≤ h.length) (hp : PreH h i s n) (hc : c = 2 * i + 1 ∨ c = 2 * i + 2) (hcn : c < n) (hlt : ltI h[c]! h[i]!)
    (hsib : ∀ d, (d = 2 * i + 1 ∨ d = 2 * i + 2) → d < n → leI h[c]! h[d]!) : PreH (swp h i c) c s n := by
 obtain ⟨h1, h2, h3⟩ := hp
 have hi : i < h.length := by omega
 have hcl : c < h.length := by omega
 refine ⟨by omega, fun j j1 j2 j3 j4 => ?_, fun _ _ d d1 d2 d3 => ?_⟩
 ·rw [swp_get hi hcl, swp_get hi hcl, if_neg j4]
  by_cases e : j = c
  ·rw [if_pos e, if_pos (by omega)]
   exact leI_of_lt hlt
  ·rw [if_neg e]
   by_cases e2 : j = i
   ·rw [if_pos e2, if_neg (by omega)]
    subst e2
    exact h3 j1 j3 c (by omega) (by omega) hcn
   ·rw [if_neg e2]
    by_cases e3 : (j - 1) / 2 = i
    ·rw [if_pos e3]
     exact hsib j (by omega) j2
    ·rw [if_neg e3]
     exact h2 j j1 j2 j3 e3
 ·rw [swp_get hi hcl, swp_get hi hcl, if_neg (by omega), if_pos (by omega), if_neg (by omega), if_neg (by omega)]
  have := h2 d d2 d3 (by omega) (by omega)
  rw [d1] at this; exact this
theorem hp_stop {h : List It} {i s n : Nat} (hp : PreH h i s n) (hle : ∀ d, (d = 2 * i + 1 ∨ d = 2 * i + 2) → d < n → leI h[i]! h[d]!) : HP h s n := by
 intro j j1 j2 j3
 by_cases e : (j - 1) / 2 = i
 ·rw [e]; exact hle j (by omega) j2
 ·exact hp.2.1 j j1 j2 j3 e
theorem dn_hp {h : List It} {i n s : Nat} (hn : n ≤ h.length) (hp : PreH h i s n) : HP (dn h i n).1 s n := by
 fun_induction dn h i n with
 | case1 h i h1 h2 h3 ih =>
  refine ih (by rw [swp_len]; exact hn) (pre_swp hn hp (.inr rfl) h2.1 ((cmpI_lt _ _).1 h3) ?_)
  rintro d (rfl | rfl) hd
  ·exact leI_of_lt ((cmpI_lt _ _).1 h2.2)
  ·exact leI_refl _
 | case2 h i h1 h2 h3 =>
  refine hp_stop hp ?_
  have e3 : leI h[i]! h[2 * i + 2]! := (cmpI_ge _ _).1 (by omega)
  rintro d (rfl | rfl) hd
  ·exact leI_trans e3 (leI_of_lt ((cmpI_lt _ _).1 h2.2))
  ·exact e3
 | case3 h i h1 h2 h3 ih =>
  refine ih (by rw [swp_len]; exact hn) (pre_swp hn hp (.inl rfl) h1 ((cmpI_lt _ _).1 h3) ?_)
  rintro d (rfl | rfl) hd
  ·exact leI_refl _
  ·exact (cmpI_ge _ _).1 (Int.not_lt.1 (fun e => h2 ⟨hd, e⟩))
 | case4 h i h1 h2 h3 =>
  refine hp_stop hp ?_
  have e3 : leI h[i]! h[2 * i + 1]! := (cmpI_ge _ _).1 (by omega)
  rintro d (rfl | rfl) hd
  ·exact e3
  ·exact leI_trans e3 ((cmpI_ge _ _).1 (Int.not_lt.1 (fun e => h2 ⟨hd, e⟩)))
 | case5 h i h1 =>
  refine hp_stop hp ?_
  rintro d (rfl | rfl) hd <;> omega
theorem dn_above {h : List It} {i n : Nat} (hn : n ≤ h.length) (k : Nat) (hk : n ≤ k) : (dn h i n).1[k]! = h[k]! := by
 fun_induction dn h i n with
 | case1 h i h1 h2 h3 ih => rw [ih (by rw [swp_len]; exact hn), swp_get (by omega) (by omega), if_neg (by omega), if_neg (by omega)]
 | case2 h i h1 h2 h3 => rfl
 | case3 h i h1 h2 h3 ih => rw [ih (by rw [swp_len]; exact hn), swp_get (by omega) (by omega), if_neg (by omega), if_neg (by omega)]
 | case4 h i h1 h2 h3 => rfl
 | case5 h i h1 => rfl
theorem hini_hp : ∀ (k : Nat) (h : List It), HP h k h.length → HP (hini h k) 0 h.length
 | 0, h, hp => hp
 | k + 1, h, hp => by
  rw [hini]
  have e := dn_len h k h.length (Nat.le_refl _)
  have := hini_hp k (dn h k h.length).1 (by
   rw [e]
   refine dn_hp (Nat.le_refl _) ⟨Nat.le_refl _, fun j j1 j2 j3 j4 => hp j j1 j2 (by omega), fun h1 h2 => by omega⟩)
  rw [e] at this; exact this
theorem newH_hp (l : List It) : HP (newH l) 0 (newH l).length := by
 rw [newH_len]
 have := hini_hp (l.length / 2) (l.map It.canon) (fun j j1 j2 j3 => by simp at j2; omega)
 simpa [newH] using this
theorem hp_min {h : List It} {n : Nat} (hp : HP h 0 n) : ∀ k, k < n → leI h[0]! h[k]! := by
 intro k
 induction k using Nat.strongRecOn with
 | ind k ih =>
  intro hk
  by_cases e : k = 0
  ·subst e; exact leI_refl _
  ·exact leI_trans (ih ((k - 1) / 2) (by omega) (by omega)) (hp k (by omega) hk (Nat.zero_le _))
theorem popH_first {h : List It} (h0 : h ≠ []) : (popH h).1 = h[0]! := by
 have hpos : 0 < h.length := List.length_pos_iff.2 h0
 show (dn (swp h 0 (h.length - 1)) 0 (h.length - 1)).1[h.length - 1]! = _
 rw [dn_above (by rw [swp_len]; omega) _ (Nat.le_refl _), swp_get hpos (by omega), if_pos rfl]
theorem popH_hp {h : List It} (h0 : h ≠ []) (hp : HP h 0 h.length) : HP (popH h).2 0 (popH h).2.length := by
 have hpos : 0 < h.length := List.length_pos_iff.2 h0
 rw [popH_len h0]
 have e : HP (dn (swp h 0 (h.length - 1)) 0 (h.length - 1)).1 0 (h.length - 1) := by
  refine dn_hp (by rw [swp_len]; omega) ⟨Nat.le_refl _, fun j j1 j2 j3 j4 => ?_, fun h1 => by omega⟩
  rw [swp_get hpos (by omega), swp_get hpos (by omega), if_neg (by omega), if_neg (by omega), if_neg (by omega), if_neg (by omega)]
  exact hp j j1 (by omega) j3
 intro j j1 j2 j3
 have e2 : ∀ k, k < h.length - 1 → (popH h).2[k]! = (dn (swp h 0 (h.length - 1)) 0 (h.length - 1)).1[k]! := by
  intro k hk
  simp only [popH, List.getElem!_eq_getElem?_getD, List.getElem?_take, if_pos hk]
 rw [e2 _ (by omega), e2 _ j2]
 exact e j j1 j2 j3
theorem allH_perm (h : List It) : (allH h).Perm h := by
 fun_induction allH h with
 | case1 => exact .refl _
 | case2 h h0 ih => exact (ih.cons _).trans (popH_perm h0)
theorem allH_ordered (h : List It) (hp : HP h 0 h.length) : (allH h).Pairwise leI := by
 fun_induction allH h with
 | case1 => exact .nil
 | case2 h h0 ih =>
  refine List.pairwise_cons.2 ⟨fun y hy => ?_, ih (popH_hp h0 hp)⟩
  have hy2 : y ∈ h := (popH_perm h0).mem_iff.1 (List.mem_cons_of_mem _ ((allH_perm _).mem_iff.1 hy))
  obtain ⟨k, hk, rfl⟩ := List.mem_iff_getElem.1 hy2
  rw [popH_first h0]
  have := hp_min hp k hk
  rwa [getElem!_pos h k hk] at this
theorem leI_antisymm {a b : It} (ha : a.ok) (hb : b.ok) (ca : a.canon = a) (cb : b.canon = b) (h1 : leI a b) (h2 : leI b a) : a = b := by
 have : cmpI a b = 0 := by
  have e1 := (cmpI_ge a b).2 h2
  have e2 := (cmpI_ge b a).2 h1
  rw [cmpI_swap] at e2
  omega
 have := (cmpI_zero ha hb).1 this
 rwa [ca, cb] at this
theorem ordered_unique {l m : List It} (hl : ∀ x ∈ l, x.ok ∧ x.canon = x) (h1 : l.Pairwise leI) (h2 : m.Pairwise leI) (hp : l.Perm m) : l = m := by
 refine List.Perm.eq_of_pairwise (le := leI) (fun a b ha hb e1 e2 => ?_) h1 h2 hp
 have hb' := hl b (hp.mem_iff.2 hb)
 have ha' := hl a ha
 exact leI_antisymm ha'.1 hb'.1 ha'.2 hb'.2 e1 e2
theorem allH_sort (l : List It) (hok : ∀ x ∈ l, x.ok) : allH (newH l) = sortI (l.map It.canon) := by
 refine ordered_unique (fun x hx => ?_) (allH_ordered _ (newH_hp l)) ((ordered_pw _).1 (sortI_ordered _)) ?_
 ·have := (newH_perm l).mem_iff.1 ((allH_perm _).mem_iff.1 hx)
  obtain ⟨y, hy, rfl⟩ := List.mem_map.1 this
  exact ⟨canon_okI (hok y hy), by simp [It.canon, canon_canon]⟩
 ·exact (allH_perm _).trans ((newH_perm l).trans (sortI_perm _).symm)
theorem c_Sorted (l : List It) (hl : l.length < 1000000000) (hok : ∀ x ∈ l, x.ok) (sg : List (List D)) :
    LL.call n_pile_Sorted [.l .z 2 (l.map eI)] sg sg.length = some (.l .o 2 ((sortI (l.map It.canon)).map eI), sg, sg.length) := by
 rw [c_pile_Sorted l hl hok sg, allH_sort l hok]
end Go.AM

namespace Go.AM
structure Vl where
 k : Int
 is : List It
 n : Int
 deriving DecidableEq
def eVl (K : K) (v : Vl) : D := .a [.i .i64 v.k, .l K 2 (v.is.map eI), .i .i64 v.n]
def eVr (K : K) (v : Vl) : D := .a [.i .i64 v.k, .l K 2 (v.is.map eR), .i .i64 v.n]
def valI (x : Im) : Vl := ⟨x.k, if x.k = 1 then sortI (x.ls.flatten.map It.canon) else x.ls.flatten, x.cs.sum⟩
theorem isum_nn : ∀ l : List Int, (∀ n ∈ l, 0 ≤ n) → 0 ≤ l.sum
 | [], _ => by simp
 | x :: l, h => by
  have := isum_nn l (fun n hn => h n (by simp [hn]))
  have := h x (by simp)
  simp only [List.sum_cons]; omega
theorem c_image_Value (x : Im) (ho : x.ok) (hs : x.ls.length ≤ 1099511627776 ∧ x.cs.length ≤ 1099511627776) (hc : ∀ n ∈ x.cs, 0 ≤ n) (hsum : x.cs.sum ≤ 1152921504606846976) (hit : x.ls.flatten.length < 1000000000) (sg) :
    LL.call n_image_Image_Value [eIm x] sg sg.length = some (eVl .o (valI x), sg, sg.length) := by
 generalize hr : eVl .o (valI x) = r
 refine wp_call e_image_Image_Value rfl ?_
 simp [F_image_Image_Value, eIm]
 obtain ⟨is, his⟩ : ∃ is, is = (valI x).is := ⟨_, rfl⟩
 have hsk : ∀ i, 0 ≤ (x.cs.take i).sum ∧ (x.cs.take i).sum ≤ x.cs.sum := by
  intro i
  have h1 : 0 ≤ (x.cs.take i).sum := isum_nn _ (fun n hn => hc n (List.mem_of_mem_take hn))
  have h2 : 0 ≤ (x.cs.drop i).sum := isum_nn _ (fun n hn => hc n (List.mem_of_mem_drop hn))
  have h3 : (x.cs.take i).sum + (x.cs.drop i).sum = x.cs.sum := by rw [← List.sum_append, List.take_append_drop]
  omega
 obtain ⟨fl, hfl⟩ : ∃ fl : Nat → List It, ∀ i, fl i = (x.ls.take i).flatten := ⟨_, fun _ => rfl⟩
 have fl0 : fl 0 = [] := by rw [hfl]; rfl
 have fln : fl x.ls.length = x.ls.flatten := by rw [hfl, List.take_length]
 have fls : ∀ i (hi : i < x.ls.length), fl (i + 1) = fl i ++ x.ls[i] := by
  intro i hi
  rw [hfl, hfl, List.take_succ_eq_append_getElem hi, List.flatten_append, List.flatten_cons, List.flatten_nil, List.append_nil]
 have fll : ∀ i, (fl i).length ≤ x.ls.flatten.length := by
  intro i
  have e : x.ls.flatten = (x.ls.take i).flatten ++ (x.ls.drop i).flatten := by rw [← List.flatten_append, List.take_append_drop]
  rw [hfl, e]; simp
 have e0 : (.l .o 2 [] : D) = .l .o 2 ((fl 0).map eI) := by rw [fl0]; rfl
 refine wc_up x.ls.length (fun i => ⟨[(1, .q (.ptr 1 0)), (2, .q (.ptr 2 0)), (3, .q (.ptr 3 0)), (12, .v (.l .z 1 (x.ls.map (eL 2 eI)))), (13, .v (.i .i64 x.ls.length)), (14, .v (.i .i64 i))],
  [(1, [.i .i64 x.k, .i .i64 x.p, .i .u64 x.c, .l .z 1 (x.ls.map (eL 2 eI)), .l .z 1 (x.cs.map (.i .i64))]), (2, [.i .i64 0, .l .o 2 [], .i .i64 0]), (3, [.i .i64 x.k, if i = 0 then .l .o 2 [] else .l .o 2 ((fl i).map eI), .i .i64 0])], sg, sg.length⟩) (fun _ => True) ?_ ?_ 0 (by omega) trivial
 ·intro i hi _ ih
  have ih := ih trivial
  have w1 : IntKind.i64.wrap ((i : Int) + 1) = ((i + 1 : Nat) : Int) := by rw [wrap64 (by omega)]; omega
  have hlen := fll (i + 1)
  have e1 : (if i = 0 then .l .o 2 [] else .l .o 2 ((fl i).map eI) : D) = .l .o 2 ((fl i).map eI) := by
   split
   ·rename_i h; subst h; exact e0
   ·rfl
  rw [fls i hi] at ih hlen
  rw [List.length_append] at hlen
  simp only [e1]
  simp [hi, w1, eL]
  refine ⟨by omega, ?_⟩
  simpa using ih
 ·intro _
  have e1 : (if x.ls.length = 0 then .l .o 2 [] else .l .o 2 ((fl x.ls.length).map eI) : D) = .l .o 2 ((fl x.ls.length).map eI) := by
   split
   ·rename_i h; rw [h]; exact e0
   ·rfl
  simp only [e1]
  simp only [fln]
  obtain ⟨is0, his0⟩ : ∃ is0, is0 = x.ls.flatten := ⟨_, rfl⟩
  have S1 := c_Sorted is0 (by rw [his0]; exact hit) (fun y hy => by
      rw [his0] at hy
      obtain ⟨l, hl, hy⟩ := List.mem_flatten.1 hy
      exact ho.1 l hl y hy) sg
  rw [← his0]
  have L : ∀ js : List It, js = is → True := fun _ _ => trivial
  simp
  refine bq_i (fun c1 => ?_) (fun c1 => ?_) <;> (have c1' := c1) <;> simp at c1'
  ·have ei : sortI (is0.map It.canon) = is := by rw [his, his0]; simp [valI, c1']
   rw [ei] at S1
   simp [S1]
   refine wc_up x.cs.length (fun i => ⟨[(2, .q (.ptr 2 0)), (3, .q (.ptr 3 0)), (32, .v (.l .z 1 (x.cs.map (.i .i64)))), (33, .v (.i .i64 x.cs.length)), (34, .v (.i .i64 i))],
    [(2, [.i .i64 0, .l .o 2 [], .i .i64 0]), (3, [.i .i64 x.k, .l .o 2 (is.map eI), .i .i64 (x.cs.take i).sum])], sg, sg.length⟩) (fun _ => True) ?_ ?_ 0 (by omega) trivial
   ·intro i hi _ ih
    have ih := ih trivial
    have w1 : IntKind.i64.wrap ((i : Int) + 1) = ((i + 1 : Nat) : Int) := by rw [wrap64 (by omega)]; omega
    have hs1 := hsk (i + 1)
    have e2 : (x.cs.take (i + 1)).sum = (x.cs.take i).sum + x.cs[i] := by rw [List.take_succ_eq_append_getElem hi, List.sum_append]; simp
    rw [e2] at ih hs1
    have w2 : IntKind.i64.wrap ((x.cs.take i).sum + x.cs[i]) = (x.cs.take i).sum + x.cs[i] := wrap64 (by omega)
    simp [hi, w1, w2]
    simpa using ih
   ·intro _
    subst hr
    simp [List.take_length, eVl, his, valI]
  ·have ei : is0 = is := by rw [his, his0]; simp [valI, c1']
   rw [ei]
   simp
   refine wc_up x.cs.length (fun i => ⟨[(2, .q (.ptr 2 0)), (3, .q (.ptr 3 0)), (32, .v (.l .z 1 (x.cs.map (.i .i64)))), (33, .v (.i .i64 x.cs.length)), (34, .v (.i .i64 i))],
    [(2, [.i .i64 0, .l .o 2 [], .i .i64 0]), (3, [.i .i64 x.k, .l .o 2 (is.map eI), .i .i64 (x.cs.take i).sum])], sg, sg.length⟩) (fun _ => True) ?_ ?_ 0 (by omega) trivial
   ·intro i hi _ ih
    have ih := ih trivial
    have w1 : IntKind.i64.wrap ((i : Int) + 1) = ((i + 1 : Nat) : Int) := by rw [wrap64 (by omega)]; omega
    have hs1 := hsk (i + 1)
    have e2 : (x.cs.take (i + 1)).sum = (x.cs.take i).sum + x.cs[i] := by rw [List.take_succ_eq_append_getElem hi, List.sum_append]; simp
    rw [e2] at ih hs1
    have w2 : IntKind.i64.wrap ((x.cs.take i).sum + x.cs[i]) = (x.cs.take i).sum + x.cs[i] := wrap64 (by omega)
    simp [hi, w1, w2]
    simpa using ih
   ·intro _
    subst hr
    simp [List.take_length, eVl, his, valI]
end Go.AM

namespace Go.AM
def withI (x : It) : List It → List It
 | [] => [x]
 | y :: l => if cmpI x y < 0 then x :: y :: l else y :: withI x l
theorem c_ref04_With (x : It) (l : List It) (hx : x.ok) (hl : ∀ y ∈ l, y.ok) (hn : l.length < 1000000000) (sg) :
    LL.call n_c_ref04_With [.l .z 2 (l.map eR), eR x] sg sg.length = some (.l .o 2 ((withI x l).map eR), sg, sg.length) := by
 generalize hr : withI x l = r
 refine wp_call e_c_ref04_With rfl ?_
 simp [F_c_ref04_With]
 refine wc_list l (fun i (a : List It × Bool) => ⟨[(3, .q (.ptr 3 0)), (5, .v (.l .o 2 (a.1.map eR))), (6, .v (.b a.2)), (10, .v (.l .z 2 (l.map eR))), (11, .v (.i .i64 l.length)), (12, .v (.i .i64 i))],
  [(3, [.i .u64 x.p, .i .i64 x.v])], sg, sg.length⟩) (fun rest a => a.1 ++ (if a.2 then rest else withI x rest) = r ∧ a.1.length + rest.length ≤ l.length + (if a.2 then 1 else 0)) ?_ ?_ ([], false) ⟨by simpa using hr, by simp⟩
 ·rintro i y rest ⟨o, b⟩ hi hlt ⟨h1, h2⟩ ih
  simp only at h1 h2
  simp at h2
  have w1 : IntKind.i64.wrap ((i : Int) + 1) = (i : Int) + 1 := wrap64 (by omega)
  have hlt' : (i : Int) < l.length := by omega
  have C1 := c_ref04_Cmp x y hx (hl _ (mem_of_get hi)) sg
  simp at C1
  cases b with
  | true =>
   simp at h1
   have ih := ih (o ++ [y], true) ⟨by simpa using h1, by simp at h2 ⊢; omega⟩
   simp at h2
   simp [hlt', hi, w1]
   exact ⟨by omega, by simpa using ih⟩
  | false =>
   simp [withI] at h1
   simp at h2
   simp [hlt', hi, w1, C1]
   refine bq_i (fun c => ?_) (fun c => ?_) <;> (have c' := c) <;> simp at c'
   ·rw [if_pos c'] at h1
    have ih := ih (o ++ [x] ++ [y], true) ⟨by simpa using h1, by simp; omega⟩
    simp [c, w1]
    exact ⟨by omega, by omega, by simpa using ih⟩
   ·rw [if_neg (by omega)] at h1
    have ih := ih (o ++ [y], false) ⟨by simpa using h1, by simp; omega⟩
    simp [c, w1]
    exact ⟨by omega, by simpa using ih⟩
 ·rintro ⟨o, b⟩ ⟨h1, h2⟩
  simp only at h1 h2
  simp at h2
  cases b with
  | true =>
   simp at h1
   subst h1
   simp
  | false =>
   simp [withI] at h1
   subst h1
   simp at h2
   simp
   omega
theorem withI_perm (x : It) : ∀ l : List It, (withI x l).Perm (x :: l)
 | [] => .refl _
 | y :: l => by
  unfold withI
  split
  ·exact .refl _
  ·exact ((withI_perm x l).cons y).trans (.swap x y l)
theorem withI_len (x : It) (l : List It) : (withI x l).length = l.length + 1 := by have := (withI_perm x l).length_eq; simpa using this
theorem withI_ordered (x : It) : ∀ l : List It, l.Pairwise leI → (withI x l).Pairwise leI
 | [], _ => by simp [withI]
 | y :: l, h => by
  obtain ⟨h1, h2⟩ := List.pairwise_cons.1 h
  unfold withI
  split
  ·rename_i hc
   have hxy : leI x y := leI_of_lt ((cmpI_lt _ _).1 hc)
   refine List.pairwise_cons.2 ⟨fun z hz => ?_, h⟩
   rcases List.mem_cons.1 hz with rfl | hz
   ·exact hxy
   ·exact leI_trans hxy (h1 z hz)
  ·rename_i hc
   have hyx : leI y x := (cmpI_ge _ _).1 (by omega)
   refine List.pairwise_cons.2 ⟨fun z hz => ?_, withI_ordered x l h2⟩
   rcases List.mem_cons.1 ((withI_perm x l).mem_iff.1 hz) with rfl | hz
   ·exact hyx
   ·exact h1 z hz
def withs (l : List It) (o : List It) : List It := l.foldl (fun o x => withI x o) o
theorem withs_perm : ∀ (l o : List It), (withs l o).Perm (o ++ l)
 | [], o => by simp [withs]
 | x :: l, o => by
  refine (withs_perm l (withI x o)).trans ?_
  exact ((withI_perm x o).append_right l).trans List.perm_middle.symm
theorem withs_ordered : ∀ (l o : List It), o.Pairwise leI → (withs l o).Pairwise leI
 | [], o, h => h
 | x :: l, o, h => withs_ordered l _ (withI_ordered x o h)
theorem withs_sort (l : List It) (h : ∀ x ∈ l, x.ok ∧ x.canon = x) : withs l [] = sortI l := by
 refine ordered_unique (fun x hx => h x ?_) (withs_ordered l [] .nil) ((ordered_pw _).1 (sortI_ordered _)) ?_
 ·have := (withs_perm l []).mem_iff.1 hx
  simpa using this
 ·have := withs_perm l []
  exact (by simpa using this : (withs l []).Perm l).trans (sortI_perm l).symm
theorem c_ref17_Value (x : Im) (ho : x.ok) (hs : x.ls.length ≤ 1099511627776 ∧ x.cs.length ≤ 1099511627776) (hc : ∀ n ∈ x.cs, 0 ≤ n) (hsum : x.cs.sum ≤ 1152921504606846976) (hit : x.ls.flatten.length < 1000000000) (sg) :
    LL.call n_c_ref17_Value [eRm x] sg sg.length = some (eVr .o ⟨x.k, if x.k = 1 then withs x.ls.flatten [] else x.ls.flatten, x.cs.sum⟩, sg, sg.length) := by
 generalize hr : eVr .o ⟨x.k, if x.k = 1 then withs x.ls.flatten [] else x.ls.flatten, x.cs.sum⟩ = r
 refine wp_call e_c_ref17_Value rfl ?_
 have hsk : ∀ i, 0 ≤ (x.cs.take i).sum ∧ (x.cs.take i).sum ≤ x.cs.sum := by
  intro i
  have h1 : 0 ≤ (x.cs.take i).sum := isum_nn _ (fun n hn => hc n (List.mem_of_mem_take hn))
  have h2 : 0 ≤ (x.cs.drop i).sum := isum_nn _ (fun n hn => hc n (List.mem_of_mem_drop hn))
  have h3 : (x.cs.take i).sum + (x.cs.drop i).sum = x.cs.sum := by rw [← List.sum_append, List.take_append_drop]
  omega
 obtain ⟨g, hg⟩ : ∃ g : List It → List It → List It, ∀ l o, g l o = if x.k = 1 then withs l o else o ++ l := ⟨_, fun _ _ => rfl⟩
 obtain ⟨gl, hgl⟩ : ∃ gl : It → List It → List It, ∀ y o, gl y o = if x.k = 1 then withI y o else o ++ [y] := ⟨_, fun _ _ => rfl⟩
 have gc : ∀ y l o, g (y :: l) o = g l (gl y o) := by
  intro y l o
  rw [hg, hg, hgl]
  split <;> simp [withs]
 have ga : ∀ l m o, g (l ++ m) o = g m (g l o) := by
  intro l m o
  rw [hg, hg, hg]
  split <;> simp [withs]
 have gn : ∀ o, g [] o = o := by intro o; rw [hg]; split <;> simp [withs]
 have glen : ∀ y o, (gl y o).length = o.length + 1 := by intro y o; rw [hgl]; split <;> simp [withI_len]
 have gok : ∀ y o, y.ok → (∀ z ∈ o, z.ok) → ∀ z ∈ gl y o, z.ok := by
  intro y o hy ho z hz
  rw [hgl] at hz
  split at hz
  ·rcases List.mem_cons.1 ((withI_perm y o).mem_iff.1 hz) with rfl | hz
   ·exact hy
   ·exact ho z hz
  ·simp at hz
   rcases hz with hz | rfl
   ·exact ho z hz
   ·exact hy
 simp [F_c_ref17_Value, eRm]
 refine wc_list x.ls (fun i (o : List It) => ⟨[(1, .q (.ptr 1 0)), (2, .q (.ptr 2 0)), (3, .q (.ptr 3 0)), (14, .v (.l .z 1 (x.ls.map (eL 2 eR)))), (15, .v (.i .i64 x.ls.length)), (16, .v (.i .i64 i))],
  [(1, [.i .i64 x.k, .i .i64 x.p, .i .u64 x.c, .l .z 1 (x.ls.map (eL 2 eR)), .l .z 1 (x.cs.map (.i .i64))]), (2, [.i .i64 0, .l .o 2 [], .i .i64 0]), (3, [.i .i64 x.k, .l .o 2 (o.map eR), .i .i64 0])], sg, sg.length⟩)
  (fun rest o => g rest.flatten o = g x.ls.flatten [] ∧ o.length + rest.flatten.length = x.ls.flatten.length ∧ (∀ z ∈ o, z.ok)) ?_ ?_ [] ⟨rfl, by simp, by simp⟩
 ·rintro i l rest o hi hlt ⟨h1, h2, h3⟩ ih
  have w1 : IntKind.i64.wrap ((i : Int) + 1) = (i : Int) + 1 := wrap64 (by omega)
  have hlt' : (i : Int) < x.ls.length := by omega
  have hlo := ho.1 l (mem_of_get hi)
  simp only [List.flatten_cons] at h1 h2
  rw [ga] at h1
  rw [List.length_append] at h2
  simp [hlt', hi, eL]
  refine wc_list l (fun j (o' : List It) => ⟨[(1, .q (.ptr 1 0)), (2, .q (.ptr 2 0)), (3, .q (.ptr 3 0)), (14, .v (.l .z 1 (x.ls.map (eL 2 eR)))), (15, .v (.i .i64 x.ls.length)), (16, .v (.i .i64 i)), (20, .v (.l .z 2 (l.map eR))), (21, .v (.i .i64 l.length)), (22, .v (.i .i64 j))],
   [(1, [.i .i64 x.k, .i .i64 x.p, .i .u64 x.c, .l .z 1 (x.ls.map (eL 2 eR)), .l .z 1 (x.cs.map (.i .i64))]), (2, [.i .i64 0, .l .o 2 [], .i .i64 0]), (3, [.i .i64 x.k, .l .o 2 (o'.map eR), .i .i64 0])], sg, sg.length⟩)
   (fun rest' o' => g rest' o' = g l o ∧ o'.length + rest'.length = o.length + l.length ∧ (∀ z ∈ o', z.ok)) ?_ ?_ o ⟨rfl, rfl, h3⟩
  ·rintro j y rest' o' hj hlj ⟨q1, q2, q3⟩ ih2
   have hlj' : (j : Int) < l.length := by omega
   have hy := hlo y (mem_of_get hj)
   have w2 : IntKind.i64.wrap ((j : Int) + 1) = (j : Int) + 1 := wrap64 (by omega)
   simp only [List.length_cons] at q2
   rw [gc] at q1
   have ih2 := ih2 (gl y o') ⟨q1, by rw [glen]; omega, gok y o' hy q3⟩
   rw [hgl] at ih2
   have W1 := c_ref04_With y o' hy q3 (by omega) sg
   simp at W1
   simp [hlj', hj]
   refine bq_i (fun c => ?_) (fun c => ?_) <;> (have c' := c) <;> simp at c'
   ·rw [if_pos c'] at ih2
    simp [c, W1, w2]
    simpa using ih2
   ·rw [if_neg c'] at ih2
    simp [c, w2]
    exact ⟨by omega, by simpa using ih2⟩
  ·rintro o' ⟨q1, q2, q3⟩
   rw [gn] at q1
   subst q1
   simp only [List.length_nil] at q2
   have ih := ih _ ⟨h1, by omega, q3⟩
   simp [w1]
   simpa using ih
 ·rintro o ⟨h1, h2, h3⟩
  rw [List.flatten_nil, gn, hg] at h1
  simp
  refine wc_up x.cs.length (fun i => ⟨[(2, .q (.ptr 2 0)), (3, .q (.ptr 3 0)), (43, .v (.l .z 1 (x.cs.map (.i .i64)))), (44, .v (.i .i64 x.cs.length)), (45, .v (.i .i64 i))],
   [(2, [.i .i64 0, .l .o 2 [], .i .i64 0]), (3, [.i .i64 x.k, .l .o 2 (o.map eR), .i .i64 (x.cs.take i).sum])], sg, sg.length⟩) (fun _ => True) ?_ ?_ 0 (by omega) trivial
  ·intro i hi _ ih
   have ih := ih trivial
   have w1 : IntKind.i64.wrap ((i : Int) + 1) = ((i + 1 : Nat) : Int) := by rw [wrap64 (by omega)]; omega
   have hs1 := hsk (i + 1)
   have e2 : (x.cs.take (i + 1)).sum = (x.cs.take i).sum + x.cs[i] := by rw [List.take_succ_eq_append_getElem hi, List.sum_append]; simp
   rw [e2] at ih hs1
   have w2 : IntKind.i64.wrap ((x.cs.take i).sum + x.cs[i]) = (x.cs.take i).sum + x.cs[i] := wrap64 (by omega)
   simp [hi, w1, w2]
   simpa using ih
  ·intro _
   subst hr
   simp at h1
   simp [List.take_length, eVr, ← h1]
theorem c_ref17_ValueI (x : Im) (ho : x.ok) (hs : x.ls.length ≤ 1099511627776 ∧ x.cs.length ≤ 1099511627776) (hc : ∀ n ∈ x.cs, 0 ≤ n) (hsum : x.cs.sum ≤ 1152921504606846976) (hit : x.ls.flatten.length < 1000000000)
    (hcan : ∀ l ∈ x.ls, ∀ y ∈ l, y.canon = y) (sg) : LL.call n_c_ref17_Value [eRm x] sg sg.length = some (eVr .o (valI x), sg, sg.length) := by
 have hcan' : ∀ y ∈ x.ls.flatten, y.ok ∧ y.canon = y := by
  intro y hy
  obtain ⟨l, hl, hy⟩ := List.mem_flatten.1 hy
  exact ⟨ho.1 l hl y hy, hcan l hl y hy⟩
 have e : x.ls.flatten.map It.canon = x.ls.flatten := by
  refine (List.map_congr_left (fun y hy => (hcan' y hy).2)).trans (List.map_id _)
 rw [c_ref17_Value x ho hs hc hsum hit sg, valI, e, withs_sort _ hcan']
end Go.AM

namespace Go.AM
def cntD (m n i : Nat) : Nat := m / n + if i < m % n then 1 else 0
theorem qr (m n : Nat) (hn : 0 < n) : ∃ q r, m = n * q + r ∧ r < n ∧ m / n = q ∧ m % n = r := ⟨m / n, m % n, (Nat.div_add_mod m n).symm, Nat.mod_lt _ hn, rfl, rfl⟩
theorem cntD_succ {m n i : Nat} (hi : i < n) : cntD (m + 1) n i = cntD m n i + if i = m % n then 1 else 0 := by
 obtain ⟨q, r, e, hr, e1, e2⟩ := qr m n (by omega)
 unfold cntD
 rw [e1, e2]
 have e3 : m + 1 = n * q + (r + 1) := by omega
 rw [e3, Nat.mul_add_div (by omega), Nat.mul_add_mod]
 by_cases h : r + 1 < n
 ·rw [Nat.div_eq_of_lt h, Nat.mod_eq_of_lt h]
  repeat' split
  all_goals omega
 ·have : r + 1 = n := by omega
  rw [this, Nat.div_self (by omega), Nat.mod_self]
  repeat' split
  all_goals omega
theorem cntD_eq {m n i : Nat} (hi : i < n) : (m + (n - 1 - i)) / n = cntD m n i := by
 obtain ⟨q, r, e, hr, e1, e2⟩ := qr m n (by omega)
 unfold cntD
 rw [e1, e2, e, Nat.add_assoc, Nat.mul_add_div (by omega)]
 by_cases h : r + (n - 1 - i) < n
 ·rw [Nat.div_eq_of_lt h, if_neg (by omega)]
 ·have : (r + (n - 1 - i)) / n = 1 := by
   rw [Nat.div_eq_iff (by omega)]; omega
  rw [this, if_pos (by omega)]
theorem cntD_zero (n i : Nat) : cntD 0 n i = 0 := by simp [cntD]
theorem cntD_at {m n : Nat} (hn : 0 < n) : m % n + cntD m n (m % n) * n = m := by
 obtain ⟨q, r, e, hr, e1, e2⟩ := qr m n hn
 unfold cntD
 rw [e1, e2, if_neg (by omega), Nat.add_zero, e, Nat.mul_comm]; omega
theorem cntD_le (m n i : Nat) (hi : i < n) : cntD m n i ≤ m := by
 induction m with
 | zero => rw [cntD_zero]; omega
 | succ m ih => rw [cntD_succ hi]; split <;> omega
theorem cntD_lt {n i : Nat} (hi : i < n) : ∀ (m j : Nat), j < cntD m n i → i + j * n < m
 | 0, j, h => by rw [cntD_zero] at h; omega
 | m + 1, j, h => by
  rw [cntD_succ hi] at h
  by_cases h2 : j < cntD m n i
  ·have := cntD_lt hi m j h2; omega
  ·have h3 : i = m % n := by
    apply Decidable.byContradiction
    intro h4
    rw [if_neg h4] at h; omega
   have h4 : j = cntD m n i := by split at h <;> omega
   have := cntD_at (m := m) (n := n) (by omega)
   rw [← h3, ← h4] at this
   omega
theorem cntD_ge {n i : Nat} (hi : i < n) : ∀ m : Nat, m ≤ i + cntD m n i * n
 | 0 => by omega
 | m + 1 => by
  have ih := cntD_ge hi m
  rw [cntD_succ hi]
  by_cases h : i = m % n
  ·rw [if_pos h, Nat.add_mul]; omega
  ·simp only [if_neg h, Nat.add_zero]
   apply Decidable.byContradiction
   intro h2
   have e : m = i + cntD m n i * n := by omega
   have : m % n = i := by
    rw [e, Nat.add_mul_mod_self_right, Nat.mod_eq_of_lt hi]
   exact h this.symm
def dealO (l : List It) (n m : Nat) : List (List It) := (List.range n).map fun i => (List.range (cntD m n i)).map fun j => l[i + j * n]!
theorem dealO_len (l : List It) (n m : Nat) : (dealO l n m).length = n := by simp [dealO]
theorem dealO_zero (l : List It) (n : Nat) : dealO l n 0 = List.replicate n [] := by
 simp only [dealO, cntD_zero]
 exact List.ext_getElem (by simp) (by simp)
theorem dealO_get (l : List It) (n m i : Nat) (hi : i < n) : (dealO l n m)[i]'(by rw [dealO_len]; exact hi) = (List.range (cntD m n i)).map fun j => l[i + j * n]! := by simp [dealO]
theorem dealO_succ (l : List It) (n m : Nat) (hn : 0 < n) : dealO l n (m + 1) = (dealO l n m).set (m % n) ((dealO l n m)[m % n]'(by rw [dealO_len]; exact Nat.mod_lt _ hn) ++ [l[m]!]) := by
 apply List.ext_getElem
 ·simp [dealO_len]
 ·intro i h1 h2
  rw [dealO_len] at h1
  have a1 := dealO_get l n m (m % n) (Nat.mod_lt _ hn)
  have a2 := dealO_get l n m i h1
  have a3 := dealO_get l n (m + 1) i h1
  rw [List.getElem_set, a3, cntD_succ h1]
  by_cases e : m % n = i
  ·subst e
   rw [if_pos rfl, if_pos rfl, a1, List.range_succ, List.map_append]
   simp [cntD_at hn]
  ·rw [if_neg e, if_neg (Ne.symm e), Nat.add_zero, a2]
def dealD (l : List It) (n : Int) : List (List It) := if 0 < n then dealO l n.toNat l.length else []
theorem c_spread_Deal (l : List It) (n : Int) (hl : l.length ≤ 1000000) (hn : n ≤ 1000000) (hn2 : -9223372036854775808 ≤ n) (sg) : LL.call n_spread_Deal [.l .z 2 (l.map eI), .i .i64 n] sg sg.length = some (.l .x 1 ((dealD l n).map (eLK .o 2 eI)), sg, sg.length) := by
 refine wp_call e_spread_Deal rfl ?_
 by_cases hpos : 0 < n
 ·obtain ⟨k, rfl⟩ : ∃ k : Nat, n = k := ⟨n.toNat, by omega⟩
  have hk : 0 < k := by omega
  have e0 : List.replicate k (D.l .o 2 []) = (dealO l k 0).map (eLK .o 2 eI) := by rw [dealO_zero]; simp [eLK]
  have m1 : (if (k : Int) < 0 then (0 : Int) else k) = k := by rw [if_neg (by omega)]
  have hd : dealD l k = dealO l k l.length := by simp [dealD, hk]
  simp only [F_spread_Deal, hd]
  generalize hr : dealO l k l.length = r
  simp [m1]
  refine ⟨by omega, ?_⟩
  rw [e0]
  refine wc_up l.length (fun i => match i with
   | 0 => ⟨[(0, .v (.l .z 2 (l.map eI))), (1, .v (.i .i64 k)), (5, .v (.l .x 1 ((dealO l k 0).map (eLK .o 2 eI)))), (6, .v (.i .i64 0))], [], sg, sg.length⟩
   | i + 1 => ⟨[(0, .v (.l .z 2 (l.map eI))), (1, .v (.i .i64 k)), (5, .q (.hdr 5)), (6, .v (.i .i64 (i + 1)))], [(5, [.l .x 1 ((dealO l k (i + 1)).map (eLK .o 2 eI))])], sg, sg.length⟩) (fun _ => True) ?_ ?_ 0 (by omega) trivial
  ·intro i hi _ ih
   have ih := ih trivial
   have hi' : (i : Int) < l.length := by omega
   have q1 : l[i]? = some l[i] := List.getElem?_eq_getElem hi
   have hr1 : Int.tmod (i : Int) k = ((i % k : Nat) : Int) := by rw [Int.tmod_eq_emod_of_nonneg (by omega)]; rfl
   have hlt : i % k < (dealO l k i).length := by rw [dealO_len]; exact Nat.mod_lt _ hk
   obtain ⟨x, hx⟩ : ∃ x, x = (dealO l k i)[i % k] := ⟨_, rfl⟩
   have q2 : (dealO l k i)[i % k]? = some x := by rw [hx]; exact List.getElem?_eq_getElem hlt
   have hxl : x.length ≤ l.length := by
    rw [hx, dealO_get _ _ _ _ (Nat.mod_lt _ hk)]
    have := cntD_le i k (i % k) (Nat.mod_lt _ hk)
    simp; omega
   have hk0 : ¬ (k : Int) = 0 := by omega
   have hk1 : ¬ k = 0 := by omega
   have w : IntKind.i64.wrap ((i : Int) + 1) = (i : Int) + 1 := wrap64 (by omega)
   simp only [dealO_succ l k i hk, ← hx, getElem!_pos l i hi] at ih
   cases i with
   | zero =>
    have q2' : (dealO l k 0)[0]? = some x := by simpa using q2
    have hlt' : 0 < (dealO l k 0).length := by rw [dealO_len]; exact hk
    have q3 : (dealO l k 0)[0] = x := by simpa using hx.symm
    simp at ih
    simp [hk, hk0, hk1, hi, q1, q3, hlt', eLK]
    refine ⟨by omega, ?_⟩
    have w0 : IntKind.i64.wrap 1 = 1 := by decide
    rw [w0]
    simpa [eLK] using ih
   | succ i =>
    have hi2 : (i : Int) + 1 < l.length := by omega
    obtain ⟨p, hp⟩ : ∃ p, p = (i + 1) % k := ⟨_, rfl⟩
    have hr2 : Int.tmod ((i : Int) + 1) k = (p : Int) := by rw [hp, ← hr1]; rfl
    have q1' : l[i + 1]? = some l[i + 1] := q1
    rw [← hp] at hlt q2 ih
    have q3 : (dealO l k (i + 1))[p] = x := by rw [List.getElem?_eq_getElem hlt] at q2; exact Option.some.inj q2
    have w1 : IntKind.i64.wrap ((i : Int) + 1 + 1) = (i : Int) + 1 + 1 := wrap64 (by omega)
    simp [hk, hk0, hk1, hi2, hi, q3, hr2, hlt, eLK, w1]
    refine ⟨by omega, by omega, ?_⟩
    simpa [eLK] using ih
  ·intro _
   subst hr
   cases hl0 : l.length with
   | zero =>
    have : l = [] := List.length_eq_zero_iff.1 hl0
    subst this
    simp
    rw [hd]; rfl
   | succ i =>
    simp [hl0]
    rw [hd, hl0]
 ·have m1 : (if (n : Int) < 0 then (0 : Int) else n) = 0 := by split <;> omega
  have m2 : ¬ n > 0 := hpos
  simp [F_spread_Deal, dealD, hpos, m1]
  refine wc_loop ?_
  by_cases h0 : l = []
  ·subst h0
   simp; omega
  ·have := List.length_pos_iff.2 h0
   simp [this, hpos]
end Go.AM

namespace Go.AM
def evenD (m n : Nat) : List Int := (List.range n).map fun i => (cntD m n i : Int)
theorem evenD_mem {m n : Nat} {x : Int} (h : x ∈ evenD m n) : 0 ≤ x ∧ x ≤ m := by
 simp only [evenD, List.mem_map, List.mem_range] at h
 obtain ⟨i, hi, rfl⟩ := h
 have := cntD_le m n i hi
 omega
theorem c_wire_Even (m n : Nat) (hm : m ≤ 1152921504606846976) (hn : n ≤ 1000000) (sg) : LL.call n_wire_Even [.i .i64 m, .i .i64 n] sg sg.length = some (.l .x 1 ((evenD m n).map (.i .i64)), sg, sg.length) := by
 refine wp_call e_wire_Even rfl ?_
 obtain ⟨c, hc⟩ : ∃ c : Nat → Nat, ∀ i, c i = cntD m n i := ⟨_, fun _ => rfl⟩
 have e0 : evenD m n = (List.range n).map fun i => (c i : Int) := by simp [evenD, hc]
 rw [e0]
 obtain ⟨L, hL⟩ : ∃ L : Nat → List Int, ∀ i, L i = (List.range n).map fun j => if j < i then (c j : Int) else 0 := ⟨_, fun _ => rfl⟩
 have Ll : ∀ i, (L i).length = n := by intro i; rw [hL]; simp
 have Ls : ∀ i, i < n → (L i).set i (c i : Int) = L (i + 1) := by
  intro i hi
  rw [hL, hL]
  apply List.ext_getElem
  ·simp
  ·intro j h1 h2
   rw [List.getElem_set]
   simp
   by_cases e : i = j
   ·subst e; rw [if_pos rfl, if_pos (by omega)]
   ·rw [if_neg e]
    by_cases e2 : j < i
    ·rw [if_pos e2, if_pos (by omega)]
    ·rw [if_neg e2, if_neg (by omega)]
 have L0 : List.replicate n (D.i .i64 0) = (L 0).map (.i .i64) := by
  rw [hL]
  apply List.ext_getElem
  ·simp
  ·intro j h1 h2; simp
 have Ln : (List.range n).map (fun i => (c i : Int)) = L n := by
  rw [hL]
  exact List.map_congr_left (fun i hi => by rw [if_pos (List.mem_range.1 hi)])
 have m1 : (if (n : Int) < 0 then (0 : Int) else n) = n := by rw [if_neg (by omega)]
 rw [Ln]
 simp [F_wire_Even, m1]
 refine ⟨by omega, ?_⟩
 rw [L0]
 refine wc_up n (fun i => ⟨[(0, .v (.i .i64 m)), (1, .v (.i .i64 n)), (5, .q (.hdr 5)), (11, .v (.i .i64 n)), (12, .v (.i .i64 i))], [(5, [.l .x 1 ((L i).map (.i .i64))])], sg, sg.length⟩) (fun _ => True) ?_ ?_ 0 (by omega) trivial
 ·intro i hi _ ih
  have ih := ih trivial
  rw [← Ls i hi] at ih
  have hi' : (i : Int) < n := by omega
  have w : IntKind.i64.wrap ((i : Int) + 1) = (i : Int) + 1 := wrap64 (by omega)
  have hn0 : ¬ n = 0 := by omega
  obtain ⟨q, r, e, hr, e1, e2⟩ := qr m n (by omega)
  have d1 : Int.tdiv (m : Int) n = (q : Int) := by rw [Int.tdiv_eq_ediv_of_nonneg (by omega), ← e1]; rfl
  have d2 : Int.tmod (m : Int) n = (r : Int) := by rw [Int.tmod_eq_emod_of_nonneg (by omega), ← e2]; rfl
  have hq : q ≤ m := by rw [← e1]; exact Nat.div_le_self _ _
  have w1 : IntKind.i64.wrap (q : Int) = q := wrap64 (by omega)
  have w2 : IntKind.i64.wrap ((q : Int) + 1) = q + 1 := wrap64 (by omega)
  have hci : c i = q + if i < r then 1 else 0 := by rw [hc, cntD, e1, e2]
  have hil : i < (L i).length := by rw [Ll]; exact hi
  simp [hi, hi', d1, d2, w1, hn0, hil]
  refine bq_i (fun h => ?_) (fun h => ?_) <;> (have h' := h) <;> simp at h'
  ·rw [hci, if_pos h'] at ih
   simp [h, hil, w, w2, List.set_set]
   simpa using ih
  ·rw [hci, if_neg (by omega)] at ih
   simp [h, w]
   simpa using ih
 ·intro _
  simp
end Go.AM

namespace Go.AM
theorem check_facts {x : Im} (h : checkI x = 0) : legal x.k x.p = 0 ∧ ((x.ls.length : Int) = (shapeOf x.k x.p).1 ∧ (x.cs.length : Int) = (shapeOf x.k x.p).2) ∧ ordersE x.k x.ls = 0 ∧ (x.ls.map List.length).sum ≤ 1000 ∧
    (∀ n ∈ x.cs, 0 ≤ n ∧ n ≤ 1125899906842624) ∧ x.cs.sum ≤ 1125899906842624 := by
 unfold checkI at h
 split at h
 ·contradiction
 rename_i h1
 split at h
 ·cases h
 rename_i h2
 split at h
 ·contradiction
 rename_i h3
 split at h
 ·cases h
 rename_i h4
 unfold countsE at h
 split at h
 ·cases h
 rename_i h5
 simp only [Bool.or_eq_true, decide_eq_true_eq, List.any_eq_true, not_or, not_exists, not_and] at h5
 refine ⟨by omega, by omega, by omega, by omega, fun n hn => ?_, by omega⟩
 have := h5.1 n hn
 simp [badN] at this
 omega
theorem legal_p {k p : Int} (h : legal k p = 0) : 1 ≤ p ∧ p ≤ 16 := by
 unfold legal at h
 split at h
 ·cases h
 split at h
 ·cases h
 ·omega
theorem valI_len {x : Im} : (valI x).is.length = x.ls.flatten.length := by
 simp only [valI]
 split
 ·rw [sortI_len, List.length_map]
 ·rfl
theorem valI_ok {x : Im} (ho : x.ok) : ∀ y ∈ (valI x).is, y.ok := by
 intro y hy
 have hf : ∀ y ∈ x.ls.flatten, y.ok := fun y hy => by
  obtain ⟨l, hl, hy⟩ := List.mem_flatten.1 hy
  exact ho.1 l hl y hy
 simp only [valI] at hy
 split at hy
 ·have := (sortI_perm _).mem_iff.1 hy
  obtain ⟨z, hz, rfl⟩ := List.mem_map.1 this
  exact canon_okI (hf z hz)
 ·exact hf y hy
end Go.AM

namespace Go.AM
theorem dealO_mem {l : List It} {n m : Nat} (hm : m ≤ l.length) {c : List It} (h : c ∈ dealO l n m) : ∃ i, i < n ∧ c = (List.range (cntD m n i)).map (fun j => l[i + j * n]!) := by
 simp only [dealO, List.mem_map, List.mem_range] at h
 obtain ⟨i, hi, rfl⟩ := h
 exact ⟨i, hi, rfl⟩
theorem col_mem {l : List It} {n m i : Nat} (hm : m ≤ l.length) (hi : i < n) {y : It} (h : y ∈ (List.range (cntD m n i)).map (fun j => l[i + j * n]!)) : y ∈ l := by
 simp only [List.mem_map, List.mem_range] at h
 obtain ⟨j, hj, rfl⟩ := h
 have := cntD_lt hi m j hj
 rw [getElem!_pos l _ (by omega)]
 exact List.getElem_mem _
end Go.AM

namespace Go.AM
def bs (l : List UInt8) : ByteArray := ⟨l.toArray⟩
def eB (c : UInt8) : D := .i .u8 c.toNat
instance : Flat eB := ⟨fun _ => rfl, fun _ => rfl, fun _ _ => rfl⟩
theorem bs_size (l : List UInt8) : (bs l).size = l.length := rfl
theorem bs_data (l : List UInt8) : (bs l).data.toList = l := rfl
theorem ofBy_bs (l : List UInt8) : ofBy (bs l) = l.map eB := rfl
theorem toBy_eB : ∀ l : List UInt8, toBy (l.map eB) = some l
 | [] => rfl
 | c :: l => by
  have ih := toBy_eB l
  simp only [List.map_cons, eB, toBy]
  show (toBy (l.map eB)).map _ = _
  rw [ih]; simp
theorem mk_bs (l : List UInt8) : (⟨l.toArray⟩ : ByteArray) = bs l := rfl
theorem bs_app (a b : List UInt8) : bs a ++ bs b = bs (a ++ b) := by
 apply ByteArray.ext
 simp [bs, ByteArray.data_append]
theorem bs_extract (l : List UInt8) (i j : Nat) : (bs l).extract i j = bs ((l.take j).drop i) := by
 apply ByteArray.ext
 simp [bs, ByteArray.data_extract, List.drop_take]
theorem bs_inj {a b : List UInt8} : bs a = bs b ↔ a = b := by
 constructor
 ·intro h
  have := congrArg (fun v : ByteArray => v.data.toList) h
  exact this
 ·rintro rfl; rfl
theorem bs_toList (l : List UInt8) : (bs l).toList = l := by rw [ByteArray.toList_eq]; rfl
attribute [simp] bs_toList
attribute [simp] bs_size bs_data ofBy_bs toBy_eB mk_bs bs_app bs_extract bs_inj
theorem bs_beq (a b : List UInt8) : (bs a == bs b) = (a == b) := by
 show (a.toArray == b.toArray) = _
 simp
attribute [simp] bs_beq
theorem toBy_app (a b : List UInt8) : toBy (a.map eB ++ b.map eB) = some (a ++ b) := by rw [← List.map_append, toBy_eB]
attribute [simp] toBy_app
end Go.AM

namespace Go.AM
def numB (n : Nat) : List UInt8 := if n < 128 then [UInt8.ofNat n] else UInt8.ofNat (n % 128 + 128) :: numB (n / 128)
def zig (z : Int) : Nat := if 0 ≤ z then (2 * z).toNat else (-2 * z - 1).toNat
def unzig (n : Nat) : Int := if n % 2 = 1 then -((n / 2 : Nat) : Int) - 1 else ((n / 2 : Nat) : Int)
def fixB (n : Nat) : Nat → List UInt8
 | 0 => []
 | k + 1 => UInt8.ofNat (n % 256) :: fixB (n / 256) k
structure Oc where
 s : List UInt8
 e : Int
def failR (e : Int) : Oc := ⟨[], e⟩
def bytesR (x : Oc) (n : Int) : Oc × List UInt8 :=
 if x.e ≠ 0 ∨ n ≤ 0 then (x, []) else if n > x.s.length then (failR 1, []) else (⟨x.s.drop n.toNat, 0⟩, x.s.take n.toNat)
def numL : List UInt8 → Nat → Nat → Int × Nat × List UInt8
 | [], _, _ => (1, 0, [])
 | c :: l, k, acc =>
  if k = 9 ∧ 1 < c.toNat then (2, 0, [])
  else if c.toNat < 128 then (if c.toNat = 0 ∧ 0 < k then (2, 0, []) else (0, acc + c.toNat * 128 ^ k, l))
  else numL l (k + 1) (acc + c.toNat % 128 * 128 ^ k)
def numR (x : Oc) (most : Nat) : Oc × Nat :=
 if x.e ≠ 0 then (x, 0) else
 if (numL x.s 0 0).1 ≠ 0 then (failR (numL x.s 0 0).1, 0) else
 if (numL x.s 0 0).2.1 > most then (failR 3, 0) else (⟨(numL x.s 0 0).2.2, 0⟩, (numL x.s 0 0).2.1)
def signR (x : Oc) : Oc × Int := ((numR x 18446744073709551615).1, unzig (numR x 18446744073709551615).2)
def leV : List UInt8 → Nat
 | [] => 0
 | c :: l => c.toNat + 256 * leV l
def wholeR (x : Oc) (n : Int) : Oc × Nat := ((bytesR x n).1, leV (bytesR x n).2)
def endR (x : Oc) : Oc := if x.e = 0 ∧ 0 < x.s.length then failR 2 else x
def Oc.ok (x : Oc) : Prop := x.s.length ≤ 1099511627776
theorem numL_two {c : UInt8} {k : Nat} (h : k = 9 ∧ 1 < c.toNat) (l acc) : numL (c :: l) k acc = (2, 0, []) := by unfold numL; rw [if_pos h]
theorem numL_zero {c : UInt8} {k : Nat} (hA : ¬ (k = 9 ∧ 1 < c.toNat)) (h : c.toNat = 0) (hk : 0 < k) (l acc) : numL (c :: l) k acc = (2, 0, []) := by
 unfold numL; rw [if_neg hA, if_pos (by omega), if_pos ⟨h, hk⟩]
theorem numL_last {c : UInt8} {k : Nat} (hA : ¬ (k = 9 ∧ 1 < c.toNat)) (h : c.toNat < 128) (hk : ¬ (c.toNat = 0 ∧ 0 < k)) (l acc) : numL (c :: l) k acc = (0, acc + c.toNat * 128 ^ k, l) := by
 unfold numL; rw [if_neg hA, if_pos h, if_neg hk]
theorem numL_more {c : UInt8} {k : Nat} (hA : ¬ (k = 9 ∧ 1 < c.toNat)) (h : ¬ c.toNat < 128) (l acc) : numL (c :: l) k acc = numL l (k + 1) (acc + c.toNat % 128 * 128 ^ k) := by
 conv => lhs; unfold numL
 rw [if_neg hA, if_neg h]
theorem u8_lt (c : UInt8) : c.toNat < 256 := c.toNat_lt
theorem k10 {k : Nat} (h : k ≤ 9) : k = 0 ∨ k = 1 ∨ k = 2 ∨ k = 3 ∨ k = 4 ∨ k = 5 ∨ k = 6 ∨ k = 7 ∨ k = 8 ∨ k = 9 := by omega
theorem pow_le9 {k : Nat} (h : k ≤ 9) : 128 ^ k ≤ 9223372036854775808 := by
 rcases k10 h with rfl | rfl | rfl | rfl | rfl | rfl | rfl | rfl | rfl | rfl <;> simp
theorem numL_lt : ∀ (l : List UInt8) (k acc : Nat), k ≤ 9 → acc < 128 ^ k → (numL l k acc).2.1 < 18446744073709551616
 | [], k, acc, hk, ha => by simp [numL]
 | c :: l, k, acc, hk, ha => by
  have hc := u8_lt c
  unfold numL
  split
  ·simp
  rename_i h1
  split
  ·rename_i h2
   split
   ·simp
   ·simp only
    rcases k10 hk with rfl | rfl | rfl | rfl | rfl | rfl | rfl | rfl | rfl | rfl <;> simp at ha h1 ⊢ <;> omega
  ·rename_i h2
   refine numL_lt l (k + 1) _ (by omega) ?_
   rw [Nat.pow_succ]
   have : c.toNat % 128 * 128 ^ k ≤ 127 * 128 ^ k := Nat.mul_le_mul_right _ (by omega)
   omega
theorem numR_lt (x : Oc) (most : Nat) : (numR x most).2 < 18446744073709551616 := by
 have := numL_lt x.s 0 0 (by omega) (by simp)
 unfold numR
 split
 ·simp
 split
 ·simp
 split
 ·simp
 ·simpa using this
theorem numR_le (x : Oc) (most : Nat) : (numR x most).2 ≤ most := by
 unfold numR
 split
 ·simp
 split
 ·simp
 split
 ·simp
 ·simp only; omega
theorem unzig_ok {n : Nat} (h : n < 18446744073709551616) : -9223372036854775808 ≤ unzig n ∧ unzig n ≤ 9223372036854775807 := by
 unfold unzig; split <;> omega
theorem numL_len : ∀ (l : List UInt8) (k acc : Nat), (numL l k acc).2.2.length ≤ l.length
 | [], k, acc => by simp [numL]
 | c :: l, k, acc => by
  unfold numL
  split
  ·simp
  split
  ·split <;> simp
  ·have := numL_len l (k + 1) (acc + c.toNat % 128 * 128 ^ k)
   simp; omega
theorem numR_ok {x : Oc} (h : x.ok) (most : Nat) : (numR x most).1.ok := by
 have := numL_len x.s 0 0
 unfold Oc.ok at *
 unfold numR
 split
 ·exact h
 split
 ·simp [failR]
 split
 ·simp [failR]
 ·simp only; omega
theorem bytesR_ok {x : Oc} (h : x.ok) (n : Int) : (bytesR x n).1.ok := by
 unfold Oc.ok at *
 unfold bytesR
 split
 ·exact h
 split
 ·simp [failR]
 ·simp; omega
theorem leV_lt : ∀ l : List UInt8, leV l < 256 ^ l.length
 | [] => by simp [leV]
 | c :: l => by
  have := leV_lt l
  have := u8_lt c
  simp only [leV, List.length_cons, Nat.pow_succ]
  omega
theorem bytesR_len (x : Oc) (n : Int) : (bytesR x n).2.length ≤ n.toNat := by
 unfold bytesR
 split
 ·simp
 split
 ·simp
 ·simp; omega
theorem wholeR_lt (x : Oc) : (wholeR x 8).2 < 18446744073709551616 := by
 have h1 := leV_lt (bytesR x 8).2
 have h2 := bytesR_len x 8
 have : 256 ^ (bytesR x 8).2.length ≤ 256 ^ 8 := Nat.pow_le_pow_right (by omega) (by simpa using h2)
 unfold wholeR
 simp only
 have : (256 : Nat) ^ 8 = 18446744073709551616 := by decide
 omega
def leads : List UInt8 → Nat → Nat
 | [], _ => 0
 | _, 0 => 0
 | c :: l, m + 1 => if 128 ≤ c.toNat then leads l m + 1 else 0
def hor : List UInt8 → Nat
 | [] => 0
 | c :: l => c.toNat % 128 + 128 * hor l
theorem leads_le : ∀ (l : List UInt8) (m : Nat), leads l m ≤ l.length ∧ leads l m ≤ m
 | [], m => by simp [leads]
 | c :: l, 0 => by simp [leads]
 | c :: l, m + 1 => by
  have := leads_le l m
  simp only [leads]; split <;> simp <;> omega
theorem numL_leads : ∀ (l : List UInt8) (k acc : Nat), k ≤ 9 → numL l k acc =
    match l[leads l (9 - k)]? with
    | none => (1, 0, [])
    | some c => if k + leads l (9 - k) = 9 ∧ 1 < c.toNat then (2, 0, []) else if 0 < k + leads l (9 - k) ∧ c.toNat = 0 then (2, 0, [])
     else (0, acc + hor (l.take (leads l (9 - k) + 1)) * 128 ^ k, l.drop (leads l (9 - k) + 1))
 | [], k, acc, hk => by simp [numL, leads]
 | c :: l, k, acc, hk => by
  have hc := u8_lt c
  by_cases h9 : k = 9
  ·subst h9
   simp only [numL, leads, Nat.sub_self]
   simp only [List.getElem?_cons_zero, hor, List.take_succ_cons, List.take_zero, List.drop_succ_cons, List.drop_zero]
   by_cases h1 : 1 < c.toNat
   ·simp [h1]
   ·have h2 : c.toNat < 128 := by omega
    by_cases h3 : c.toNat = 0
    ·simp [h3]
    ·simp [h1, h2, h3]; rw [Nat.mod_eq_of_lt h2]
  ·obtain ⟨m, hm⟩ : ∃ m, 9 - k = m + 1 := ⟨8 - k, by omega⟩
   rw [hm]
   by_cases h1 : c.toNat < 128
   ·have e : leads (c :: l) (m + 1) = 0 := by simp only [leads]; rw [if_neg (by omega)]
    rw [e]
    simp only [numL, h9, h1, List.getElem?_cons_zero, hor, List.take_succ_cons, List.take_zero, List.drop_succ_cons, List.drop_zero]
    by_cases h3 : c.toNat = 0 ∧ 0 < k
    ·simp [h3]
    ·rw [if_neg (by simp), if_pos trivial, if_neg h3, if_neg (by omega), if_neg (by omega), Nat.mod_eq_of_lt h1]; simp
   ·have e : leads (c :: l) (m + 1) = leads l m + 1 := by simp only [leads]; rw [if_pos (by omega)]
    have ih := numL_leads l (k + 1) (acc + c.toNat % 128 * 128 ^ k) (by omega)
    rw [show 9 - (k + 1) = m by omega] at ih
    rw [e]
    simp only [numL, h9, h1, List.getElem?_cons_succ]
    rw [if_neg (by simp), if_neg (by simp), ih]
    cases l[leads l m]? with
    | none => rfl
    | some d =>
     simp only
     rw [show k + 1 + leads l m = k + (leads l m + 1) by omega]
     split
     ·rfl
     split
     ·rfl
     ·simp only [hor, List.take_succ_cons, List.drop_succ_cons, Nat.pow_succ, Prod.mk.injEq, and_true, true_and]
      rw [Nat.add_mul, Nat.add_assoc, Nat.mul_comm (128 ^ k) 128, Nat.mul_assoc 128, Nat.mul_comm 128, Nat.mul_comm 128 (hor _ * 128 ^ k), Nat.mul_assoc]
theorem leads_ge : ∀ (l : List UInt8) (m i : Nat), i < leads l m → ∃ c, l[i]? = some c ∧ 128 ≤ c.toNat
 | [], m, i, h => by simp [leads] at h
 | c :: l, 0, i, h => by simp [leads] at h
 | c :: l, m + 1, i, h => by
  simp only [leads] at h
  split at h
  ·rename_i hc
   cases i with
   | zero => exact ⟨c, rfl, hc⟩
   | succ i => simpa using leads_ge l m i (by omega)
  ·omega
theorem leads_stop : ∀ (l : List UInt8) (m : Nat) (c : UInt8), l[leads l m]? = some c → leads l m < m → c.toNat < 128
 | [], m, c, h, hm => by simp at h
 | d :: l, 0, c, h, hm => by simp [leads] at hm
 | d :: l, m + 1, c, h, hm => by
  simp only [leads] at h hm
  split at h
  ·rename_i hc
   rw [if_pos hc] at hm
   exact leads_stop l m c (by simpa using h) (by omega)
  ·simp at h; subst h; omega
theorem hor_drop (l : List UInt8) : ∀ (j : Nat), hor (l.drop j) ≤ hor l := by
 induction l with
 | nil => simp
 | cons c l ih =>
  intro j
  cases j with
  | zero => simp
  | succ j => have := ih j; simp only [List.drop_succ_cons, hor]; omega
theorem hor_drop_cons {l : List UInt8} {j : Nat} (h : j < l.length) : hor (l.drop j) = l[j].toNat % 128 + 128 * hor (l.drop (j + 1)) := by
 rw [List.drop_eq_getElem_cons h]; rfl
theorem leV_drop_cons {l : List UInt8} {j : Nat} (h : j < l.length) : leV (l.drop j) = l[j].toNat + 256 * leV (l.drop (j + 1)) := by
 rw [List.drop_eq_getElem_cons h]; rfl
theorem ofNat_toNat' {n : Nat} (h : n < 256) : (UInt8.ofNat n).toNat = n := by simp; omega
theorem numL_numB : ∀ (f n : Nat), n < 128 ^ f → ∀ (k acc : Nat) (l : List UInt8), k + f ≤ 10 → n * 128 ^ k < 18446744073709551616 → (0 < k → 0 < n) → numL (numB n ++ l) k acc = (0, acc + n * 128 ^ k, l)
 | 0, n, hn, k, acc, l, hk, hs, h0 => by
  have : n = 0 := by simpa using hn
  subst this
  have : k = 0 := by omega
  subst this
  unfold numB; simp [numL]
 | f + 1, n, hn, k, acc, l, hk, hs, h0 => by
  unfold numB
  split
  ·rename_i h
   have e : (UInt8.ofNat n).toNat = n := ofNat_toNat' (by omega)
   simp only [List.singleton_append, numL, e, h]
   rw [if_neg, if_pos trivial, if_neg (by omega)]
   rintro ⟨rfl, h2⟩
   simp at hs; omega
  ·rename_i h
   have e : (UInt8.ofNat (n % 128 + 128)).toNat = n % 128 + 128 := ofNat_toNat' (by omega)
   have hf : 0 < f := by
    rcases Nat.eq_zero_or_pos f with rfl | h'
    ·simp at hn; omega
    ·exact h'
   have e2 : n * 128 ^ k = n % 128 * 128 ^ k + n / 128 * 128 ^ (k + 1) := by
    rw [Nat.pow_succ, Nat.mul_comm (128 ^ k) 128, ← Nat.mul_assoc, ← Nat.add_mul]; congr 1; omega
   simp only [List.cons_append, numL, e]
   rw [if_neg (by omega), if_neg (by omega), numL_numB f (n / 128) (by rw [Nat.pow_succ] at hn; omega) (k + 1) _ l (by omega) (by omega) (by omega)]
   rw [show (n % 128 + 128) % 128 = n % 128 by omega, Nat.add_assoc, ← e2]
theorem numR_numB {n most : Nat} (hn : n < 18446744073709551616) (l : List UInt8) : numR ⟨numB n ++ l, 0⟩ most = if n > most then (failR 3, 0) else (⟨l, 0⟩, n) := by
 have := numL_numB 10 n (by have : (128 : Nat) ^ 10 = 1180591620717411303424 := by decide
                            omega) 0 0 l (by omega) (by simpa using hn) (by omega)
 simp at this
 simp [numR, this]
theorem numB_len : ∀ (f n : Nat), n < 128 ^ (f + 1) → (numB n).length ≤ f + 1
 | 0, n, hn => by
  unfold numB; rw [if_pos (by simpa using hn)]; simp
 | f + 1, n, hn => by
  unfold numB
  split
  ·simp
  ·have := numB_len f (n / 128) (by rw [Nat.pow_succ] at hn; omega)
   simp; omega
theorem numB_len10 {n : Nat} (hn : n < 18446744073709551616) : (numB n).length ≤ 10 := by
 have h : (128 : Nat) ^ 10 = 1180591620717411303424 := by decide
 exact numB_len 9 n (by omega)
theorem unzig_zig (z : Int) (h : -9223372036854775808 ≤ z ∧ z ≤ 9223372036854775807) : unzig (zig z) = z := by
 unfold unzig zig; split <;> split <;> omega
theorem zig_lt {z : Int} (h : -9223372036854775808 ≤ z ∧ z ≤ 9223372036854775807) : zig z < 18446744073709551616 := by
 unfold zig; split <;> omega
theorem fixB_len : ∀ (n k : Nat), (fixB n k).length = k
 | n, 0 => rfl
 | n, k + 1 => by simp [fixB, fixB_len]
theorem leV_fixB : ∀ (k n : Nat), n < 256 ^ k → leV (fixB n k) = n
 | 0, n, h => by simp at h; subst h; rfl
 | k + 1, n, h => by
  rw [Nat.pow_succ] at h
  simp only [fixB, leV, leV_fixB k (n / 256) (by omega), ofNat_toNat' (show n % 256 < 256 by omega)]
  omega
theorem bytesR_app (a l : List UInt8) (h : 0 < a.length) : bytesR ⟨a ++ l, 0⟩ a.length = (⟨l, 0⟩, a) := by
 unfold bytesR
 rw [if_neg (by simp; intro; subst_vars; simp at h), if_neg (by simp; omega)]
 simp
end Go.AM

namespace Go.AM
attribute [simp] eB
def eIn (x : Oc) : List D := [.s (bs x.s), .i .i64 x.e]
def eRn (x : Oc) : D := .a [.s (bs x.s), .i .i64 x.e]
attribute [simp] eIn eRn
theorem sg_same {α : Type} {l : List α} {g : Nat} {x : α} (h : l[g]? = some x) : l.set g x = l := by
 apply List.ext_getElem?
 intro i
 rw [List.getElem?_set]
 split
 ·subst_vars; split
  ·exact h.symm
  ·rename_i hlt; rw [List.getElem?_eq_none (by omega)] at h; cases h
 ·rfl
theorem set_get {α : Type} {l : List α} {g : Nat} {x : α} (h : l[g]? = some x) (y : α) : (l.set g y)[g]? = some y := by
 rw [List.getElem?_set_self]
 exact (List.getElem?_eq_some_iff.1 h).1
theorem take_set_len {α : Type} (l : List α) (g : Nat) (y : α) : (l.set g y).take l.length = l.set g y := by
 apply List.take_of_length_le; simp
attribute [simp] take_set_len
theorem c_octet_Of (l : List UInt8) (sg) : LL.call n_octet_Of [.s (bs l)] sg sg.length = some (.p sg.length 0, sg ++ [eIn ⟨l, 0⟩], sg.length) := by
 refine wp_call e_octet_Of rfl ?_
 simp [F_octet_Of]
theorem c_octet_In_Err (x : Oc) (sg) (g : Nat) (h : sg[g]? = some (eIn x)) : LL.call n_octet_In_Err [.p g 0] sg sg.length = some (.i .i64 x.e, sg, sg.length) := by
 refine wp_call e_octet_In_Err rfl ?_
 simp [F_octet_In_Err, h]
theorem c_octet_In_fail (x : Oc) (e : Int) (sg) (g : Nat) (h : sg[g]? = some (eIn x)) : LL.call n_octet_In_fail [.p g 0, .i .i64 e] sg sg.length = some (.t [], sg.set g (eIn (failR e)), sg.length) := by
 refine wp_call e_octet_In_fail rfl ?_
 have hs := fun y => set_get h y
 simp [F_octet_In_fail, h, hs, failR]
theorem c_octet_In_Bytes (x : Oc) (hx : x.ok) (n : Int) (sg) (g : Nat) (h : sg[g]? = some (eIn x)) : LL.call n_octet_In_Bytes [.p g 0, .i .i64 n] sg sg.length = some (.s (bs (bytesR x n).2), sg.set g (eIn (bytesR x n).1), sg.length) := by
 refine wp_call e_octet_In_Bytes rfl ?_
 have hf := c_octet_In_fail x 1 sg g h
 have hs := fun y => set_get h y
 have h0 := sg_same h
 have hxl : x.s.length ≤ 1099511627776 := hx
 simp at h h0 hf
 simp [F_octet_In_Bytes, h, hf, hs]
 refine bq_i (fun a => ?_) (fun a => ?_) <;> (have a' := a) <;> simp at a' <;> simp [a, a', h, hs]
 ·simp [bytesR, a', h0]
 refine bq_i (fun b => ?_) (fun b => ?_) <;> (have b' := b) <;> simp at b' <;> simp [b, b', h, hs]
 ·simp [bytesR, b', h0]
 have b2 : ¬ n ≤ 0 := by omega
 have b3 : 0 ≤ n := by omega
 refine bq_i (fun c => ?_) (fun c => ?_) <;> (have c' := c) <;> simp at c' <;> simp [c, c', h, hs, b2, b3, hf]
 ·simp [bytesR, a', b2, c', failR]
 ·have c2 : ¬ (x.s.length : Int) < n := by omega
  simp [bytesR, a', b2, c2]
def byteR (x : Oc) : Oc × UInt8 := ((bytesR x 1).1, ((bytesR x 1).2[0]?).getD 0)
theorem c_octet_In_Byte (x : Oc) (hx : x.ok) (sg) (g : Nat) (h : sg[g]? = some (eIn x)) : LL.call n_octet_In_Byte [.p g 0] sg sg.length = some (eB (byteR x).2, sg.set g (eIn (byteR x).1), sg.length) := by
 refine wp_call e_octet_In_Byte rfl ?_
 have hb := c_octet_In_Bytes x hx 1 sg g h
 simp at hb
 simp [F_octet_In_Byte, hb, byteR, bins]
 generalize (bytesR x 1).1 = y
 generalize (bytesR x 1).2 = l
 cases l with
 | nil => simp [eB]
 | cons c l => simp [eB]
end Go.AM

namespace Go.AM
theorem u8_and127 : ∀ c : UInt8, bits .and .u8 c.toNat 127 = ((c.toNat % 128 : Nat) : Int) := by
 have h : ∀ m : Fin 256, bits .and .u8 (m.1 : Int) 127 = ((m.1 % 128 : Nat) : Int) := by decide +kernel
 exact fun c => h ⟨c.toNat, u8_lt c⟩
theorem or_pow (a b k : Nat) (h : a < 2 ^ k) : a ||| (b * 2 ^ k) = a + b * 2 ^ k := by
 have := Nat.two_pow_add_eq_or_of_lt h b
 rw [Nat.or_comm, Nat.add_comm, Nat.mul_comm b]
 exact this.symm
theorem or_group {acc c k : Nat} (hk : k ≤ 9) (ha : acc < 128 ^ k) (hc : c < 128) (h9 : k = 9 → c ≤ 1) :
    bits .or .u64 (acc : Int) (IntKind.u64.wrap ((c : Int) * 2 ^ (7 * k))) = ((acc + c * 128 ^ k : Nat) : Int) := by
 have hp : (128 : Nat) ^ k = 2 ^ (7 * k) := by rw [Nat.pow_mul]
 have h1 : c * 2 ^ (7 * k) < 18446744073709551616 := by
  rcases k10 hk with rfl | rfl | rfl | rfl | rfl | rfl | rfl | rfl | rfl | rfl <;> simp at h9 ⊢ <;> omega
 have e : ((c : Int) * 2 ^ (7 * k)) = ((c * 2 ^ (7 * k) : Nat) : Int) := by simp
 rw [e, wrapu64 (by omega), u64_or _ _ _ h1, or_pow _ _ _ (hp ▸ ha), hp]
 have := pow_le9 hk
 omega
theorem byteR_nil : byteR ⟨[], 0⟩ = (failR 1, 0) := rfl
theorem byteR_cons (c l) : byteR ⟨c :: l, 0⟩ = (⟨l, 0⟩, c) := by
 unfold byteR bytesR; rw [if_neg (by simp), if_neg (by simp; omega)]; simp
theorem byteR_err {x : Oc} (h : x.e ≠ 0) : byteR x = (x, 0) := by
 unfold byteR bytesR; rw [if_pos (.inl h)]; simp
theorem wrap63 : IntKind.i64.wrap 63 = 63 := by decide
theorem numR_eq {x : Oc} {e : Int} {n : Nat} {l : List UInt8} (he : x.e = 0) (h : numL x.s 0 0 = (e, n, l)) (most : Nat) : numR x most = if e ≠ 0 then (failR e, 0) else if n > most then (failR 3, 0) else (⟨l, 0⟩, n) := by
 unfold numR; rw [if_neg (by simpa using he), h]
theorem numR_err {x : Oc} (he : x.e ≠ 0) (most : Nat) : numR x most = (x, 0) := by
 unfold numR; rw [if_pos he]
set_option maxRecDepth 20000 in
theorem c_octet_In_Num (x : Oc) (hx : x.ok) (most : Nat) (hm : most < 18446744073709551616) (sg) (g : Nat) (h : sg[g]? = some (eIn x)) : LL.call n_octet_In_Num [.p g 0, .i .u64 most] sg sg.length = some (.i .u64 (numR x most).2, sg.set g (eIn (numR x most).1), sg.length) := by
 refine wp_call e_octet_In_Num rfl ?_
 simp [F_octet_In_Num]
 have h0 := sg_same h
 have hs := fun y => set_get h y
 by_cases he : x.e = 0
 ·refine wc_ind (fun a : List UInt8 × Nat × Nat × List (List D) => ⟨[(0, .v (.p g 0)), (1, .v (.i .u64 most)), (5, .v (.i .u64 a.2.2.1)), (6, .v (.i .i64 0)), (7, .v (.i .i64 a.2.1))], [], a.2.2.2, sg.length⟩) (fun a => a.1.length)
   (fun a => numL x.s 0 0 = numL a.1 a.2.1 a.2.2.1 ∧ a.2.1 ≤ 9 ∧ a.2.2.1 < 128 ^ a.2.1 ∧ a.1.length ≤ x.s.length ∧ a.2.2.2 = sg.set g (eIn ⟨a.1, 0⟩)) ?_ (x.s, 0, 0, sg) ⟨rfl, by simp, by simp, by simp, by rw [← he]; exact h0.symm⟩
  ·rintro ⟨l, k, acc, sg'⟩ ⟨h1, h2, h3, h4, h5⟩ ih
   simp only at h1 h2 h3 h4 h5
   have hxl : x.s.length ≤ 1099511627776 := hx
   have hb := c_octet_In_Byte ⟨l, 0⟩ (by show l.length ≤ _; omega) sg' g (by rw [h5]; exact hs _)
   subst h5
   cases l with
   | nil =>
    rw [byteR_nil] at hb
    simp [failR] at hb
    have hn := numR_eq he (h1.trans rfl) most
    simp [hb, hs]
    simp [hn, failR]
   | cons c l =>
    have hc := u8_lt c
    rw [byteR_cons] at hb
    simp at hb
    have e1 := u8_and127 c
    have w7 : IntKind.i64.wrap (7 * (k : Int)) = 7 * k := wrap64 (by omega)
    have p7 : (0 : Int) ≤ 7 * k := by omega
    have hf2 := c_octet_In_fail ⟨l, 0⟩ 2 (sg.set g (eIn ⟨l, 0⟩)) g (hs _)
    have hf3 := c_octet_In_fail ⟨l, 0⟩ 3 (sg.set g (eIn ⟨l, 0⟩)) g (hs _)
    simp at hf2 hf3
    by_cases hA : k = 9 ∧ 1 < c.toNat
    ·have hn := numR_eq he (h1.trans (numL_two hA l acc)) most
     obtain ⟨rfl, hA⟩ := hA
     have hA' : (1 : Int) < c.toNat := by omega
     simp [hb, hs, e1, wrap63, hA, hA', hf2]
     simp [hn, failR]
    ·obtain ⟨v, hv⟩ : ∃ v, v = acc + c.toNat % 128 * 128 ^ k := ⟨_, rfl⟩
     have hog : bits .or .u64 (acc : Int) (IntKind.u64.wrap (IntKind.u64.wrap ((c.toNat : Int) % 128) * 2 ^ min (7 * (k : Int)).toNat IntKind.u64.bits)) = (v : Int) := by
      have := or_group (c := c.toNat % 128) h2 h3 (by omega) (by omega)
      have e3 : IntKind.u64.wrap ((c.toNat : Int) % 128) = (c.toNat : Int) % 128 := wrapu64 (by omega)
      rw [hv, ← this, e3]
      have : min (7 * (k : Int)).toNat IntKind.u64.bits = 7 * k := by simp [IntKind.bits]; omega
      rw [this]; simp
     have w1 : IntKind.i64.wrap ((k : Int) + 1) = k + 1 := wrap64 (by omega)
     have hlast : ¬ (c.toNat = 0 ∧ 0 < k) → c.toNat < 128 → numR x most = if v > most then (failR 3, 0) else (⟨l, 0⟩, v) := by
      intro h5 h6
      have := numR_eq he (h1.trans (numL_last hA h6 h5 l acc)) most
      rw [hv, Nat.mod_eq_of_lt h6]
      simpa using this
     have hq : ((k : Int) == 9) = true → ¬ (1 : Int) < c.toNat := by simp; omega
     simp [hb, hs, e1, w7, p7, hog]
     refine bq_i (fun a => ?_) (fun a => ?_) <;> simp [a, hq]
     all_goals
      by_cases hlt : c.toNat < 128
      ·have hlt' : (c.toNat : Int) < 128 := by omega
       by_cases h00 : c.toNat = 0 ∧ 0 < k
       ·have hn := numR_eq he (h1.trans (numL_zero hA h00.1 h00.2 l acc)) most
        have h01 : ((c.toNat : Int) == 0) = true := by simp; omega
        have h02 : (0 : Int) < k := by omega
        simp [hlt', h01, h02, h00.2, hf2]
        simp [hn, failR]
       ·have hn := hlast h00 hlt
        have hz : (((c.toNat : Int) == 0) = true ∧ ¬ 0 < k) ∨ ((c.toNat : Int) == 0) = false ∧ True := by
         by_cases h : c.toNat = 0
         ·exact .inl ⟨by simp; omega, fun h' => h00 ⟨h, h'⟩⟩
         ·exact .inr ⟨by simp; omega, trivial⟩
        rcases hz with ⟨h01, h02⟩ | ⟨h01, h02⟩ <;> simp [hlt', h01, h02]
        all_goals
         refine bq_i (fun b => ?_) (fun b => ?_) <;> (have b' := b) <;> simp at b' <;> simp [b, hf3]
         ·simp [hn, b', failR]
         ·rw [if_neg (by omega)] at hn
          simp [hn]
      ·have hlt' : ¬ (c.toNat : Int) < 128 := by omega
       simp [hlt', w1]
       have hx' := ih (l, k + 1, v, sg.set g (eIn ⟨l, 0⟩)) (by simp) ⟨by rw [h1, numL_more hA hlt, hv], ?_, ?_, ?_, rfl⟩
       ·simpa using hx'
       ·simp; omega
       ·rw [hv]; simp only [Nat.pow_succ]
        have : c.toNat % 128 * 128 ^ k ≤ 127 * 128 ^ k := Nat.mul_le_mul_right _ (by omega)
        omega
       ·simp at h4 ⊢; omega
 ·have hb := c_octet_In_Byte x hx sg g h
  rw [byteR_err he] at hb
  simp at hb
  have hn := numR_err he most
  have heb : (x.e != 0) = true := by simpa using he
  refine wc_loop ?_
  simp at h h0
  simp [hb, h0, h, he, heb]
  simp [hn, h0]
end Go.AM

namespace Go.AM
theorem c_octet_In_End (x : Oc) (hx : x.ok) (sg) (g : Nat) (h : sg[g]? = some (eIn x)) : LL.call n_octet_In_End [.p g 0] sg sg.length = some (.i .i64 (endR x).e, sg.set g (eIn (endR x)), sg.length) := by
 refine wp_call e_octet_In_End rfl ?_
 have hxl : x.s.length ≤ 1099511627776 := hx
 have hf := c_octet_In_fail x 2 sg g h
 have hs := fun y => set_get h y
 have h0 := sg_same h
 simp at h h0 hf
 simp [F_octet_In_End, h, hf, hs]
 refine bq_i (fun a => ?_) (fun a => ?_) <;> (have a' := a) <;> simp at a' <;> simp [a, h, hs, hf]
 ·by_cases hl : 0 < x.s.length
  ·have hl' : (0 : Int) < x.s.length := by omega
   simp [hl, hl', hf, hs, h]
   simp [endR, a', hl, failR]
  ·have hl' : ¬ (0 : Int) < x.s.length := by omega
   simp [hl, hl', h, hs]
   simp [endR, hl, h0]
 ·simp [endR, a', h0]
theorem i64_not (a : Nat) (h : a < 9223372036854775808) : bits .xor .i64 (a : Int) (-1) = -(a : Int) - 1 := by
 show IntKind.i64.wrap ((BitVec.ofInt 64 (a : Int) ^^^ BitVec.ofInt 64 (-1) : BitVec 64).toNat : Int) = _
 have e : BitVec.ofInt 64 (-1) = BitVec.allOnes 64 := by decide
 have e2 : BitVec.ofInt 64 (a : Int) = BitVec.ofNat 64 a := by simp
 rw [e, e2, BitVec.xor_allOnes, BitVec.toNat_not, BitVec.toNat_ofNat, Nat.mod_eq_of_lt (by omega)]
 simp [IntKind.wrap, IntKind.signed, IntKind.bits]; omega
theorem i64_xor0 (a : Nat) (h : a < 9223372036854775808) : bits .xor .i64 (a : Int) 0 = (a : Int) := by
 show IntKind.i64.wrap ((BitVec.ofInt 64 (a : Int) ^^^ BitVec.ofInt 64 0 : BitVec 64).toNat : Int) = _
 have e : BitVec.ofInt 64 0 = 0#64 := by decide
 have e2 : BitVec.ofInt 64 (a : Int) = BitVec.ofNat 64 a := by simp
 rw [e, e2, BitVec.xor_zero, BitVec.toNat_ofNat, Nat.mod_eq_of_lt (by omega)]
 exact wrap64 (by omega)
theorem unzig_bits {n : Nat} (h : n < 18446744073709551616) : bits .xor .i64 (IntKind.i64.wrap ((n : Int).fdiv (2 ^ min 1 IntKind.u64.bits))) (IntKind.i64.wrap (-IntKind.i64.wrap (bits .and .u64 (n : Int) 1))) = unzig n := by
 have e1 : (n : Int).fdiv (2 ^ min 1 IntKind.u64.bits) = ((n / 2 : Nat) : Int) := by
  rw [Int.fdiv_eq_ediv_of_nonneg _ (Int.pow_nonneg (by omega))]; rfl
 have e2 : bits .and .u64 (n : Int) 1 = ((n % 2 : Nat) : Int) := by
  have := u64_and n 1 h (by omega)
  rw [Nat.and_one_is_mod] at this; exact this
 rw [e1, e2, wrap64 (x := ((n / 2 : Nat) : Int)) (by omega), wrap64 (x := ((n % 2 : Nat) : Int)) (by omega)]
 have : n % 2 = 0 ∨ n % 2 = 1 := by omega
 unfold unzig
 rcases this with e | e <;> rw [e]
 ·exact i64_xor0 _ (by omega)
 ·have w : IntKind.i64.wrap (-((1 : Nat) : Int)) = -1 := wrap64 (by omega)
  rw [if_pos rfl, w]; exact i64_not _ (by omega)
theorem c_octet_In_Int (x : Oc) (hx : x.ok) (sg) (g : Nat) (h : sg[g]? = some (eIn x)) : LL.call n_octet_In_Int [.p g 0] sg sg.length = some (.i .i64 (signR x).2, sg.set g (eIn (signR x).1), sg.length) := by
 refine wp_call e_octet_In_Int rfl ?_
 have hn := c_octet_In_Num x hx 18446744073709551615 (by omega) sg g h
 have hlt := numR_lt x 18446744073709551615
 simp [signR]
 generalize (numR x 18446744073709551615).2 = n at *
 generalize (numR x 18446744073709551615).1 = y at *
 simp at hn h
 simp [F_octet_In_Int, hn]
 exact unzig_bits hlt
theorem or_pow64 {acc c k : Nat} (hk : k ≤ 7) (ha : acc < 256 ^ k) (hc : c < 256) :
    bits .or .u64 (acc : Int) (IntKind.u64.wrap ((c : Int) * 2 ^ (8 * k))) = ((acc + c * 256 ^ k : Nat) : Int) := by
 have hp : (256 : Nat) ^ k = 2 ^ (8 * k) := by rw [Nat.pow_mul]
 have hk8 : k = 0 ∨ k = 1 ∨ k = 2 ∨ k = 3 ∨ k = 4 ∨ k = 5 ∨ k = 6 ∨ k = 7 := by omega
 have h1 : c * 2 ^ (8 * k) < 18446744073709551616 := by
  rcases hk8 with rfl | rfl | rfl | rfl | rfl | rfl | rfl | rfl <;> simp <;> omega
 have h2 : acc < 18446744073709551616 := by
  rcases hk8 with rfl | rfl | rfl | rfl | rfl | rfl | rfl | rfl <;> simp at ha <;> omega
 have e : ((c : Int) * 2 ^ (8 * k)) = ((c * 2 ^ (8 * k) : Nat) : Int) := by simp
 rw [e, wrapu64 (by omega), u64_or _ _ h2 h1, or_pow _ _ _ (hp ▸ ha), hp]
theorem leV_snoc : ∀ (l : List UInt8) (c : UInt8), leV (l ++ [c]) = leV l + c.toNat * 256 ^ l.length
 | [], c => by simp [leV]
 | d :: l, c => by
  simp only [List.cons_append, leV, leV_snoc l c, List.length_cons, Nat.pow_succ]
  rw [Nat.mul_add, Nat.add_assoc, Nat.mul_comm (256 ^ _) 256, ← Nat.mul_assoc, ← Nat.mul_assoc, Nat.mul_comm 256 c.toNat]
theorem leV_take_succ {l : List UInt8} {i : Nat} {c : UInt8} (h : l[i]? = some c) : leV (l.take (i + 1)) = leV (l.take i) + c.toNat * 256 ^ i := by
 have hi : i < l.length := (List.getElem?_eq_some_iff.1 h).1
 rw [List.take_add_one, h]
 simp [leV_snoc, Nat.min_eq_left (Nat.le_of_lt hi)]
theorem leV_take_lt (l : List UInt8) (i : Nat) : leV (l.take i) < 256 ^ i := by
 have h1 := leV_lt (l.take i)
 have : 256 ^ (l.take i).length ≤ 256 ^ i := Nat.pow_le_pow_right (by omega) (by simp; omega)
 omega
theorem c_octet_In_Long (x : Oc) (hx : x.ok) (sg) (g : Nat) (h : sg[g]? = some (eIn x)) : LL.call n_octet_In_Long [.p g 0] sg sg.length = some (.i .u64 (wholeR x 8).2, sg.set g (eIn (wholeR x 8).1), sg.length) := by
 refine wp_call e_octet_In_Long rfl ?_
 have hb := c_octet_In_Bytes x hx 8 sg g h
 have hl := bytesR_len x 8
 simp [wholeR]
 generalize (bytesR x 8).2 = l at *
 generalize (bytesR x 8).1 = y at *
 simp at hb h hl
 simp [F_octet_In_Long, hb]
 refine wc_up l.length (fun i => ⟨[(3, .v (.i .u64 (leV (l.take i)))), (8, .v (.l .o 1 (List.map eB l))), (9, .v (.i .i64 l.length)), (10, .v (.i .i64 i))], [], sg.set g [.s (bs y.s), .i .i64 y.e], sg.length⟩) (fun _ => True) ?_ ?_ 0 (by omega) trivial
 ·intro i hi _ ih
  have hi' : (i : Int) < l.length := by omega
  have hc := u8_lt l[i]
  have hog : bits .or .u64 (leV (l.take i) : Int) (IntKind.u64.wrap (IntKind.u64.wrap (l[i].toNat : Int) * 2 ^ min (8 * (i : Int)).toNat IntKind.u64.bits)) = (leV (l.take (i + 1)) : Int) := by
   have := or_pow64 (acc := leV (l.take i)) (c := l[i].toNat) (k := i) (by omega) (leV_take_lt l i) hc
   rw [leV_take_succ (List.getElem?_eq_getElem hi), ← this, wrapu64 (n := (l[i].toNat : Int)) (by omega)]
   have : min (8 * (i : Int)).toNat IntKind.u64.bits = 8 * i := by simp [IntKind.bits]; omega
   rw [this]
  have w8 : IntKind.i64.wrap (8 * (i : Int)) = 8 * i := wrap64 (by omega)
  have p8 : (0 : Int) ≤ 8 * i := by omega
  have w1 : IntKind.i64.wrap ((i : Int) + 1) = i + 1 := wrap64 (by omega)
  simp [hi, hi', w8, p8, hog]
  simpa [w1] using ih trivial
 ·simp
end Go.AM

namespace Go.AM
theorem u8_or128 : ∀ n : Nat, bits .or .u8 (IntKind.u8.wrap (n : Int)) 128 = (((UInt8.ofNat (n % 128 + 128)).toNat : Nat) : Int) := by
 have h : ∀ m : Fin 256, bits .or .u8 (m.1 : Int) 128 = ((m.1 % 128 + 128 : Nat) : Int) := by decide +kernel
 intro n
 have e : IntKind.u8.wrap (n : Int) = ((n % 256 : Nat) : Int) := by simp [IntKind.wrap, IntKind.bits, IntKind.signed]
 rw [e, h ⟨n % 256, Nat.mod_lt _ (by omega)⟩, ofNat_toNat' (by omega)]
 simp only
 congr 2; omega
theorem wrap_u8 (n : Int) : IntKind.u8.wrap n = n % 256 := by simp [IntKind.wrap, IntKind.bits, IntKind.signed]
theorem u8_wrap (n : Nat) : IntKind.u8.wrap (n : Int) = ((UInt8.ofNat n).toNat : Int) := by
 simp [IntKind.wrap, IntKind.bits, IntKind.signed]
theorem shr7 (n : Nat) : (n : Int).fdiv (2 ^ min 7 IntKind.u64.bits) = ((n / 128 : Nat) : Int) := by
 rw [Int.fdiv_eq_ediv_of_nonneg _ (Int.pow_nonneg (by omega))]; rfl
theorem shr8 (n : Nat) : (n : Int).fdiv (2 ^ min 8 IntKind.u64.bits) = ((n / 256 : Nat) : Int) := by
 rw [Int.fdiv_eq_ediv_of_nonneg _ (Int.pow_nonneg (by omega))]; rfl
theorem numB_small {n : Nat} (h : n < 128) : numB n = [UInt8.ofNat n] := by unfold numB; rw [if_pos h]
theorem numB_big {n : Nat} (h : ¬ n < 128) : numB n = UInt8.ofNat (n % 128 + 128) :: numB (n / 128) := by
 conv => lhs; unfold numB
 rw [if_neg h]
def Ko (K : AM.K) : Prop := K = .o ∨ K = .x
theorem c_octet_Num {K : AM.K} (hK : Ko K) (b : List UInt8) (n : Nat) (hn : n < 18446744073709551616) (hb : b.length ≤ 1099511627776) (sg) : LL.call n_octet_Num [.l K 1 (b.map eB), .i .u64 n] sg sg.length = some (.l .o 1 ((b ++ numB n).map eB), sg, sg.length) := by
 refine wp_call e_octet_Num rfl ?_
 simp [F_octet_Num]
 refine wc_ind (fun a : List UInt8 × Nat × AM.K => ⟨[(0, .v (.l a.2.2 1 (a.1.map eB))), (1, .v (.i .u64 a.2.1))], [], sg, sg.length⟩) (fun a => a.2.1)
  (fun a => a.1 ++ numB a.2.1 = b ++ numB n ∧ a.2.1 < 18446744073709551616 ∧ Ko a.2.2) ?_ (b, n, K) ⟨rfl, hn, hK⟩
 rintro ⟨c, m, K'⟩ ⟨h1, h2, h3⟩ ih
 simp only at h1 h2 h3
 have hlen : c.length ≤ 1099511627776 + 10 := by
  have h4 := congrArg List.length h1
  have h5 := numB_len10 hn
  simp at h4; omega
 by_cases hm : m < 128
 ·have hm' : ¬ (128 : Int) ≤ m := by omega
  have hg := numB_small hm
  rw [hg] at h1
  rcases h3 with rfl | rfl
  all_goals
   simp [hm']
   refine ⟨by omega, ?_⟩
   have := congrArg (List.map eB) h1
   simp at this
   rw [← this]; simp [wrap_u8]
 ·have hm' : (128 : Int) ≤ m := by omega
  have hg := numB_big hm
  rcases h3 with rfl | rfl
  all_goals
   simp [hm', u8_or128]
   refine ⟨by omega, ?_⟩
   have := ih (c ++ [UInt8.ofNat (m % 128 + 128)], m / 128, .o) (by simp; omega) ⟨by rw [← h1, hg]; simp, by simp; omega, .inl rfl⟩
   simpa [shr7] using this
theorem u64_not' (b : Nat) (hb : b < 18446744073709551616) : bits .xor .u64 b 18446744073709551615 = ((18446744073709551615 - b : Nat) : Int) := by
 show IntKind.u64.wrap ((BitVec.ofInt 64 (b : Int) ^^^ BitVec.ofInt 64 18446744073709551615 : BitVec 64).toNat : Int) = _
 have e : BitVec.ofInt 64 18446744073709551615 = BitVec.allOnes 64 := by decide
 have e2 : BitVec.ofInt 64 (b : Int) = BitVec.ofNat 64 b := by simp
 rw [e, e2, BitVec.xor_allOnes, BitVec.toNat_not, BitVec.toNat_ofNat, Nat.mod_eq_of_lt (by simpa using hb), wrapu64]
 ·omega
theorem u64_xor0 (b : Nat) (hb : b < 18446744073709551616) : bits .xor .u64 b 0 = (b : Int) := by
 show IntKind.u64.wrap ((BitVec.ofInt 64 (b : Int) ^^^ BitVec.ofInt 64 0 : BitVec 64).toNat : Int) = _
 have e : BitVec.ofInt 64 0 = 0#64 := by decide
 have e2 : BitVec.ofInt 64 (b : Int) = BitVec.ofNat 64 b := by simp
 rw [e, e2, BitVec.xor_zero, BitVec.toNat_ofNat, Nat.mod_eq_of_lt (by simpa using hb), wrapu64]
 omega
theorem zig_bits {z : Int} (h : -9223372036854775808 ≤ z ∧ z ≤ 9223372036854775807) : bits .xor .u64 (IntKind.u64.wrap (IntKind.u64.wrap z * 2 ^ min 1 IntKind.u64.bits)) (IntKind.u64.wrap (z.fdiv (2 ^ min 63 IntKind.i64.bits))) = (zig z : Int) := by
 have e0 : (2 : Int) ^ min 1 IntKind.u64.bits = 2 := by decide
 have e3 : (2 : Int) ^ min 63 IntKind.i64.bits = 9223372036854775808 := by decide
 rw [e0, e3, Int.fdiv_eq_ediv_of_nonneg _ (by omega), wrap_u64, wrap_u64, wrap_u64]
 by_cases hz : 0 ≤ z
 ·have e1 : z % 18446744073709551616 * 2 % 18446744073709551616 = ((zig z : Nat) : Int) := by unfold zig; rw [if_pos hz]; omega
  have e2 : z / 9223372036854775808 % 18446744073709551616 = 0 := by omega
  rw [e1, e2]; exact u64_xor0 _ (zig_lt h)
 ·have e1 : z % 18446744073709551616 * 2 % 18446744073709551616 = ((18446744073709551615 - zig z : Nat) : Int) := by unfold zig; rw [if_neg hz]; omega
  have e2 : z / 9223372036854775808 % 18446744073709551616 = 18446744073709551615 := by omega
  have := zig_lt h
  rw [e1, e2, u64_not' _ (by omega)]; omega
theorem c_octet_Int {K : AM.K} (hK : Ko K) (b : List UInt8) (z : Int) (hz : -9223372036854775808 ≤ z ∧ z ≤ 9223372036854775807) (hb : b.length ≤ 1099511627776) (sg) : LL.call n_octet_Int [.l K 1 (b.map eB), .i .i64 z] sg sg.length = some (.l .o 1 ((b ++ numB (zig z)).map eB), sg, sg.length) := by
 refine wp_call e_octet_Int rfl ?_
 have hn := c_octet_Num hK b (zig z) (zig_lt hz) hb sg
 have hg := zig_bits hz
 simp at hn
 simp [F_octet_Int, hg, hn]
 skip
theorem c_octet_fixed_uint64 {K : AM.K} (hK : Ko K) (b : List UInt8) (n : Nat) (hn : n < 18446744073709551616) (hb : b.length ≤ 1099511627776) (sg) : LL.call n_octet_fixed_uint64 [.l K 1 (b.map eB), .i .u64 n, .i .i64 8] sg sg.length = some (.l .o 1 ((b ++ fixB n 8).map eB), sg, sg.length) := by
 refine wp_call e_octet_fixed_uint64 rfl ?_
 simp [F_octet_fixed_uint64]
 refine wc_ind (fun a : List UInt8 × Nat × Nat × AM.K => ⟨[(0, .v (.l a.2.2.2 1 (a.1.map eB))), (1, .v (.i .u64 a.2.1)), (7, .v (.i .i64 8)), (8, .v (.i .i64 a.2.2.1))], [], sg, sg.length⟩) (fun a => 8 - a.2.2.1)
  (fun a => a.1 ++ fixB a.2.1 (8 - a.2.2.1) = b ++ fixB n 8 ∧ a.2.2.1 ≤ 8 ∧ Ko a.2.2.2 ∧ (a.2.2.1 = 8 → a.2.2.2 = .o)) ?_ (b, n, 0, K) ⟨rfl, by simp, hK, by simp⟩
 rintro ⟨c, m, j, K'⟩ ⟨h1, h2, h3, h4⟩ ih
 simp only at h1 h2 h3 h4
 have hlen : c.length ≤ 1099511627776 + 8 := by
  have h4 := congrArg List.length h1
  simp [fixB_len] at h4; omega
 by_cases hj : j = 8
 ·subst hj
  have := h4 rfl
  subst this
  have := congrArg (List.map eB) h1
  simp [fixB] at this
  simp [this, fixB]
 ·have hj' : (j : Int) < 8 := by omega
  have hg : fixB m (8 - j) = UInt8.ofNat (m % 256) :: fixB (m / 256) (8 - (j + 1)) := by
   rw [show 8 - j = (8 - (j + 1)) + 1 by omega]; rfl
  have w1 : IntKind.i64.wrap ((j : Int) + 1) = j + 1 := wrap64 (by omega)
  rcases h3 with rfl | rfl
  all_goals
   simp [hj']
   refine ⟨by omega, ?_⟩
   have := ih (c ++ [UInt8.ofNat (m % 256)], m / 256, j + 1, .o) (by simp; omega) ⟨by rw [← h1, hg]; simp, by simp; omega, .inl rfl, by simp⟩
   simpa [shr8, w1, wrap_u8] using this
theorem c_ref01_Num2 (n : Nat) (hn : n < 18446744073709551616) (sg) : LL.call n_c_ref01_Num2 [.i .u64 n] sg sg.length = some (.s (bs (numB n)), sg, sg.length) := by
 refine wp_call e_c_ref01_Num2 rfl ?_
 simp [F_c_ref01_Num2]
 refine wc_ind (fun a : List UInt8 × Nat => ⟨[(0, .v (.i .u64 a.2)), (3, .v (.l .o 1 (a.1.map eB)))], [], sg, sg.length⟩) (fun a => a.2)
  (fun a => a.1 ++ numB a.2 = numB n ∧ a.2 < 18446744073709551616) ?_ ([], n) ⟨rfl, hn⟩
 rintro ⟨c, m⟩ ⟨h1, h2⟩ ih
 simp only at h1 h2
 have hlen : c.length ≤ 10 := by
  have h4 := congrArg List.length h1
  have h5 := numB_len10 hn
  simp at h4; omega
 by_cases hm : m < 128
 ·have hm' : ¬ (128 : Int) ≤ m := by omega
  have hg := numB_small hm
  rw [hg] at h1
  have e : List.map eB c ++ [D.i .u8 (IntKind.u8.wrap m)] = (numB n).map eB := by rw [← h1]; simp [wrap_u8]
  simp [hm', e]
  omega
 ·have hm' : (128 : Int) ≤ m := by omega
  have hg := numB_big hm
  have e : (m : Int).tmod 128 = ((m % 128 : Nat) : Int) := rfl
  have w2 : IntKind.u64.wrap ((m : Int) / 128) = (m : Int) / 128 := wrapu64 (by omega)
  have w3 : IntKind.u64.wrap ((m : Int) % 128 + 128) = (m : Int) % 128 + 128 := wrapu64 (by omega)
  simp [hm', e]
  refine ⟨by omega, ?_⟩
  have := ih (c ++ [UInt8.ofNat (m % 128 + 128)], m / 128) (by simp; omega) ⟨by rw [← h1, hg]; simp, by simp; omega⟩
  simpa [w2, w3, wrap_u8] using this
theorem c_ref01_Int (z : Int) (hz : -9223372036854775808 ≤ z ∧ z ≤ 9223372036854775807) (sg) : LL.call n_c_ref01_Int [.i .i64 z] sg sg.length = some (.s (bs (numB (zig z))), sg, sg.length) := by
 refine wp_call e_c_ref01_Int rfl ?_
 have hn := c_ref01_Num2 (zig z) (zig_lt hz) sg
 by_cases h : 0 ≤ z
 ·have e1 : IntKind.u64.wrap (IntKind.u64.wrap z * 2) = (zig z : Int) := by rw [wrap_u64, wrap_u64]; unfold zig; rw [if_pos h]; omega
  simp [F_c_ref01_Int, h, e1, hn]
 ·have e2 : IntKind.u64.wrap (IntKind.u64.wrap (IntKind.u64.wrap (IntKind.i64.wrap (-IntKind.i64.wrap (z + 1))) * 2) + 1) = (zig z : Int) := by
   rw [wrap64 (x := z + 1) (by omega), wrap64 (x := -(z + 1)) (by omega), wrap_u64, wrap_u64, wrap_u64]; unfold zig; rw [if_neg h]; omega
  simp [F_c_ref01_Int, h, hn, e2]
theorem c_ref01_FixedK (n : Nat) (hn : n < 18446744073709551616) (k : Nat) (hk : k ≤ 8) (sg) : LL.call n_c_ref01_Fixed [.i .u64 n, .i .i64 k] sg sg.length = some (.s (bs (fixB n k)), sg, sg.length) := by
 refine wp_call e_c_ref01_Fixed rfl ?_
 simp [F_c_ref01_Fixed]
 refine wc_ind (fun a : List UInt8 × Nat × Nat => ⟨[(0, .v (.i .u64 a.2.1)), (1, .v (.i .i64 k)), (5, .v (.l .o 1 (a.1.map eB))), (6, .v (.i .i64 a.2.2))], [], sg, sg.length⟩) (fun a => k - a.2.2)
  (fun a => a.1 ++ fixB a.2.1 (k - a.2.2) = fixB n k ∧ a.2.2 ≤ k ∧ a.2.1 < 18446744073709551616) ?_ ([], n, 0) ⟨rfl, by simp, hn⟩
 rintro ⟨c, m, j⟩ ⟨h1, h2, h5⟩ ih
 simp only at h1 h2 h5
 have hlen : c.length ≤ k := by
  have h4 := congrArg List.length h1
  simp [fixB_len] at h4; omega
 by_cases hj : j = k
 ·subst hj
  have : c = fixB n j := by simpa [show fixB m 0 = [] from rfl] using h1
  subst this
  simp
 ·have hj' : (j : Int) < k := by omega
  have hg : fixB m (k - j) = UInt8.ofNat (m % 256) :: fixB (m / 256) (k - (j + 1)) := by
   rw [show k - j = (k - (j + 1)) + 1 by omega]; rfl
  have w1 : IntKind.i64.wrap ((j : Int) + 1) = j + 1 := wrap64 (by omega)
  have w2 : IntKind.u64.wrap ((m : Int) / 256) = (m : Int) / 256 := wrapu64 (by omega)
  have e : (m : Int).tmod 256 = ((m % 256 : Nat) : Int) := rfl
  simp [hj', e]
  refine ⟨by omega, ?_⟩
  have := ih (c ++ [UInt8.ofNat (m % 256)], m / 256, j + 1) (by simp; omega) ⟨by rw [← h1, hg]; simp, by simp; omega, by simp; omega⟩
  simpa [w1, w2, wrap_u8] using this
theorem c_ref01_Fixed (n : Nat) (hn : n < 18446744073709551616) (sg) : LL.call n_c_ref01_Fixed [.i .u64 n, .i .i64 8] sg sg.length = some (.s (bs (fixB n 8)), sg, sg.length) := c_ref01_FixedK n hn 8 (Nat.le_refl _) sg
end Go.AM

namespace Go.AM
theorem c_ref01_fail (e : Int) (sg) : LL.call n_c_ref01_fail [.i .i64 e] sg sg.length = some (eRn (failR e), sg, sg.length) := by
 refine wp_call e_c_ref01_fail rfl ?_
 simp [F_c_ref01_fail, failR]
theorem c_ref01_Bytes (x : Oc) (hx : x.ok) (n : Int) (sg) : LL.call n_c_ref01_Bytes [eRn x, .i .i64 n] sg sg.length = some (.t [eRn (bytesR x n).1, .s (bs (bytesR x n).2)], sg, sg.length) := by
 refine wp_call e_c_ref01_Bytes rfl ?_
 have hf := c_ref01_fail 1 sg
 have hxl : x.s.length ≤ 1099511627776 := hx
 simp at hf
 simp [F_c_ref01_Bytes, hf]
 refine bq_i (fun a => ?_) (fun a => ?_) <;> (have a' := a) <;> simp at a' <;> simp [a, a']
 ·simp [bytesR, a']
 refine bq_i (fun b => ?_) (fun b => ?_) <;> (have b' := b) <;> simp at b' <;> simp [b, b']
 ·simp [bytesR, a', b']
 have b2 : ¬ n ≤ 0 := by omega
 have b3 : 0 ≤ n := by omega
 refine bq_i (fun c => ?_) (fun c => ?_) <;> (have c' := c) <;> simp at c' <;> simp [c, c', b2, b3, hf]
 ·simp [bytesR, a', b2, c', failR]
 ·have c2 : ¬ (x.s.length : Int) < n := by omega
  simp [bytesR, a', b2, c2]
theorem c_ref01_Number (x : Oc) (hx : x.ok) (most : Nat) (hm : most < 18446744073709551616) (sg) : LL.call n_c_ref01_Number [eRn x, .i .u64 most] sg sg.length = some (.t [eRn (numR x most).1, .i .u64 (numR x most).2], sg, sg.length) := by
 refine wp_call e_c_ref01_Number rfl ?_
 have hf1 := c_ref01_fail 1 sg
 have hf2 := c_ref01_fail 2 sg
 have hf3 := c_ref01_fail 3 sg
 have hxl : x.s.length ≤ 1099511627776 := hx
 simp at hf1 hf2 hf3
 by_cases he : x.e = 0
 ·simp [F_c_ref01_Number, he]
  refine wc_up (leads x.s 9) (fun i => ⟨[(1, .v (.i .u64 most)), (2, .q (.ptr 2 0)), (4, .q (.ptr 4 0)), (6, .v (.i .i64 i))], [(2, [.s (bs x.s), .i .i64 0]), (4, [.s (bs []), .i .i64 0])], sg, sg.length⟩) (fun _ => True) ?_ ?_ 0 (by omega) trivial
  ·intro i hi _ ih
   have h1 := leads_le x.s 9
   obtain ⟨c, hc, hc2⟩ := leads_ge x.s 9 i hi
   have i1 : i < x.s.length := by omega
   have i1' : (i : Int) < x.s.length := by omega
   have i2 : (i : Int) < 9 := by omega
   have i4 : x.s[i] = c := by rw [List.getElem?_eq_getElem i1] at hc; exact Option.some.inj hc
   have i3 : (128 : Int) ≤ x.s[i].toNat := by rw [i4]; omega
   have w1 : IntKind.i64.wrap ((i : Int) + 1) = i + 1 := wrap64 (by omega)
   simp [i1, i1', i2, i3]
   simpa [w1] using ih trivial
  ·have h1 := leads_le x.s 9
   have hL := numL_leads x.s 0 0 (by omega)
   have hS := leads_stop x.s 9
   simp at hL
   generalize leads x.s 9 = K at *
   intro _
   by_cases hK : K = x.s.length
   ·have hn : numR x most = (failR 1, 0) := by
     have : x.s[K]? = none := List.getElem?_eq_none (by omega)
     rw [this] at hL
     have := numR_eq he hL most
     simpa using this
    have k1 : ¬ (K : Int) < x.s.length := by omega
    have k2 : ((K : Int) == x.s.length) = true := by simp; omega
    simp [k1, k2, hf1]
    simp [hn]
   have hK1 : K < x.s.length := by omega
   have hK2 : (K : Int) < x.s.length := by omega
   have hK3 : ((K : Int) == x.s.length) = false := by simp; omega
   rw [List.getElem?_eq_getElem hK1] at hL
   simp at hL
   have hS2 : ¬ ((K : Int) < 9 ∧ (128 : Int) ≤ x.s[K].toNat) := by
    intro h
    have := hS _ (List.getElem?_eq_getElem hK1) (by omega)
    omega
   have hc := u8_lt x.s[K]
   have hlast : ¬ (K = 9 ∧ 1 < x.s[K].toNat) → ¬ (0 < K ∧ x.s[K].toNat = 0) → numR x most = (if hor (x.s.take (K + 1)) > most then (failR 3, 0) else (⟨x.s.drop (K + 1), 0⟩, hor (x.s.take (K + 1)))) ∧ hor (x.s.take (K + 1)) < 18446744073709551616 := by
    intro h5 h6
    have hL2 := numL_lt x.s 0 0 (by omega) (by simp)
    rw [if_neg h5, if_neg (by simpa using h6)] at hL
    have := numR_eq he hL most
    rw [hL] at hL2
    exact ⟨by simpa using this, hL2⟩
   by_cases hA : K = 9 ∧ 1 < x.s[K].toNat
   ·have hn : numR x most = (failR 2, 0) := by
     rw [if_pos hA] at hL
     simpa using numR_eq he hL most
    obtain ⟨rfl, hA⟩ := hA
    have hA' : (1 : Int) < x.s[9].toNat := by omega
    have hK4 : (9 : Int) < x.s.length := by omega
    have hK5 : ((9 : Int) == x.s.length) = false := by simp; omega
    simp [hK1, hK2, hK3, hA', hK4, hK5, hf2]
    simp [hn]
   by_cases hB : 0 < K ∧ x.s[K].toNat = 0
   ·have hn : numR x most = (failR 2, 0) := by
     rw [if_neg hA, if_pos (by simpa using hB)] at hL
     simpa using numR_eq he hL most
    have hc0 : ((x.s[K].toNat : Int) == 0) = true := by simp; omega
    by_cases h9 : K = 9
    ·subst h9
     have hK4 : (9 : Int) < x.s.length := by omega
     have hK5 : ((9 : Int) == x.s.length) = false := by simp; omega
     have hA' : ¬ (1 : Int) < x.s[9].toNat := by omega
     simp [hK1, hK2, hK3, hK4, hK5, hA', hc0, hf2]
     simp [hn]
    ·have i2 : (K : Int) < 9 := by omega
     have i3 : ¬ (128 : Int) ≤ x.s[K].toNat := fun h => hS2 ⟨i2, h⟩
     have h9' : ((K : Int) == 9) = false := by simp; omega
     have h0 : (0 : Int) < K := by omega
     simp [hK1, hK2, hK3, i2, i3, h9', h0, hB.1, hc0, hf2]
     simp [hn]
   obtain ⟨hn, hv⟩ := hlast hA hB
   by_cases h9 : K = 9
   ·subst h9
    have hK4 : (9 : Int) < x.s.length := by omega
    have hK5 : ((9 : Int) == x.s.length) = false := by simp; omega
    have hA' : ¬ (1 : Int) < x.s[9].toNat := by omega
    have hc0 : ((x.s[9].toNat : Int) == 0) = false := by simp; omega
    simp [hK1, hK2, hK3, hK4, hK5, hA', hc0]
    have hw : (x.s.take (9 + 1)).length = 9 + 1 := by simp; omega
    obtain ⟨w, hwe⟩ : ∃ w, w = x.s.take (9 + 1) := ⟨_, rfl⟩
    rw [← hwe] at hn hv hw
    have k1 : IntKind.i64.wrap 10 = 10 := by decide
    refine wc_ind (fun a : Nat × Nat × Int => ⟨[(1, .v (.i .u64 most)), (2, .q (.ptr 2 0)), (4, .q (.ptr 4 0)), (6, .v (.i .i64 (9 : Int))), (7, .v (.i .u64 a.2.1)), (8, .v (.i .i64 a.2.2))], [(2, [.s (bs x.s), .i .i64 0]), (4, [.s (bs []), .i .i64 0])], sg, sg.length⟩) (fun a => a.1)
     (fun a => a.1 ≤ 9 + 1 ∧ a.2.1 = hor (w.drop a.1) ∧ a.2.2 = (a.1 : Int) - 1) ?_ (9 + 1, 0, (9 : Int)) ⟨by simp, by rw [show 9 + 1 = w.length from hw.symm]; simp [hor], by show (9 : Int) = ((9 + 1 : Nat) : Int) - 1; omega⟩
    rintro ⟨j, n, i⟩ ⟨hj, hn1, hi⟩ ih
    simp only at hj hn1 hi
    cases j with
    | zero =>
     have hi' : ¬ (0 : Int) ≤ i := by omega
     have hi2 : i < 0 := by omega
     simp at hn1
     subst hn1
     have l1 : 9 + 1 ≤ x.s.length := by omega
     have l2 : (9 : Int) + 1 ≤ x.s.length := by omega
     have p1 : (0 : Int) ≤ (9 : Int) + 1 := by omega
     simp [hi', hi2, k1]
     refine bq_i (fun b => ?_) (fun b => ?_) <;> (have b' := b) <;> simp at b' <;> simp [b, hf3, k1, p1, l1, l2]
     ·simp [hn, b']
     ·rw [if_neg (by omega)] at hn
      simp [hn, k1]
      try omega
    | succ j =>
     have hi' : i = j := by omega
     subst hi'
     have j1 : j < x.s.length := by omega
     have j2 : (j : Int) < x.s.length := by omega
     have j3 : j < w.length := by omega
     have hd := hor_drop_cons j3
     have hle := hor_drop w j
     have hwj : w[j] = x.s[j] := by subst hwe; simp
     rw [hwj] at hd
     have hc2 := u8_lt x.s[j]
     have w2 : IntKind.u64.wrap ((n : Int) * 128) = (n : Int) * 128 := wrapu64 (by omega)
     have e3 : ((x.s[j].toNat : Int)).tmod 128 = ((x.s[j].toNat % 128 : Nat) : Int) := rfl
     have w3 : IntKind.u64.wrap ((x.s[j].toNat : Int)) = (x.s[j].toNat : Int) := wrapu64 (by omega)
     have w4 : IntKind.u64.wrap ((n : Int) * 128 + (x.s[j].toNat : Int) % 128) = ((hor (w.drop j) : Nat) : Int) := by rw [wrapu64 (by omega)]; omega
     have w5 : IntKind.u64.wrap ((x.s[j].toNat : Int) % 128) = (x.s[j].toNat : Int) % 128 := wrapu64 (by omega)
     simp [j1, j2, w2, w3, w4, w5, e3]
     have := ih (j, hor (w.drop j), IntKind.i64.wrap ((j : Int) - 1)) (by simp) ⟨by simp; omega, rfl, wrap64 (by omega)⟩
     simpa using this
   ·have i2 : (K : Int) < 9 := by omega
    have i3 : ¬ (128 : Int) ≤ x.s[K].toNat := fun h => hS2 ⟨i2, h⟩
    have h9' : ((K : Int) == 9) = false := by simp; omega
    have hz : (¬ 0 < K ∧ True) ∨ 0 < K ∧ ((x.s[K].toNat : Int) == 0) = false := by
     by_cases h : 0 < K
     ·exact .inr ⟨h, by simp; omega⟩
     ·exact .inl ⟨h, trivial⟩
    rcases hz with ⟨h01, h02⟩ | ⟨h01, h02⟩ <;> simp [hK1, hK2, hK3, i2, i3, h9', h01, h02]
    all_goals
     have hw : (x.s.take (K + 1)).length = K + 1 := by simp; omega
     obtain ⟨w, hwe⟩ : ∃ w, w = x.s.take (K + 1) := ⟨_, rfl⟩
     rw [← hwe] at hn hv hw
     have k1 : IntKind.i64.wrap ((K : Int) + 1) = K + 1 := wrap64 (by omega)
     refine wc_ind (fun a : Nat × Nat × Int => ⟨[(1, .v (.i .u64 most)), (2, .q (.ptr 2 0)), (4, .q (.ptr 4 0)), (6, .v (.i .i64 (K : Int))), (7, .v (.i .u64 a.2.1)), (8, .v (.i .i64 a.2.2))], [(2, [.s (bs x.s), .i .i64 0]), (4, [.s (bs []), .i .i64 0])], sg, sg.length⟩) (fun a => a.1)
      (fun a => a.1 ≤ K + 1 ∧ a.2.1 = hor (w.drop a.1) ∧ a.2.2 = (a.1 : Int) - 1) ?_ (K + 1, 0, (K : Int)) ⟨by simp, by rw [show K + 1 = w.length from hw.symm]; simp [hor], by show (K : Int) = ((K + 1 : Nat) : Int) - 1; omega⟩
     rintro ⟨j, n, i⟩ ⟨hj, hn1, hi⟩ ih
     simp only at hj hn1 hi
     cases j with
     | zero =>
      have hi' : ¬ (0 : Int) ≤ i := by omega
      have hi2 : i < 0 := by omega
      simp at hn1
      subst hn1
      have l1 : K + 1 ≤ x.s.length := by omega
      have l2 : (K : Int) + 1 ≤ x.s.length := by omega
      have p1 : (0 : Int) ≤ (K : Int) + 1 := by omega
      simp [hi', hi2, k1]
      refine bq_i (fun b => ?_) (fun b => ?_) <;> (have b' := b) <;> simp at b' <;> simp [b, hf3, k1, p1, l1, l2]
      ·simp [hn, b']
      ·rw [if_neg (by omega)] at hn
       simp [hn]
       try omega
     | succ j =>
      have hi' : i = j := by omega
      subst hi'
      have j1 : j < x.s.length := by omega
      have j2 : (j : Int) < x.s.length := by omega
      have j3 : j < w.length := by omega
      have hd := hor_drop_cons j3
      have hle := hor_drop w j
      have hwj : w[j] = x.s[j] := by subst hwe; simp
      rw [hwj] at hd
      have hc2 := u8_lt x.s[j]
      have w2 : IntKind.u64.wrap ((n : Int) * 128) = (n : Int) * 128 := wrapu64 (by omega)
      have e3 : ((x.s[j].toNat : Int)).tmod 128 = ((x.s[j].toNat % 128 : Nat) : Int) := rfl
      have w3 : IntKind.u64.wrap ((x.s[j].toNat : Int)) = (x.s[j].toNat : Int) := wrapu64 (by omega)
      have w4 : IntKind.u64.wrap ((n : Int) * 128 + (x.s[j].toNat : Int) % 128) = ((hor (w.drop j) : Nat) : Int) := by rw [wrapu64 (by omega)]; omega
      have w5 : IntKind.u64.wrap ((x.s[j].toNat : Int) % 128) = (x.s[j].toNat : Int) % 128 := wrapu64 (by omega)
      simp [j1, j2, w2, w3, w4, w5, e3]
      have := ih (j, hor (w.drop j), IntKind.i64.wrap ((j : Int) - 1)) (by simp) ⟨by simp; omega, rfl, wrap64 (by omega)⟩
      simpa using this
 ·have heb : (x.e != 0) = true := by simpa using he
  simp [F_c_ref01_Number, heb, numR_err he]
theorem c_ref01_Signed (x : Oc) (hx : x.ok) (sg) : LL.call n_c_ref01_Signed [eRn x] sg sg.length = some (.t [eRn (signR x).1, .i .i64 (signR x).2], sg, sg.length) := by
 refine wp_call e_c_ref01_Signed rfl ?_
 have hn := c_ref01_Number x hx 18446744073709551615 (by omega) sg
 have hlt := numR_lt x 18446744073709551615
 simp [signR]
 generalize (numR x 18446744073709551615).2 = n at *
 generalize (numR x 18446744073709551615).1 = y at *
 simp at hn
 have e : (n : Int).tmod 2 = ((n % 2 : Nat) : Int) := rfl
 simp [F_c_ref01_Signed, hn, e]
 refine bq_i (fun a => ?_) (fun a => ?_) <;> (have a' := a) <;> simp at a' <;> simp [a, a']
 ·rw [wrapu64 (by omega), wrap64 (x := (n : Int) / 2) (by omega), wrap64 (x := -((n : Int) / 2)) (by omega), wrap64 (by omega)]; unfold unzig; rw [if_pos (by omega)]; omega
 ·rw [wrapu64 (by omega), wrap64 (by omega)]; unfold unzig; rw [if_neg (by omega)]; omega
theorem c_ref01_WholeK (x : Oc) (hx : x.ok) (k : Nat) (hk : k ≤ 8) (sg) : LL.call n_c_ref01_Whole [eRn x, .i .i64 k] sg sg.length = some (.t [eRn (wholeR x k).1, .i .u64 (wholeR x k).2], sg, sg.length) := by
 refine wp_call e_c_ref01_Whole rfl ?_
 have hb := c_ref01_Bytes x hx k sg
 have hl := bytesR_len x k
 simp [wholeR]
 generalize (bytesR x k).2 = l at *
 generalize (bytesR x k).1 = y at *
 simp at hb hl
 simp [F_c_ref01_Whole, hb]
 have hv := leV_lt l
 refine wc_ind (fun a : Nat × Nat => ⟨[(4, .q (.ptr 4 0)), (6, .q (.ptr 6 0)), (7, .v (.s (bs l))), (8, .v (.i .u64 a.2)), (9, .v (.i .i64 (IntKind.i64.wrap ((a.1 : Int) - 1))))], [(4, [.s (bs []), .i .i64 0]), (6, [.s (bs y.s), .i .i64 y.e])], sg, sg.length⟩) (fun a => a.1) (fun a => a.1 ≤ l.length ∧ a.2 = leV (l.drop a.1)) ?_ (l.length, 0) ⟨Nat.le_refl _, by simp [leV]⟩
 rintro ⟨j, n⟩ ⟨hj, hn⟩ ih
 simp only at hj hn
 cases j with
 | zero =>
  have w : IntKind.i64.wrap (-1) = -1 := by decide
  simp [w]
  simp [hn]
 | succ j =>
  have w : IntKind.i64.wrap (j : Int) = j := wrap64 (by omega)
  have hj' : (j : Int) < l.length := by omega
  have hj2 : j < l.length := by omega
  have hd := leV_drop_cons hj2
  have hc := u8_lt l[j]
  have hle : leV (l.drop j) < 18446744073709551616 := by
   have h1 := leV_lt (l.drop j)
   have : 256 ^ (l.drop j).length ≤ 256 ^ 8 := Nat.pow_le_pow_right (by omega) (by simp; omega)
   have : (256 : Nat) ^ 8 = 18446744073709551616 := by decide
   omega
  have w2 : IntKind.u64.wrap ((n : Int) * 256) = (n : Int) * 256 := wrapu64 (by omega)
  have w3 : IntKind.u64.wrap ((l[j].toNat : Int)) = (l[j].toNat : Int) := wrapu64 (by omega)
  have w4 : IntKind.u64.wrap ((n : Int) * 256 + (l[j].toNat : Int)) = ((leV (l.drop j) : Nat) : Int) := by rw [wrapu64 (by omega)]; omega
  simp [w, hj', hj2, w2, w3, w4]
  have := ih (j, leV (l.drop j)) (by simp) ⟨by simp; omega, rfl⟩
  simpa using this
theorem c_ref01_Whole (x : Oc) (hx : x.ok) (sg) : LL.call n_c_ref01_Whole [eRn x, .i .i64 8] sg sg.length = some (.t [eRn (wholeR x 8).1, .i .u64 (wholeR x 8).2], sg, sg.length) := c_ref01_WholeK x hx 8 (Nat.le_refl _) sg
end Go.AM

namespace Go.AM
def backB (k : Nat) : Nat := if 9223372036854775808 ≤ k then k - 9223372036854775808 else 18446744073709551615 - k
theorem backB_lt {k : Nat} (h : k < 18446744073709551616) : backB k < 18446744073709551616 := by unfold backB; split <;> omega
theorem keyC_backB {k : Nat} (h : k < 18446744073709551616) : keyC (backB k) = k := by
 unfold keyC backB; split <;> split <;> omega
theorem backB_keyC {b : Nat} (h : b < 18446744073709551616) : backB (keyC b) = b := by
 unfold keyC backB; split <;> split <;> omega
theorem key_backB {k : Nat} (h : k < 18446744073709551616) : key (backB k) = k ↔ canon (backB k) = backB k := by
 unfold key
 constructor
 ·intro e
  exact keyC_inj (canon_lt (backB_lt h)) (backB_lt h) (by rw [e, keyC_backB h])
 ·intro e; rw [e, keyC_backB h]
theorem c_real_Back (k : Nat) (hk : k < 18446744073709551616) (sg) : LL.call n_real_Back [.i .u64 k] sg sg.length = some (if canon (backB k) = backB k then .t [.f .f64 (backB k), .b true] else .t [.f .f64 0, .b false], sg, sg.length) := by
 refine wp_call e_real_Back rfl ?_
 have e1 := u64_and k 9223372036854775808 hk (by omega)
 have e3 := u64_not k hk
 have e4 := u64_andnot_sign k hk
 rw [and_sign _ hk] at e1
 have hkey := c_real_Key (backB k) (backB_lt hk) sg
 have hiff := key_backB hk
 simp at e1
 by_cases h : 9223372036854775808 ≤ k
 ·rw [if_pos h] at e1
  have hb : k % 9223372036854775808 = backB k := by unfold backB; rw [if_pos h]; omega
  rw [hb] at e4
  have p0 : (0 : Int) ≤ backB k := by omega
  simp [F_real_Back, e1, e3, e4, IntKind.signed, IntKind.max, IntKind.bits, p0, hkey]
  refine bq_i (fun b => ?_) (fun b => ?_) <;> (have b' := b) <;> simp at b' <;> simp [b]
  ·intro h2; have := hiff.2 h2; omega
  ·exact hiff.1 (by omega)
 ·rw [if_neg h] at e1
  have hb : 18446744073709551615 - k = backB k := by unfold backB; rw [if_neg h]
  rw [hb] at e3
  have p0 : (0 : Int) ≤ backB k := by omega
  simp [F_real_Back, e1, e3, IntKind.signed, IntKind.max, IntKind.bits, p0, hkey]
  refine bq_i (fun b => ?_) (fun b => ?_) <;> (have b' := b) <;> simp at b' <;> simp [b]
  ·intro h2; have := hiff.2 h2; omega
  ·exact hiff.1 (by omega)
theorem c_ref19_float (k : Nat) (hk : k < 18446744073709551616) (sg) : LL.call n_c_ref19_float [.i .u64 k] sg sg.length = some (.t [.i .u64 (backB k), .b (decide (canon (backB k) = backB k))], sg, sg.length) := by
 refine wp_call e_c_ref19_float rfl ?_
 have hb := c_ref03_Bits (backB k) (backB_lt hk) sg
 have hkey := c_ref03_Key (backB k) (backB_lt hk) sg
 have hiff := key_backB hk
 by_cases h : k < 9223372036854775808
 ·have h' : (k : Int) < 9223372036854775808 := by omega
  have w : IntKind.u64.wrap (18446744073709551615 - (k : Int)) = (backB k : Int) := by rw [wrapu64 (by omega)]; unfold backB; rw [if_neg (by omega)]; omega
  simp [F_c_ref19_float, h, h', w, hb, hkey]
  refine bq_i (fun b => ?_) (fun b => ?_) <;> (have b' := b) <;> simp at b' <;> simp [b, hb]
  ·have := hiff.1 (by omega)
   simp [this]
  ·intro h2; have := hiff.2 h2; omega
 ·have h' : ¬ (k : Int) < 9223372036854775808 := by omega
  have w : IntKind.u64.wrap ((k : Int) - 9223372036854775808) = (backB k : Int) := by rw [wrapu64 (by omega)]; unfold backB; rw [if_pos (by omega)]; omega
  simp [F_c_ref19_float, h, h', w, hb, hkey]
  refine bq_i (fun b => ?_) (fun b => ?_) <;> (have b' := b) <;> simp at b' <;> simp [b, hb]
  ·have := hiff.1 (by omega)
   simp [this]
  ·intro h2; have := hiff.2 h2; omega
theorem c_ref19_end (x : Oc) (hx : x.ok) (sg) : LL.call n_c_ref19_end [eRn x] sg sg.length = some (eRn (endR x), sg, sg.length) := by
 refine wp_call e_c_ref19_end rfl ?_
 have hxl : x.s.length ≤ 1099511627776 := hx
 simp [F_c_ref19_end]
 refine bq_i (fun a => ?_) (fun a => ?_) <;> (have a' := a) <;> simp at a' <;> simp [a]
 ·by_cases hl : 0 < x.s.length
  ·have hl' : (0 : Int) < x.s.length := by omega
   simp [hl, hl']
   simp [endR, a', hl, failR]
  ·have hl' : ¬ (0 : Int) < x.s.length := by omega
   simp [hl, hl']
   simp [endR, hl]
 ·simp [endR, a']
end Go.AM

namespace Go.AM
def itemsG : Nat → Oc → List It → Oc × List It
 | 0, x, acc => (x, acc)
 | n + 1, x, acc =>
  if (signR (wholeR x 8).1).1.e ≠ 0 then ((signR (wholeR x 8).1).1, acc) else
  if canon (backB (wholeR x 8).2) ≠ backB (wholeR x 8).2 then (failR 2, acc) else
  itemsG n (signR (wholeR x 8).1).1 (acc ++ [⟨backB (wholeR x 8).2, (signR (wholeR x 8).1).2⟩])
def takeS (x : Oc) : Oc × List It := itemsG (numR x 1000).2 (numR x 1000).1 []
def listsG : Nat → Oc → List (List It) → Oc × List (List It)
 | 0, x, acc => (x, acc)
 | n + 1, x, acc => listsG n (takeS x).1 (acc ++ [(takeS x).2])
def countsG : Nat → Oc → List Int → Oc × List Int
 | 0, x, acc => (x, acc)
 | n + 1, x, acc => countsG n (numR x 1125899906842624).1 (acc ++ [((numR x 1125899906842624).2 : Int)])
theorem signR_ok {x : Oc} (h : x.ok) : (signR x).1.ok := numR_ok h _
theorem wholeR_ok {x : Oc} (h : x.ok) (n : Int) : (wholeR x n).1.ok := bytesR_ok h n
theorem failR_ok (e : Int) : (failR e).ok := by simp [Oc.ok, failR]
theorem endR_ok {x : Oc} (h : x.ok) : (endR x).ok := by unfold endR; split; exact failR_ok 2; exact h
theorem itemsG_ok : ∀ (n : Nat) (x : Oc) (acc : List It), x.ok → (itemsG n x acc).1.ok
 | 0, x, acc, h => h
 | n + 1, x, acc, h => by
  unfold itemsG
  split
  ·exact signR_ok (wholeR_ok h 8)
  split
  ·exact failR_ok 2
  ·exact itemsG_ok n _ _ (signR_ok (wholeR_ok h 8))
theorem takeS_ok {x : Oc} (h : x.ok) : (takeS x).1.ok := itemsG_ok _ _ _ (numR_ok h _)
theorem numR_stay {x : Oc} (h : x.e ≠ 0) (most : Nat) : numR x most = (x, 0) := numR_err h most
theorem takeS_stay {x : Oc} (h : x.e ≠ 0) : takeS x = (x, []) := by
 unfold takeS; rw [numR_err h]; rfl
theorem listsG_stay {x : Oc} (h : x.e ≠ 0) : ∀ (n : Nat) (acc), (listsG n x acc).1 = x
 | 0, acc => rfl
 | n + 1, acc => by unfold listsG; rw [takeS_stay h]; exact listsG_stay h n _
theorem countsG_stay {x : Oc} (h : x.e ≠ 0) : ∀ (n : Nat) (acc), (countsG n x acc).1 = x
 | 0, acc => rfl
 | n + 1, acc => by unfold countsG; rw [numR_err h]; exact countsG_stay h n _
theorem itemsG_len : ∀ (n : Nat) (x : Oc) (acc : List It), (itemsG n x acc).2.length ≤ acc.length + n
 | 0, x, acc => by simp [itemsG]
 | n + 1, x, acc => by
  unfold itemsG
  split
  ·simp
  split
  ·simp
  ·have := itemsG_len n (signR (wholeR x 8).1).1 (acc ++ [⟨backB (wholeR x 8).2, (signR (wholeR x 8).1).2⟩])
   simp at this; omega
theorem takeS_len (x : Oc) : (takeS x).2.length ≤ 1000 := by
 have := itemsG_len (numR x 1000).2 (numR x 1000).1 []
 have := numR_le x 1000
 unfold takeS; simp at *; omega
def itemsY : Nat → Oc → Oc
 | 0, x => x
 | n + 1, x =>
  if (signR (wholeR x 8).1).1.e ≠ 0 then (signR (wholeR x 8).1).1 else
  if canon (backB (wholeR x 8).2) ≠ backB (wholeR x 8).2 then (signR (wholeR x 8).1).1 else
  itemsY n (signR (wholeR x 8).1).1
def takeY (x : Oc) : Oc := itemsY (numR x 1000).2 (numR x 1000).1
theorem itemsY_eq : ∀ (n : Nat) (x : Oc) (acc), (itemsG n x acc).1.e = 0 → itemsY n x = (itemsG n x acc).1
 | 0, x, acc, h => rfl
 | n + 1, x, acc, h => by
  unfold itemsG at h ⊢
  unfold itemsY
  split at h
  ·contradiction
  rename_i h1
  rw [if_neg h1, if_neg h1]
  split at h
  ·simp [failR] at h
  rename_i h2
  rw [if_neg h2, if_neg h2]
  exact itemsY_eq n _ _ h
theorem takeY_eq {x : Oc} (h : (takeS x).1.e = 0) : takeY x = (takeS x).1 := itemsY_eq _ _ _ h
theorem itemsG_succ (n x acc) : itemsG (n + 1) x acc = if (signR (wholeR x 8).1).1.e ≠ 0 then ((signR (wholeR x 8).1).1, acc) else
    if canon (backB (wholeR x 8).2) ≠ backB (wholeR x 8).2 then (failR 2, acc) else
    itemsG n (signR (wholeR x 8).1).1 (acc ++ [⟨backB (wholeR x 8).2, (signR (wholeR x 8).1).2⟩]) := rfl
theorem itemsY_succ (n x) : itemsY (n + 1) x = if (signR (wholeR x 8).1).1.e ≠ 0 then (signR (wholeR x 8).1).1 else
    if canon (backB (wholeR x 8).2) ≠ backB (wholeR x 8).2 then (signR (wholeR x 8).1).1 else
    itemsY n (signR (wholeR x 8).1).1 := rfl
theorem itemsG_zero (x acc) : itemsG 0 x acc = (x, acc) := rfl
theorem itemsY_zero (x) : itemsY 0 x = x := rfl
theorem c_section_take (x : Oc) (hx : x.ok) (sg) (g : Nat) (h : sg[g]? = some (eIn x)) :
    LL.call n_section_take [.p g 0] sg sg.length = some (.t [.l .o 2 (if (takeS x).1.e = 0 then (takeS x).2.map eI else []), .i .i64 (takeS x).1.e], sg.set g (eIn (takeY x)), sg.length) := by
 have hn := c_octet_In_Num x hx 1000 (by omega) sg g h
 have hle := numR_le x 1000
 have hx1 := numR_ok hx 1000
 have hs := fun y => set_get h y
 simp at h hn
 unfold takeS takeY
 generalize (numR x 1000).1 = x1 at *
 generalize (numR x 1000).2 = n at *
 refine wp_call e_section_take rfl ?_
 simp [F_section_take, hn]
 refine wc_ind (fun a : Nat × Oc × List It => ⟨[(0, .v (.p g 0)), (5, .v (.l .o 2 (a.2.2.map eI))), (13, .v (.i .u64 n)), (14, .v (.i .u64 a.1))], [], sg.set g (eIn a.2.1), sg.length⟩) (fun a => n - a.1)
  (fun a => a.1 ≤ n ∧ itemsG n x1 [] = itemsG (n - a.1) a.2.1 a.2.2 ∧ itemsY n x1 = itemsY (n - a.1) a.2.1 ∧ a.2.1.ok ∧ a.2.2.length ≤ a.1 ∧ (0 < a.1 → a.2.1.e = 0)) ?_ (0, x1, []) ⟨by simp, rfl, rfl, hx1, by simp, by simp⟩
 rintro ⟨i, y, acc⟩ ⟨h1, h2, h3, h4, h5, h6⟩ ih
 simp only at h1 h2 h3 h4 h5 h6
 have hk := c_octet_In_Long y h4 (sg.set g (eIn y)) g (hs _)
 have hv := c_octet_In_Int (wholeR y 8).1 (wholeR_ok h4 8) (sg.set g (eIn (wholeR y 8).1)) g (hs _)
 have he := c_octet_In_Err (signR (wholeR y 8).1).1 (sg.set g (eIn (signR (wholeR y 8).1).1)) g (hs _)
 have hkl := wholeR_lt y
 have hok := signR_ok (wholeR_ok h4 8)
 have hbk := c_real_Back (wholeR y 8).2 hkl (sg.set g (eIn (signR (wholeR y 8).1).1))
 have he0 := c_octet_In_Err y (sg.set g (eIn y)) g (hs _)
 simp at hk hv he hbk he0
 by_cases hi : i < n
 ·have hi' : (i : Int) < n := by omega
  obtain ⟨m, hm⟩ : ∃ m, n - i = m + 1 := ⟨n - i - 1, by omega⟩
  have hm2 : n - (i + 1) = m := by omega
  rw [hm] at h2 h3
  rw [itemsG_succ] at h2
  rw [itemsY_succ] at h3
  simp [hi, hi', hk, hv, he]
  refine bq_i (fun a => ?_) (fun a => ?_) <;> (have a' := a) <;> simp at a' <;> simp [a]
  ·rw [if_pos a'] at h2 h3
   simp [h2, h3, a']
  ·rw [if_neg (by simpa using a')] at h2 h3
   by_cases hc : canon (backB (wholeR y 8).2) = backB (wholeR y 8).2
   ·rw [if_neg (by simpa using hc)] at h2 h3
    rw [if_pos hc] at hbk
    have w1 : IntKind.u64.wrap ((i : Int) + 1) = i + 1 := wrapu64 (by omega)
    simp [hbk]
    refine ⟨by omega, ?_⟩
    have := ih (i + 1, (signR (wholeR y 8).1).1, acc ++ [⟨backB (wholeR y 8).2, (signR (wholeR y 8).1).2⟩]) (by simp; omega) ⟨hi, by rw [h2, hm2], by rw [h3, hm2], hok, by simp; omega, fun _ => a'⟩
    simpa [w1] using this
   ·rw [if_pos hc] at h2 h3
    rw [if_neg hc] at hbk
    simp [hbk]
    simp [h2, h3, failR]
 ·have hi' : ¬ (i : Int) < n := by omega
  rw [show n - i = 0 by omega] at h2 h3
  rw [itemsG_zero] at h2
  rw [itemsY_zero] at h3
  simp [hi, hi', he0]
  simp [h2, h3]
  intro he1
  have : i = 0 := by
   rcases Nat.eq_zero_or_pos i with h | h
   ·exact h
   ·exact absurd (h6 h) he1
  exact List.eq_nil_of_length_eq_zero (by omega)
end Go.AM

namespace Go.AM
def listsY : Nat → Oc → Oc
 | 0, x => x
 | n + 1, x => if (takeS x).1.e ≠ 0 then takeY x else listsY n (takeS x).1
theorem listsG_succ (n x acc) : listsG (n + 1) x acc = listsG n (takeS x).1 (acc ++ [(takeS x).2]) := rfl
theorem listsY_succ (n x) : listsY (n + 1) x = if (takeS x).1.e ≠ 0 then takeY x else listsY n (takeS x).1 := rfl
theorem countsG_succ (n x acc) : countsG (n + 1) x acc = countsG n (numR x 1125899906842624).1 (acc ++ [((numR x 1125899906842624).2 : Int)]) := rfl
def readG (a b : Nat) (x : Oc) : Oc × List (List It) × List Int :=
 (endR (countsG b (listsG a x []).1 []).1, (listsG a x []).2, (countsG b (listsG a x []).1 []).2)
theorem endR_stay {x : Oc} (h : x.e ≠ 0) : endR x = x := by unfold endR; rw [if_neg]; exact fun h' => h h'.1
theorem readG_stay {a b : Nat} {x : Oc} (h : (listsG a x []).1.e ≠ 0) : (readG a b x).1.e = (listsG a x []).1.e := by
 unfold readG; simp only; rw [countsG_stay h, endR_stay h]
def shapeN (k p : Int) : Nat × Nat := ((shapeOf k p).1.toNat, (shapeOf k p).2.toNat)
theorem shape_nat {k p : Int} (hk : 1 ≤ k ∧ k ≤ 4) (hp : 0 ≤ p ∧ p ≤ 255) : (shapeOf k p).1 = (shapeN k p).1 ∧ (shapeOf k p).2 = (shapeN k p).2 ∧ (shapeN k p).1 ≤ 255 ∧ (shapeN k p).2 ≤ 255 := by
 unfold shapeN
 have : k = 1 ∨ k = 2 ∨ k = 3 ∨ k = 4 := by omega
 rcases this with rfl | rfl | rfl | rfl <;> simp [shapeOf] <;> omega
def readY (a b : Nat) (x : Oc) : Oc := if (listsG a x []).1.e = 0 then (readG a b x).1 else listsY a x
theorem c_section_read (k p : Int) (hk : 1 ≤ k ∧ k ≤ 4) (hp : 0 ≤ p ∧ p ≤ 255) (x : Oc) (hx : x.ok) (he : x.e = 0) (sg) (g : Nat) (h : sg[g]? = some (eIn x)) :
    LL.call n_section_read [.i .i64 k, .i .i64 p, .p g 0] sg sg.length =
     some (.t [.l .o 1 (if (listsG (shapeN k p).1 x []).1.e = 0 then (readG (shapeN k p).1 (shapeN k p).2 x).2.1.map (eL 2 eI) else []),
      .l .o 1 (if (listsG (shapeN k p).1 x []).1.e = 0 then (readG (shapeN k p).1 (shapeN k p).2 x).2.2.map (.i .i64) else []),
      .i .i64 (readG (shapeN k p).1 (shapeN k p).2 x).1.e], sg.set g (eIn (readY (shapeN k p).1 (shapeN k p).2 x)), sg.length) := by
 refine wp_call e_section_read rfl ?_
 have hS := c_image_Shape k p sg
 obtain ⟨s1, s2, s3, s4⟩ := shape_nat hk hp
 have hs := fun y => set_get h y
 have h0 := sg_same h
 rw [s1, s2] at hS
 generalize (shapeN k p).1 = a at *
 generalize (shapeN k p).2 = b at *
 simp at h hS
 simp [F_section_read, hS]
 refine wc_ind (fun t : Nat × Oc × List (List It) × List (List D) => ⟨[(2, .v (.p g 0)), (10, .v (.i .i64 b)), (11, .v (.l .o 1 (t.2.2.1.map (eL 2 eI)))), (12, .v (.l .o 1 [])), (21, .v (.i .i64 a)), (22, .v (.i .i64 t.1))], [], t.2.2.2, sg.length⟩) (fun t => a - t.1)
  (fun t => t.1 ≤ a ∧ listsG a x [] = listsG (a - t.1) t.2.1 t.2.2.1 ∧ listsY a x = listsY (a - t.1) t.2.1 ∧ t.2.1.ok ∧ t.2.2.1.length ≤ t.1 ∧ t.2.1.e = 0 ∧ t.2.2.2 = sg.set g (eIn t.2.1)) ?_ (0, x, [], sg) ⟨by simp, rfl, rfl, hx, by simp, he, h0.symm⟩
 rintro ⟨i, y, acc, sg'⟩ ⟨h1, h2, h3, h4, h5, h6, h7⟩ ih
 simp only at h1 h2 h3 h4 h5 h6 h7
 subst h7
 have hk := c_section_take y h4 (sg.set g (eIn y)) g (hs _)
 simp at hk
 by_cases hi : i < a
 ·have hi' : (i : Int) < a := by omega
  obtain ⟨m, hm⟩ : ∃ m, a - i = m + 1 := ⟨a - i - 1, by omega⟩
  have hm2 : a - (i + 1) = m := by omega
  rw [hm, listsG_succ] at h2
  rw [hm, listsY_succ] at h3
  have w1 : IntKind.i64.wrap ((i : Int) + 1) = i + 1 := wrap64 (by omega)
  simp [hi, hi', hk, hs]
  by_cases hE : (takeS y).1.e = 0
  ·rw [if_neg (by simpa using hE)] at h3
   have hbe : ((takeS y).1.e != 0) = false := by simpa using hE
   simp [hbe]
   refine ⟨by omega, ?_⟩
   have := ih (i + 1, (takeS y).1, acc ++ [(takeS y).2], sg.set g (eIn (takeS y).1)) (by simp; omega) ⟨hi, by rw [h2, hm2], by rw [h3, hm2], takeS_ok h4, by simp; omega, hE, rfl⟩
   simpa [w1, hE, takeY_eq hE, eL] using this
  ·rw [if_pos hE] at h3
   have hbe : ((takeS y).1.e != 0) = true := by simpa using hE
   have hL : (listsG a x []).1 = (takeS y).1 := by rw [h2]; exact listsG_stay hE _ _
   have hne : (listsG a x []).1.e ≠ 0 := by rw [hL]; exact hE
   have hR := readG_stay (b := b) hne
   simp [hbe]
   simp [hE, readY, h3, hR, hL]
 ·have hi' : ¬ (i : Int) < a := by omega
  rw [show a - i = 0 by omega] at h2 h3
  simp [hi, hi']
  have hL1 : (listsG a x []).1 = y := by rw [h2]; rfl
  have hL2 : (listsG a x []).2 = acc := by rw [h2]; rfl
  refine wc_ind (fun t : Nat × Oc × List Int => ⟨[(2, .v (.p g 0)), (11, .v (.l .o 1 (acc.map (eL 2 eI)))), (12, .v (.l .o 1 (t.2.2.map (.i .i64)))), (37, .v (.i .i64 b)), (38, .v (.i .i64 t.1))], [], sg.set g (eIn t.2.1), sg.length⟩) (fun t => b - t.1)
   (fun t => t.1 ≤ b ∧ countsG b y [] = countsG (b - t.1) t.2.1 t.2.2 ∧ t.2.1.ok ∧ t.2.2.length ≤ t.1) ?_ (0, y, []) ⟨by simp, rfl, h4, by simp⟩
  rintro ⟨j, z, cs⟩ ⟨g1, g2, g3, g4⟩ ih2
  simp only at g1 g2 g3 g4
  have hn := c_octet_In_Num z g3 1125899906842624 (by omega) (sg.set g (eIn z)) g (hs _)
  have hn2 := numR_le z 1125899906842624
  have hE := c_octet_In_End z g3 (sg.set g (eIn z)) g (hs _)
  simp at hn hE
  by_cases hj : j < b
  ·have hj' : (j : Int) < b := by omega
   obtain ⟨m, hm⟩ : ∃ m, b - j = m + 1 := ⟨b - j - 1, by omega⟩
   have hm2 : b - (j + 1) = m := by omega
   rw [hm, countsG_succ] at g2
   have w1 : IntKind.i64.wrap ((j : Int) + 1) = j + 1 := wrap64 (by omega)
   have w2 : IntKind.i64.wrap ((numR z 1125899906842624).2 : Int) = (numR z 1125899906842624).2 := wrap64 (by omega)
   simp [hj, hj', hn, w2]
   refine ⟨by omega, ?_⟩
   have := ih2 (j + 1, (numR z 1125899906842624).1, cs ++ [((numR z 1125899906842624).2 : Int)]) (by simp; omega) ⟨hj, by rw [g2, hm2], numR_ok g3 _, by simp; omega⟩
   simpa [w1] using this
  ·have hj' : ¬ (j : Int) < b := by omega
   rw [show b - j = 0 by omega] at g2
   have hR : readG a b x = (endR z, acc, cs) := by unfold readG; rw [hL1, hL2, g2]; rfl
   simp [hj, hj', hE]
   simp [hL1, h6, hR, readY]
def zeroI : Im := ⟨0, 0, 0, [], []⟩
def readI (k : Int) (mt dt : List UInt8) : Int × Im :=
 let a := numR ⟨mt, 0⟩ 255
 let b := numR a.1 18446744073709551615
 let R := readG (shapeN k a.2).1 (shapeN k a.2).2 ⟨dt, 0⟩
 if (endR b.1).e ≠ 0 then ((endR b.1).e, zeroI) else
 if R.1.e ≠ 0 then (R.1.e, zeroI) else (0, ⟨k, a.2, b.2, R.2.1, R.2.2⟩)
def eSec (x : Int × List UInt8) : D := .a [.i .i64 x.1, .s (bs x.2)]
instance : Flat eSec := ⟨fun _ => rfl, fun _ => rfl, fun _ _ => rfl⟩
def readS (k : Int) (l : List (Int × List UInt8)) : Int × Im :=
 if k < 1 ∨ 4 < k then (6, zeroI) else match l with
 | [a, b] => if a.1 = 1 ∧ b.1 = 2 then readI k a.2 b.2 else (2, zeroI)
 | _ => (2, zeroI)
theorem c_section_Read (k : Int) (l : List (Int × List UInt8)) (hl : l.length ≤ 1099511627776) (ho : ∀ x ∈ l, x.2.length ≤ 1099511627776) (K) (sg) :
    LL.call n_section_Read [.i .i64 k, .l K 2 (l.map eSec)] sg sg.length = some (.t [eImK (if (readS k l).1 = 0 then .z else .o) .z (if (readS k l).1 = 0 then .z else .o) (readS k l).2, .i .i64 (readS k l).1], sg, sg.length) := by
 generalize hr : readS k l = r
 refine wp_call e_section_Read rfl ?_
 by_cases hk : k < 1 ∨ 4 < k
 ·have : r = (6, zeroI) := hr.symm.trans (if_pos hk)
  subst this
  have hq : ((decide (k < 1)) = true ∧ True) ∨ (decide (k < 1)) = false ∧ (decide (4 < k)) = true := by
   by_cases h : k < 1
   ·exact .inl ⟨by simpa using h, trivial⟩
   ·exact .inr ⟨by simpa using h, by simp; omega⟩
  rcases hq with ⟨q1, q2⟩ | ⟨q1, q2⟩ <;> simp [F_section_Read, q1, q2]
  all_goals simp [eImK, zeroI]
 have q1 : decide (k < 1) = false := by simp; omega
 have q2 : decide (4 < k) = false := by simp; omega
 have hz := hr.symm.trans (if_neg hk)
 match l, hl, ho, hz with
 | [], _, _, hz =>
  subst hz
  simp [F_section_Read, q1, q2]
  simp [eImK, zeroI]
 | [a], _, _, hz =>
  subst hz
  simp [F_section_Read, q1, q2]
  simp [eImK, zeroI]
 | a :: b :: c :: d, hl, _, hz =>
  subst hz
  have e1 : ((d.length : Int) + 1 + 1 + 1 == 2) = false := by simp; omega
  have e2 : ((d.length : Int) + 1 + 1 + 1 != 2) = true := by simp; omega
  simp [F_section_Read, q1, q2, e1, e2]
  simp [eImK, zeroI]
 | [a, b], _, ho, hz =>
  simp only at hz
  by_cases ha : a.1 = 1 ∧ b.1 = 2
  ·have oka : (⟨a.2, 0⟩ : Oc).ok := ho a (by simp)
   have okb : (⟨b.2, 0⟩ : Oc).ok := ho b (by simp)
   have hO1 := c_octet_Of a.2 sg
   have hN1 := c_octet_In_Num ⟨a.2, 0⟩ oka 255 (by omega) (sg ++ [eIn ⟨a.2, 0⟩]) sg.length (by simp)
   have le1 := numR_le ⟨a.2, 0⟩ 255
   have ok1 := numR_ok oka 255
   rw [if_pos ha] at hz
   simp only [readI] at hz
   generalize (numR ⟨a.2, 0⟩ 255).1 = x1 at *
   generalize (numR ⟨a.2, 0⟩ 255).2 = p at *
   have hN2 := c_octet_In_Num x1 ok1 18446744073709551615 (by omega) (sg ++ [eIn x1]) sg.length (by simp)
   have ok2 := numR_ok ok1 18446744073709551615
   generalize (numR x1 18446744073709551615).1 = x2 at *
   generalize (numR x1 18446744073709551615).2 = c at *
   have hE := c_octet_In_End x2 ok2 (sg ++ [eIn x2]) sg.length (by simp)
   have ok3 := endR_ok ok2
   generalize endR x2 = x3 at *
   have hO2 := c_octet_Of b.2 (sg ++ [eIn x3])
   have hR := c_section_read k p (by omega) (by omega) ⟨b.2, 0⟩ okb rfl (sg ++ [eIn x3, eIn ⟨b.2, 0⟩]) (sg.length + 1) (by simp)
   have w1 : IntKind.i64.wrap (p : Int) = p := wrap64 (by omega)
   generalize (readY (shapeN k p).1 (shapeN k p).2 ⟨b.2, 0⟩) = yy at *
   generalize hRG : (readG (shapeN k p).1 (shapeN k p).2 ⟨b.2, 0⟩) = RR at *
   simp at hO1 hN1 hN2 hE hO2 hR
   simp [F_section_Read, q1, q2, eSec, ha, hO1, hN1, w1, hN2, hE]
   refine bq_i (fun e => ?_) (fun e => ?_) <;> (have e' := e) <;> simp at e' <;> simp [e]
   ·simp [hO2, hR]
    refine bq_i (fun f => ?_) (fun f => ?_) <;> (have f' := f) <;> simp at f' <;> simp [f]
    ·rw [if_neg (by simpa using e'), if_pos f'] at hz
     subst hz
     simp [f', eImK, zeroI]
    ·rw [if_neg (by simpa using e'), if_neg (by simpa using f')] at hz
     subst hz
     have hL0 : (listsG (shapeN k p).1 ⟨b.2, 0⟩ []).1.e = 0 := by
      by_cases h : (listsG (shapeN k p).1 ⟨b.2, 0⟩ []).1.e = 0
      ·exact h
      ·have := readG_stay (b := (shapeN k p).2) h
       rw [hRG, f'] at this
       exact absurd this.symm h
     have ee : (eLK .z 2 eI : List It → D) = eL 2 eI := rfl
     simp [hL0, e', f', eImK, ee]
   ·have e2 : (x3.e != 0) = true := by simpa using e'
    simp [e2]
    rw [if_pos e'] at hz
    subst hz
    simp [e', eImK, zeroI]
  ·rw [if_neg ha] at hz
   subst hz
   by_cases h1 : a.1 = 1
   ·have q3 : (a.1 != 1) = false := by simpa using h1
    have q4 : (b.1 != 2) = true := by simp; exact fun h => ha ⟨h1, h⟩
    simp [F_section_Read, q1, q2, eSec, q3, q4]
    simp [eImK, zeroI]
   ·have q3 : (a.1 != 1) = true := by simpa using h1
    simp [F_section_Read, q1, q2, eSec, q3]
    simp [eImK, zeroI]
end Go.AM

namespace Go.AM
theorem numR_ne (x : Oc) (most : Nat) : (numR x most).2 ≠ 0 → (numR x most).1.e = 0 := by
 unfold numR
 split
 ·simp
 split
 ·simp
 split
 ·simp
 ·simp
def itemsZ : Nat → Oc → List It → List It
 | 0, _, acc => acc
 | n + 1, x, acc =>
  if (signR (wholeR x 8).1).1.e ≠ 0 ∨ canon (backB (wholeR x 8).2) ≠ backB (wholeR x 8).2 then acc ++ [⟨backB (wholeR x 8).2, (signR (wholeR x 8).1).2⟩] else
  itemsZ n (signR (wholeR x 8).1).1 (acc ++ [⟨backB (wholeR x 8).2, (signR (wholeR x 8).1).2⟩])
theorem itemsZ_succ (n x acc) : itemsZ (n + 1) x acc = if (signR (wholeR x 8).1).1.e ≠ 0 ∨ canon (backB (wholeR x 8).2) ≠ backB (wholeR x 8).2 then acc ++ [⟨backB (wholeR x 8).2, (signR (wholeR x 8).1).2⟩] else
    itemsZ n (signR (wholeR x 8).1).1 (acc ++ [⟨backB (wholeR x 8).2, (signR (wholeR x 8).1).2⟩]) := rfl
def takeZ (x : Oc) : List It := itemsZ (numR x 1000).2 (numR x 1000).1 []
theorem itemsZ_eq : ∀ (n : Nat) (x : Oc) (acc), (itemsG n x acc).1.e = 0 → itemsZ n x acc = (itemsG n x acc).2
 | 0, x, acc, h => rfl
 | n + 1, x, acc, h => by
  rw [itemsG_succ] at h ⊢
  rw [itemsZ_succ]
  split at h
  ·contradiction
  rename_i h1
  rw [if_neg h1]
  split at h
  ·simp [failR] at h
  rename_i h2
  rw [if_neg h2, if_neg (by rintro (h | h) <;> contradiction)]
  exact itemsZ_eq n _ _ h
theorem takeZ_eq {x : Oc} (h : (takeS x).1.e = 0) : takeZ x = (takeS x).2 := itemsZ_eq _ _ _ h
theorem c_ref19_items (x : Oc) (hx : x.ok) (sg) : LL.call n_c_ref19_items [eRn x] sg sg.length = some (.t [eRn (takeS x).1, .l .o 2 ((takeZ x).map eR)], sg, sg.length) := by
 have hn := c_ref01_Number x hx 1000 (by omega) sg
 have hle := numR_le x 1000
 have hx1 := numR_ok hx 1000
 have hne := numR_ne x 1000
 unfold takeS takeZ
 generalize (numR x 1000).1 = x1 at *
 generalize (numR x 1000).2 = n at *
 simp at hn
 refine wp_call e_c_ref19_items rfl ?_
 simp [F_c_ref19_items, hn]
 refine wc_ind (fun a : Nat × Oc × List It × AM.K => ⟨[(1, .q (.ptr 1 0)), (2, .q (.ptr 2 0)), (4, .v (.l a.2.2.2 2 (a.2.2.1.map eR))), (5, .v (.i .u64 n)), (6, .v (.i .u64 a.1))], [(1, [.s (bs a.2.1.s), .i .i64 a.2.1.e]), (2, [.s (bs []), .i .i64 0])], sg, sg.length⟩) (fun a => n - a.1)
  (fun a => a.1 ≤ n ∧ ((itemsG n x1 [] = itemsG (n - a.1) a.2.1 a.2.2.1 ∧ itemsZ n x1 [] = itemsZ (n - a.1) a.2.1 a.2.2.1 ∧ (a.1 < n → a.2.1.e = 0)) ∨ (a.2.1.e ≠ 0 ∧ (itemsG n x1 []).1 = a.2.1 ∧ itemsZ n x1 [] = a.2.2.1)) ∧ a.2.1.ok ∧ a.2.2.1.length ≤ a.1 ∧ a.2.2.2 = .o) ?_ (0, x1, [], .o) ⟨by simp, .inl ⟨rfl, rfl, fun h => hne (by omega)⟩, hx1, by simp, rfl⟩
 rintro ⟨i, y, acc, K⟩ ⟨h1, h2, h4, h5, h6⟩ ih
 simp only at h1 h2 h4 h5 h6
 subst h6
 have hk := c_ref01_Whole y h4 sg
 have hv := c_ref01_Signed (wholeR y 8).1 (wholeR_ok h4 8) sg
 have hkl := wholeR_lt y
 have hok := signR_ok (wholeR_ok h4 8)
 have hbk := c_ref19_float (wholeR y 8).2 hkl sg
 simp at hk hv hbk
 rcases h2 with ⟨h2, h3, h7⟩ | ⟨h2, h3, h7⟩
 ·by_cases hi : i < n
  ·have hi' : (i : Int) < n := by omega
   obtain ⟨m, hm⟩ : ∃ m, n - i = m + 1 := ⟨n - i - 1, by omega⟩
   have hm2 : n - (i + 1) = m := by omega
   rw [hm] at h2 h3
   rw [itemsG_succ] at h2
   rw [itemsZ_succ] at h3
   have he := h7 hi
   have heb : (y.e == 0) = true := by simpa using he
   have w1 : IntKind.u64.wrap ((i : Int) + 1) = i + 1 := wrapu64 (by omega)
   simp [hi, hi', heb, hk, hv, hbk]
   refine bq_i (fun a => ?_) (fun a => ?_) <;> (have a' := a) <;> simp at a' <;> simp [a]
   ·have hne2 : (signR (wholeR y 8).1).1.e = 0 := a'
    by_cases hc : canon (backB (wholeR y 8).2) = backB (wholeR y 8).2
    ·rw [if_neg (by simpa using a'), if_neg (by simpa using hc)] at h2
     rw [if_neg (by rintro (h | h) <;> contradiction)] at h3
     simp [hc]
     refine ⟨by omega, ?_⟩
     have := ih (i + 1, (signR (wholeR y 8).1).1, acc ++ [⟨backB (wholeR y 8).2, (signR (wholeR y 8).1).2⟩], .o) (by simp; omega) ⟨hi, .inl ⟨by rw [h2, hm2], by rw [h3, hm2], fun _ => a'⟩, hok, by simp; omega, rfl⟩
     simpa [w1] using this
    ·rw [if_neg (by simpa using a'), if_pos (by simpa using hc)] at h2
     rw [if_pos (.inr hc)] at h3
     simp [hc]
     refine ⟨by omega, ?_⟩
     have := ih (i + 1, failR 2, acc ++ [⟨backB (wholeR y 8).2, (signR (wholeR y 8).1).2⟩], .o) (by simp; omega) ⟨hi, .inr ⟨by simp [failR], by rw [h2], by rw [h3]⟩, failR_ok 2, by simp; omega, rfl⟩
     simpa [w1, failR] using this
   ·rw [if_pos a'] at h2
    rw [if_pos (.inl a')] at h3
    refine ⟨by omega, ?_⟩
    have := ih (i + 1, (signR (wholeR y 8).1).1, acc ++ [⟨backB (wholeR y 8).2, (signR (wholeR y 8).1).2⟩], .o) (by simp; omega) ⟨hi, .inr ⟨a', by rw [h2], by rw [h3]⟩, hok, by simp; omega, rfl⟩
    simpa [w1] using this
  ·have hi' : ¬ (i : Int) < n := by omega
   rw [show n - i = 0 by omega] at h2 h3
   simp [hi, hi']
   simp [h2, h3, itemsG, itemsZ]
 ·have heb : (y.e == 0) = false := by simpa using h2
  by_cases hi : i < n
  ·have hi' : (i : Int) < n := by omega
   simp [hi, hi', heb, h3, h7]
  ·have hi' : ¬ (i : Int) < n := by omega
   simp [hi, hi', h3, h7]
def listsZ : Nat → Oc → List (List It) → List (List It)
 | 0, _, acc => acc
 | n + 1, x, acc => listsZ n (takeS x).1 (acc ++ [takeZ x])
theorem listsZ_succ (n x acc) : listsZ (n + 1) x acc = listsZ n (takeS x).1 (acc ++ [takeZ x]) := rfl
theorem listsZ_eq : ∀ (n : Nat) (x : Oc) (acc), (listsG n x acc).1.e = 0 → listsZ n x acc = (listsG n x acc).2
 | 0, x, acc, h => rfl
 | n + 1, x, acc, h => by
  rw [listsG_succ] at h ⊢
  rw [listsZ_succ]
  have he : (takeS x).1.e = 0 := by
   by_cases h2 : (takeS x).1.e = 0
   ·exact h2
   ·rw [listsG_stay h2] at h; exact absurd h h2
  rw [takeZ_eq he]
  exact listsZ_eq n _ _ h
theorem listsG_fst (n x) : ∀ acc acc', (listsG n x acc).1 = (listsG n x acc').1 := by
 induction n generalizing x with
 | zero => intro acc acc'; rfl
 | succ n ih => intro acc acc'; rw [listsG_succ, listsG_succ]; exact ih _ _ _
theorem c_ref19_Read (k : Int) (hk : 1 ≤ k ∧ k ≤ 4) (mt dt : List UInt8) (hm : mt.length ≤ 1099511627776) (hd : dt.length ≤ 1099511627776) (sg) :
    LL.call n_c_ref19_Read [.i .i64 k, .s (bs mt), .s (bs dt)] sg sg.length = some (.t [eRmK .o .z .o (readI k mt dt).2, .i .i64 (readI k mt dt).1], sg, sg.length) := by
 generalize hr : readI k mt dt = r
 have oka : (⟨mt, 0⟩ : Oc).ok := hm
 have okb : (⟨dt, 0⟩ : Oc).ok := hd
 have hN1 := c_ref01_Number ⟨mt, 0⟩ oka 255 (by omega) sg
 have le1 := numR_le ⟨mt, 0⟩ 255
 have ok1 := numR_ok oka 255
 simp only [readI] at hr
 generalize (numR ⟨mt, 0⟩ 255).1 = x1 at *
 generalize (numR ⟨mt, 0⟩ 255).2 = p at *
 have hN2 := c_ref01_Number x1 ok1 18446744073709551615 (by omega) sg
 have ok2 := numR_ok ok1 18446744073709551615
 generalize (numR x1 18446744073709551615).1 = x2 at *
 generalize (numR x1 18446744073709551615).2 = c at *
 have hE := c_ref19_end x2 ok2 sg
 generalize endR x2 = x3 at *
 have w1 : IntKind.i64.wrap (p : Int) = p := wrap64 (by omega)
 refine wp_call e_c_ref19_Read rfl ?_
 simp at hN1 hN2 hE
 have g1 := shape_get1 (p := (p : Int)) hk
 have g2 := shape_get2 (p := (p : Int)) hk
 obtain ⟨s1, s2, s3, s4⟩ := shape_nat hk (p := (p : Int)) (by omega)
 rw [s1] at g1
 rw [s2] at g2
 have hk0 : 0 ≤ k := by omega
 simp [F_c_ref19_Read, hN1, hN2, hE, w1]
 refine bq_i (fun e => ?_) (fun e => ?_) <;> (have e' := e) <;> simp at e' <;> simp [e]
 ·rw [if_pos e'] at hr
  subst hr
  simp [e', eRmK, zeroI]
 rw [if_neg (by simpa using e')] at hr
 generalize (shapeN k p).1 = a at *
 generalize (shapeN k p).2 = b at *
 simp [g1, g2, hk0, w1]
 refine wc_ind (fun t : Nat × Oc × List (List It) => ⟨[(6, .q (.ptr 6 0)), (13, .q (.ptr 13 0)), (14, .q (.ptr 14 0)), (15, .v (.i .i64 a)), (16, .v (.i .i64 b)), (17, .v (.i .i64 t.1))], [(6, [.i .i64 0, .i .i64 0, .i .u64 0, .l .o 1 [], .l .o 1 []]), (13, [.i .i64 k, .i .i64 p, .i .u64 c, .l .o 1 (t.2.2.map (eL 2 eR)), .l .o 1 []]), (14, [.s (bs t.2.1.s), .i .i64 t.2.1.e])], sg, sg.length⟩) (fun t => a - t.1)
  (fun t => t.1 ≤ a ∧ (listsG a ⟨dt, 0⟩ []).1 = (listsG (a - t.1) t.2.1 []).1 ∧ listsZ a ⟨dt, 0⟩ [] = listsZ (a - t.1) t.2.1 t.2.2 ∧ t.2.1.ok ∧ t.2.2.length ≤ t.1) ?_ (0, ⟨dt, 0⟩, []) ⟨by simp, rfl, rfl, okb, by simp⟩
 rintro ⟨i, y, acc⟩ ⟨h1, h2, h3, h4, h5⟩ ih
 simp only at h1 h2 h3 h4 h5
 have hI := c_ref19_items y h4 sg
 simp at hI
 by_cases hi : i < a
 ·have hi' : (i : Int) < a := by omega
  obtain ⟨m, hm⟩ : ∃ m, a - i = m + 1 := ⟨a - i - 1, by omega⟩
  have hm2 : a - (i + 1) = m := by omega
  rw [hm, listsG_succ, listsG_fst m _ _ []] at h2
  rw [hm, listsZ_succ] at h3
  have w2 : IntKind.i64.wrap ((i : Int) + 1) = i + 1 := wrap64 (by omega)
  simp [hi, hi', hI]
  refine ⟨by omega, ?_⟩
  have := ih (i + 1, (takeS y).1, acc ++ [takeZ y]) (by simp; omega) ⟨hi, by rw [h2, hm2], by rw [h3, hm2], takeS_ok h4, by simp; omega⟩
  simpa [w2, eL] using this
 ·have hi' : ¬ (i : Int) < a := by omega
  rw [show a - i = 0 by omega] at h2 h3
  simp [hi, hi']
  have hL1 : (listsG a ⟨dt, 0⟩ []).1 = y := h2
  have hL2 : listsZ a ⟨dt, 0⟩ [] = acc := h3
  refine wc_ind (fun t : Nat × Oc × List Int => ⟨[(6, .q (.ptr 6 0)), (13, .q (.ptr 13 0)), (14, .q (.ptr 14 0)), (16, .v (.i .i64 b)), (20, .v (.i .i64 t.1))], [(6, [.i .i64 0, .i .i64 0, .i .u64 0, .l .o 1 [], .l .o 1 []]), (13, [.i .i64 k, .i .i64 p, .i .u64 c, .l .o 1 (acc.map (eL 2 eR)), .l .o 1 (t.2.2.map (.i .i64))]), (14, [.s (bs t.2.1.s), .i .i64 t.2.1.e])], sg, sg.length⟩) (fun t => b - t.1)
   (fun t => t.1 ≤ b ∧ countsG b y [] = countsG (b - t.1) t.2.1 t.2.2 ∧ t.2.1.ok ∧ t.2.2.length ≤ t.1) ?_ (0, y, []) ⟨by simp, rfl, h4, by simp⟩
  rintro ⟨j, z, cs⟩ ⟨g1, g2, g3, g4⟩ ih2
  simp only at g1 g2 g3 g4
  have hn := c_ref01_Number z g3 1125899906842624 (by omega) sg
  have hn2 := numR_le z 1125899906842624
  have hE := c_ref19_end z g3 sg
  simp at hn hE
  by_cases hj : j < b
  ·have hj' : (j : Int) < b := by omega
   obtain ⟨m, hm⟩ : ∃ m, b - j = m + 1 := ⟨b - j - 1, by omega⟩
   have hm2 : b - (j + 1) = m := by omega
   rw [hm, countsG_succ] at g2
   have w2 : IntKind.i64.wrap ((j : Int) + 1) = j + 1 := wrap64 (by omega)
   have w3 : IntKind.i64.wrap ((numR z 1125899906842624).2 : Int) = (numR z 1125899906842624).2 := wrap64 (by omega)
   simp [hj, hj', hn, w3]
   refine ⟨by omega, ?_⟩
   have := ih2 (j + 1, (numR z 1125899906842624).1, cs ++ [((numR z 1125899906842624).2 : Int)]) (by simp; omega) ⟨hj, by rw [g2, hm2], numR_ok g3 _, by simp; omega⟩
   simpa [w2] using this
  ·have hj' : ¬ (j : Int) < b := by omega
   rw [show b - j = 0 by omega] at g2
   have hR : (readG a b ⟨dt, 0⟩).1 = endR z ∧ (readG a b ⟨dt, 0⟩).2.2 = cs := by unfold readG; rw [hL1, g2]; exact ⟨rfl, rfl⟩
   simp [hj, hj', hE]
   refine bq_i (fun f => ?_) (fun f => ?_) <;> (have f' := f) <;> simp at f' <;> simp [f]
   ·rw [if_pos (by rw [hR.1]; exact f')] at hr
    subst hr
    simp [hR.1, f', eRmK, zeroI]
   ·have hy : y.e = 0 := by
     by_cases h : y.e = 0
     ·exact h
     ·have := readG_stay (a := a) (b := b) (x := ⟨dt, 0⟩) (by rw [hL1]; exact h)
      rw [hR.1, hL1, f'] at this
      exact absurd this.symm h
    have hls : (readG a b ⟨dt, 0⟩).2.1 = acc := by
     rw [← hL2]; exact (listsZ_eq a ⟨dt, 0⟩ [] (by rw [hL1]; exact hy)).symm
    rw [if_neg (by rw [hR.1]; simpa using f'), hls, hR.2] at hr
    subst hr
    have er : (eLK .z 2 eR : List It → D) = eL 2 eR := rfl
    simp [eRmK, er]
end Go.AM

namespace Go.AM
def itemB (y : It) : List UInt8 := fixB (key y.p) 8 ++ numB (zig y.v)
def itemsB (l : List It) : List UInt8 := numB l.length ++ l.flatMap itemB
def dataB (x : Im) : List UInt8 := x.ls.flatMap itemsB ++ x.cs.flatMap (fun n => numB n.toNat)
def metaB (x : Im) : List UInt8 := numB x.p.toNat ++ numB x.c.toNat
def Im.wr (x : Im) : Prop := (0 ≤ x.p ∧ x.p ≤ 9223372036854775807) ∧ (0 ≤ x.c ∧ x.c < 18446744073709551616) ∧ (∀ n ∈ x.cs, 0 ≤ n ∧ n ≤ 9223372036854775807) ∧ (∀ l ∈ x.ls, ∀ y ∈ l, y.ok) ∧ (dataB x).length ≤ 1099511627776 ∧ x.ls.length ≤ 1099511627776 ∧ x.cs.length ≤ 1099511627776 ∧ ∀ l ∈ x.ls, l.length ≤ 1099511627776
theorem c_octet_Long {K : AM.K} (hK : Ko K) (b : List UInt8) (n : Nat) (hn : n < 18446744073709551616) (hb : b.length ≤ 1099511627776) (sg) : LL.call n_octet_Long [.l K 1 (b.map eB), .i .u64 n] sg sg.length = some (.l .o 1 ((b ++ fixB n 8).map eB), sg, sg.length) := by
 refine wp_call e_octet_Long rfl ?_
 have h := c_octet_fixed_uint64 hK b n hn hb sg
 simp at h
 simp [F_octet_Long, h]
theorem c_section_Items {K : AM.K} (hK : Ko K) (b : List UInt8) (l : List It) (ho : ∀ y ∈ l, y.ok) (hb : (b ++ itemsB l).length ≤ 1099511627776) (hl : l.length ≤ 1099511627776) (sg) :
    LL.call n_section_Items [.l K 1 (b.map eB), .l .z 2 (l.map eI)] sg sg.length = some (.l .o 1 ((b ++ itemsB l).map eB), sg, sg.length) := by
 refine wp_call e_section_Items rfl ?_
 have hb0 : b.length ≤ 1099511627776 := by simp [itemsB] at hb; omega
 have hn := c_octet_Num hK b l.length (by omega) hb0 sg
 have w0 : IntKind.u64.wrap (l.length : Int) = l.length := wrapu64 (by omega)
 simp at hn
 simp [F_section_Items, hn, w0]
 rw [← List.map_append]
 refine wc_list l (fun i c => ⟨[(0, .v (.l .o 1 (c.map eB))), (12, .v (.l .z 2 (l.map eI))), (13, .v (.i .i64 l.length)), (14, .v (.i .i64 i))], [], sg, sg.length⟩) (fun r (c : List UInt8) => c ++ r.flatMap itemB = b ++ itemsB l) ?_ ?_ (b ++ numB l.length) (by simp [itemsB])
 ·intro i y r c hi hlt hc ih
  have hlt' : (i : Int) < l.length := by omega
  have hy := ho y (mem_of_get hi)
  have hlen := congrArg List.length hc
  have hc1 : c.length ≤ 1099511627776 := by simp at hlen hb; omega
  have hc2 : (c ++ fixB (key y.p) 8).length ≤ 1099511627776 := by simp [itemB] at hlen hb ⊢; omega
  have h1 := c_real_Key y.p hy.1 sg
  have h2 := c_octet_Long (.inl rfl) c (key y.p) (key_lt hy.1) hc1 sg
  have h3 := c_octet_Int (.inl rfl) (c ++ fixB (key y.p) 8) y.v hy.2 hc2 sg
  have w1 : IntKind.i64.wrap ((i : Int) + 1) = i + 1 := wrap64 (by omega)
  simp at h2 h3
  simp [hlt', hi, h1, h2, h3]
  have := ih (c ++ itemB y) (by rw [← hc]; simp)
  simpa [w1, itemB] using this
 ·intro c hc
  simp at hc
  simp [hc]
theorem c_section_meta (x : Im) (h : x.wr) (sg) : LL.call n_section_meta [eIm x] sg sg.length = some (.s (bs (metaB x)), sg, sg.length) := by
 refine wp_call e_section_meta rfl ?_
 obtain ⟨hp, hc, -⟩ := h
 have w0 : IntKind.u64.wrap x.p = x.p.toNat := by rw [wrapu64 (by omega)]; omega
 have h1 := c_octet_Num (.inl rfl) [] x.p.toNat (by omega) (by simp) sg
 have h2 := c_octet_Num (.inl rfl) (numB x.p.toNat) x.c.toNat (by omega) (by have := numB_len10 (n := x.p.toNat) (by omega); omega) sg
 have e : ((x.c.toNat : Nat) : Int) = x.c := by omega
 rw [e] at h2
 generalize hpe : x.p.toNat = p at *
 generalize hce : x.c.toNat = c at *
 simp at h1 h2
 simp [F_section_meta, eIm, w0, h1, h2, metaB, hpe, hce]
theorem c_section_data (x : Im) (h : x.wr) (sg) : LL.call n_section_data [eIm x] sg sg.length = some (.s (bs (dataB x)), sg, sg.length) := by
 refine wp_call e_section_data rfl ?_
 obtain ⟨-, -, hcs, hls, htot, hL1, hL2, hL3⟩ := h
 simp [F_section_data, eIm]
 refine wc_list x.ls (fun i c => ⟨[(1, .q (.ptr 1 0)), (3, .v (.l .o 1 (c.map eB))), (9, .v (.l .z 1 (x.ls.map (eL 2 eI)))), (10, .v (.i .i64 x.ls.length)), (11, .v (.i .i64 i))], [(1, [.i .i64 x.k, .i .i64 x.p, .i .u64 x.c, .l .z 1 (x.ls.map (eL 2 eI)), .l .z 1 (x.cs.map (.i .i64))])], sg, sg.length⟩)
  (fun r (c : List UInt8) => c ++ r.flatMap itemsB ++ x.cs.flatMap (fun n => numB n.toNat) = dataB x) ?_ ?_ [] rfl
 ·intro i l r c hi hlt hc ih
  have hlt' : (i : Int) < x.ls.length := by omega
  have hl := hls l (mem_of_get hi)
  have hlen := congrArg List.length hc
  have h1 := c_section_Items (.inl rfl) c l hl (by simp at hlen ⊢; omega) (hL3 l (mem_of_get hi)) sg
  have w1 : IntKind.i64.wrap ((i : Int) + 1) = i + 1 := wrap64 (by omega)
  simp at h1
  simp [hlt', hi, eL, h1]
  have := ih (c ++ itemsB l) (by rw [← hc]; simp)
  simpa [w1] using this
 ·intro c hc
  simp only [List.flatMap_nil, List.append_nil] at hc
  simp
  refine wc_list x.cs (fun i c => ⟨[(3, .v (.l .o 1 (c.map eB))), (20, .v (.l .z 1 (x.cs.map (.i .i64)))), (21, .v (.i .i64 x.cs.length)), (22, .v (.i .i64 i))], [], sg, sg.length⟩)
   (fun r (c : List UInt8) => c ++ r.flatMap (fun n => numB n.toNat) = dataB x) ?_ ?_ c hc
  ·intro i n r c hi hlt hc ih
   have hlt' : (i : Int) < x.cs.length := by omega
   have hn := hcs n (mem_of_get hi)
   have hlen := congrArg List.length hc
   have h1 := c_octet_Num (.inl rfl) c n.toNat (by omega) (by simp at hlen ⊢; omega) sg
   have w0 : IntKind.u64.wrap n = n.toNat := by rw [wrapu64 (by omega)]; omega
   have w1 : IntKind.i64.wrap ((i : Int) + 1) = i + 1 := wrap64 (by omega)
   simp only [List.map_append] at h1
   simp [hlt', hi, w0]
   rw [show ((n.toNat : Nat) : Int) = max n 0 by omega] at h1
   simp [h1]
   have := ih (c ++ numB n.toNat) (by rw [← hc]; simp)
   simpa [w1] using this
  ·intro c hc
   simp at hc
   simp [hc]
theorem c_section_Of (x : Im) (h : x.wr) (sg) : LL.call n_section_Of [eIm x] sg sg.length = some (.l .o 2 ([((1 : Int), metaB x), (2, dataB x)].map eSec), sg, sg.length) := by
 refine wp_call e_section_Of rfl ?_
 have h1 := c_section_meta x h sg
 have h2 := c_section_data x h sg
 simp [eIm] at h1 h2
 simp [F_section_Of, eIm, h1, h2, eSec]
theorem c_ref19_Items (l : List It) (ho : ∀ y ∈ l, y.ok) (hb : (itemsB l).length ≤ 1099511627776) (hl : l.length ≤ 1099511627776) (sg) :
    LL.call n_c_ref19_Items [.l .z 2 (l.map eR)] sg sg.length = some (.s (bs (itemsB l)), sg, sg.length) := by
 refine wp_call e_c_ref19_Items rfl ?_
 have hn := c_ref01_Num2 l.length (by omega) sg
 have w0 : IntKind.u64.wrap (l.length : Int) = l.length := wrapu64 (by omega)
 simp [F_c_ref19_Items, hn, w0]
 refine wc_list l (fun i c => ⟨[(3, .v (.s (bs c))), (10, .v (.l .z 2 (l.map eR))), (11, .v (.i .i64 l.length)), (12, .v (.i .i64 i))], [], sg, sg.length⟩) (fun r (c : List UInt8) => c ++ r.flatMap itemB = itemsB l) ?_ ?_ (numB l.length) rfl
 ·intro i y r c hi hlt hc ih
  have hlt' : (i : Int) < l.length := by omega
  have hy := ho y (mem_of_get hi)
  have hlen := congrArg List.length hc
  have h1 := c_ref03_Key y.p hy.1 sg
  have h2 := c_ref01_Fixed (key y.p) (key_lt hy.1) sg
  have h3 := c_ref01_Int y.v hy.2 sg
  have w1 : IntKind.i64.wrap ((i : Int) + 1) = i + 1 := wrap64 (by omega)
  have hlen2 : c.length + (itemB y).length ≤ 1099511627776 := by simp at hlen; omega
  have hlen3 : (fixB (key y.p) 8).length + (numB (zig y.v)).length ≤ 1099511627776 := by simp [itemB] at hlen2; omega
  simp [hlt', hi, h1, h2, h3, bini, bins]
  simp [itemB] at hlen2
  refine ⟨by omega, by omega, ?_⟩
  have := ih (c ++ itemB y) (by rw [← hc]; simp)
  simpa [w1, itemB] using this
 ·intro c hc
  simp at hc
  simp [hc]
theorem c_ref19_Meta (x : Im) (h : x.wr) (sg) : LL.call n_c_ref19_Meta [eRm x] sg sg.length = some (.s (bs (metaB x)), sg, sg.length) := by
 refine wp_call e_c_ref19_Meta rfl ?_
 obtain ⟨hp, hc, -⟩ := h
 have w0 : IntKind.u64.wrap x.p = x.p.toNat := by rw [wrapu64 (by omega)]; omega
 have h1 := c_ref01_Num2 x.p.toNat (by omega) sg
 have h2 := c_ref01_Num2 x.c.toNat (by omega) sg
 have e : ((x.c.toNat : Nat) : Int) = x.c := by omega
 rw [e] at h2
 generalize hpe : x.p.toNat = p at *
 generalize hce : x.c.toNat = c at *
 simp [F_c_ref19_Meta, eRm, w0, h1, h2, bins, metaB, hpe, hce]
 have := numB_len10 (n := p) (by omega)
 have := numB_len10 (n := c) (by omega)
 omega
theorem c_ref19_Data (x : Im) (h : x.wr) (sg) : LL.call n_c_ref19_Data [eRm x] sg sg.length = some (.s (bs (dataB x)), sg, sg.length) := by
 refine wp_call e_c_ref19_Data rfl ?_
 obtain ⟨-, -, hcs, hls, htot, hL1, hL2, hL3⟩ := h
 simp [F_c_ref19_Data, eRm]
 refine wc_list x.ls (fun i c => ⟨[(1, .q (.ptr 1 0)), (3, .v (.s (bs c))), (9, .v (.l .z 1 (x.ls.map (eL 2 eR)))), (10, .v (.i .i64 x.ls.length)), (11, .v (.i .i64 i))], [(1, [.i .i64 x.k, .i .i64 x.p, .i .u64 x.c, .l .z 1 (x.ls.map (eL 2 eR)), .l .z 1 (x.cs.map (.i .i64))])], sg, sg.length⟩)
  (fun r (c : List UInt8) => c ++ r.flatMap itemsB ++ x.cs.flatMap (fun n => numB n.toNat) = dataB x) ?_ ?_ [] rfl
 ·intro i l r c hi hlt hc ih
  have hlt' : (i : Int) < x.ls.length := by omega
  have hl := hls l (mem_of_get hi)
  have hlen := congrArg List.length hc
  have h1 := c_ref19_Items l hl (by simp at hlen; omega) (hL3 l (mem_of_get hi)) sg
  have w1 : IntKind.i64.wrap ((i : Int) + 1) = i + 1 := wrap64 (by omega)
  simp [hlt', hi, eL, h1, bins]
  refine ⟨by simp at hlen; omega, ?_⟩
  have := ih (c ++ itemsB l) (by rw [← hc]; simp)
  simpa [w1] using this
 ·intro c hc
  simp only [List.flatMap_nil, List.append_nil] at hc
  simp
  refine wc_list x.cs (fun i c => ⟨[(3, .v (.s (bs c))), (21, .v (.l .z 1 (x.cs.map (.i .i64)))), (22, .v (.i .i64 x.cs.length)), (23, .v (.i .i64 i))], [], sg, sg.length⟩)
   (fun r (c : List UInt8) => c ++ r.flatMap (fun n => numB n.toNat) = dataB x) ?_ ?_ c hc
  ·intro i n r c hi hlt hc ih
   have hlt' : (i : Int) < x.cs.length := by omega
   have hn := hcs n (mem_of_get hi)
   have h1 := c_ref01_Num2 n.toNat (by omega) sg
   have w0 : IntKind.u64.wrap n = n.toNat := by rw [wrapu64 (by omega)]; omega
   have w1 : IntKind.i64.wrap ((i : Int) + 1) = i + 1 := wrap64 (by omega)
   simp [hlt', hi, w0]
   rw [show ((n.toNat : Nat) : Int) = max n 0 by omega] at h1
   simp [h1, bins]
   refine ⟨by have hlen := congrArg List.length hc; simp at hlen; omega, ?_⟩
   have := ih (c ++ numB n.toNat) (by rw [← hc]; simp)
   simpa [w1] using this
  ·intro c hc
   simp at hc
   simp [hc]
end Go.AM

namespace Go.AM
theorem ofNat_toNat8 (c : UInt8) : UInt8.ofNat c.toNat = c := by simp
theorem numL_inv : ∀ (l : List UInt8) (k acc v : Nat) (r : List UInt8), numL l k acc = (0, v, r) → ∃ n, v = acc + n * 128 ^ k ∧ l = numB n ++ r ∧ (0 < k → 0 < n)
 | [], k, acc, v, r, h => by simp [numL] at h
 | c :: l, k, acc, v, r, h => by
  have hc := u8_lt c
  by_cases hA : k = 9 ∧ 1 < c.toNat
  ·rw [numL_two hA] at h; simp at h
  by_cases hlt : c.toNat < 128
  ·by_cases hz : c.toNat = 0 ∧ 0 < k
   ·rw [numL_zero hA hz.1 hz.2] at h; simp at h
   ·rw [numL_last hA hlt hz] at h
    simp at h
    refine ⟨c.toNat, h.1.symm, ?_, by omega⟩
    rw [numB_small hlt, ofNat_toNat8, h.2]; rfl
  ·rw [numL_more hA hlt] at h
   obtain ⟨n, h1, h2, h3⟩ := numL_inv l (k + 1) _ v r h
   have h3 := h3 (by omega)
   refine ⟨c.toNat % 128 + 128 * n, ?_, ?_, by omega⟩
   ·rw [h1, Nat.pow_succ, Nat.add_mul, Nat.add_assoc, Nat.mul_comm (128 ^ k) 128, ← Nat.mul_assoc, Nat.mul_comm n 128]
   ·rw [numB_big (by omega), h2]
    have e1 : (c.toNat % 128 + 128 * n) % 128 + 128 = c.toNat := by omega
    have e2 : (c.toNat % 128 + 128 * n) / 128 = n := by omega
    rw [e1, e2, ofNat_toNat8]; rfl
theorem numR_inv {x : Oc} {most : Nat} (h : (numR x most).1.e = 0) : x.e = 0 ∧ x.s = numB (numR x most).2 ++ (numR x most).1.s := by
 by_cases he : x.e = 0
 ·refine ⟨he, ?_⟩
  have hN := numR_eq he (show numL x.s 0 0 = ((numL x.s 0 0).1, (numL x.s 0 0).2.1, (numL x.s 0 0).2.2) from rfl) most
  rw [hN] at h ⊢
  split at h
  ·rename_i h1; simp [failR] at h; exact absurd h h1
  rename_i h1
  rw [if_neg h1]
  split at h
  ·simp [failR] at h
  rename_i h2
  rw [if_neg h2]
  simp only [ne_eq, Decidable.not_not] at h1
  obtain ⟨n, h3, h4, -⟩ := numL_inv x.s 0 0 _ _ (by rw [← h1])
  simp at h3
  rw [h3]; exact h4
 ·rw [numR_err he] at h; exact absurd h he
theorem zig_unzig (n : Nat) : zig (unzig n) = n := by
 unfold zig unzig; split <;> split <;> omega
theorem signR_inv {x : Oc} (h : (signR x).1.e = 0) : x.e = 0 ∧ x.s = numB (zig (signR x).2) ++ (signR x).1.s := by
 have := numR_inv (x := x) (most := 18446744073709551615) h
 unfold signR
 simp only [zig_unzig]
 exact this
theorem fixB_leV : ∀ l : List UInt8, fixB (leV l) l.length = l
 | [] => rfl
 | c :: l => by
  have := u8_lt c
  simp only [leV, List.length_cons, fixB]
  rw [show (c.toNat + 256 * leV l) % 256 = c.toNat by omega, show (c.toNat + 256 * leV l) / 256 = leV l by omega, fixB_leV l, ofNat_toNat8]
theorem wholeR_inv {x : Oc} (h : (wholeR x 8).1.e = 0) : x.e = 0 ∧ x.s = fixB (wholeR x 8).2 8 ++ (wholeR x 8).1.s := by
 unfold wholeR at h ⊢
 unfold bytesR at h ⊢
 by_cases he : x.e = 0
 ·refine ⟨he, ?_⟩
  rw [if_neg (by simp [he])] at h ⊢
  by_cases hl : (8 : Int) > x.s.length
  ·rw [if_pos hl] at h; simp [failR] at h
  ·rw [if_neg hl]
   simp only
   have h8 : (x.s.take (8 : Int).toNat).length = 8 := by simp; omega
   have := fixB_leV (x.s.take (8 : Int).toNat)
   rw [h8] at this
   rw [this]; simp
 ·rw [if_pos (.inl he)] at h; exact absurd h he
def It.can (y : It) : Prop := y.ok ∧ AM.canon y.p = y.p
theorem key_can {y : It} (h : y.can) : key y.p = keyC y.p := by unfold key; rw [h.2]
theorem itemsG_inv : ∀ (n : Nat) (x : Oc) (acc : List It), (itemsG n x acc).1.e = 0 → x.e = 0 ∧ ∃ l, (itemsG n x acc).2 = acc ++ l ∧ l.length = n ∧ x.s = l.flatMap itemB ++ (itemsG n x acc).1.s ∧ ∀ y ∈ l, y.can
 | 0, x, acc, h => ⟨h, [], by simp [itemsG], rfl, by simp [itemsG], by simp⟩
 | n + 1, x, acc, h => by
  rw [itemsG_succ] at h ⊢
  split at h
  ·contradiction
  rename_i h1
  rw [if_neg h1]
  split at h
  ·simp [failR] at h
  rename_i h2
  rw [if_neg h2]
  simp only [ne_eq, Decidable.not_not] at h1 h2
  obtain ⟨h3, l, h4, h5, h6, h7⟩ := itemsG_inv n _ _ h
  obtain ⟨g1, g2⟩ := signR_inv h1
  obtain ⟨g3, g4⟩ := wholeR_inv g1
  have hkl := wholeR_lt x
  have hv := unzig_ok (numR_lt (wholeR x 8).1 18446744073709551615)
  have hcan : (⟨backB (wholeR x 8).2, (signR (wholeR x 8).1).2⟩ : It).can := ⟨⟨backB_lt hkl, hv⟩, h2⟩
  refine ⟨g3, ⟨backB (wholeR x 8).2, (signR (wholeR x 8).1).2⟩ :: l, by rw [h4]; simp, by simp [h5], ?_, ?_⟩
  ·rw [g4, g2, h6]
   simp only [List.flatMap_cons, itemB, (key_backB hkl).2 h2, List.append_assoc]
  ·intro y hy
   rcases List.mem_cons.1 hy with rfl | hy
   ·exact hcan
   ·exact h7 y hy
theorem takeS_inv {x : Oc} (h : (takeS x).1.e = 0) : x.e = 0 ∧ x.s = itemsB (takeS x).2 ++ (takeS x).1.s ∧ ∀ y ∈ (takeS x).2, y.can := by
 obtain ⟨h1, l, h2, h3, h4, h5⟩ := itemsG_inv (numR x 1000).2 (numR x 1000).1 [] h
 obtain ⟨g1, g2⟩ := numR_inv h1
 simp only [List.nil_append] at h2
 refine ⟨g1, ?_, fun y hy => h5 y (by rw [← h2]; exact hy)⟩
 rw [g2, h4]
 show _ = itemsB (itemsG _ _ []).2 ++ _
 unfold itemsB
 rw [h2, h3]; simp [takeS]
theorem listsG_inv : ∀ (n : Nat) (x : Oc) (acc), (listsG n x acc).1.e = 0 → x.e = 0 ∧ ∃ l, (listsG n x acc).2 = acc ++ l ∧ l.length = n ∧ x.s = l.flatMap itemsB ++ (listsG n x acc).1.s ∧ ∀ m ∈ l, (∀ y ∈ m, y.can) ∧ m.length ≤ 1000
 | 0, x, acc, h => ⟨h, [], by simp [listsG], rfl, by simp [listsG], by simp⟩
 | n + 1, x, acc, h => by
  rw [listsG_succ] at h ⊢
  obtain ⟨h3, l, h4, h5, h6, h7⟩ := listsG_inv n _ _ h
  obtain ⟨g1, g2, g3⟩ := takeS_inv h3
  refine ⟨g1, (takeS x).2 :: l, by rw [h4]; simp, by simp [h5], ?_, ?_⟩
  ·rw [g2, h6]; simp
  ·intro y hy
   rcases List.mem_cons.1 hy with rfl | hy
   ·exact ⟨g3, takeS_len x⟩
   ·exact h7 y hy
theorem countsG_inv : ∀ (n : Nat) (x : Oc) (acc), (countsG n x acc).1.e = 0 → x.e = 0 ∧ ∃ l, (countsG n x acc).2 = acc ++ l ∧ l.length = n ∧ x.s = l.flatMap (fun n => numB n.toNat) ++ (countsG n x acc).1.s ∧ ∀ m ∈ l, 0 ≤ m ∧ m ≤ 1125899906842624
 | 0, x, acc, h => ⟨h, [], by simp [countsG], rfl, by simp [countsG], by simp⟩
 | n + 1, x, acc, h => by
  rw [countsG_succ] at h ⊢
  obtain ⟨h3, l, h4, h5, h6, h7⟩ := countsG_inv n _ _ h
  obtain ⟨g1, g2⟩ := numR_inv h3
  have hle := numR_le x 1125899906842624
  refine ⟨g1, ((numR x 1125899906842624).2 : Int) :: l, by rw [h4]; simp, by simp [h5], ?_, ?_⟩
  ·rw [g2, h6]; simp
  ·intro y hy
   rcases List.mem_cons.1 hy with rfl | hy
   ·omega
   ·exact h7 y hy
theorem endR_inv {x : Oc} (h : (endR x).e = 0) : x.e = 0 ∧ x.s = [] := by
 unfold endR at h
 split at h
 ·simp [failR] at h
 ·rename_i h2
  refine ⟨h, ?_⟩
  cases hs : x.s with
  | nil => rfl
  | cons a l => exact absurd ⟨h, by rw [hs]; simp⟩ h2
structure Im.rd (x : Im) : Prop where
 k : 1 ≤ x.k ∧ x.k ≤ 4
 p : 0 ≤ x.p ∧ x.p ≤ 255
 c : 0 ≤ x.c ∧ x.c < 18446744073709551616
 l : x.ls.length = (shapeN x.k x.p).1
 n : x.cs.length = (shapeN x.k x.p).2
 is : ∀ m ∈ x.ls, (∀ y ∈ m, y.can) ∧ m.length ≤ 1000
 cs : ∀ m ∈ x.cs, 0 ≤ m ∧ m ≤ 1125899906842624
theorem readI_inv {k : Int} (hk : 1 ≤ k ∧ k ≤ 4) {mt dt : List UInt8} (h : (readI k mt dt).1 = 0) : (readI k mt dt).2.rd ∧ (readI k mt dt).2.k = k ∧ metaB (readI k mt dt).2 = mt ∧ dataB (readI k mt dt).2 = dt := by
 unfold readI at h ⊢
 simp only at h ⊢
 split at h
 ·contradiction
 rename_i h1
 rw [if_neg h1]
 split at h
 ·contradiction
 rename_i h2
 rw [if_neg h2]
 simp only [ne_eq, Decidable.not_not] at h1 h2
 obtain ⟨a1, a2⟩ := endR_inv h1
 obtain ⟨a3, a4⟩ := numR_inv a1
 obtain ⟨a5, a6⟩ := numR_inv a3
 rw [a4, a2] at a6
 unfold readG at h2 ⊢
 simp only at h2 ⊢
 obtain ⟨b1, b2⟩ := endR_inv h2
 obtain ⟨b3, cs, b4, b5, b6, b7⟩ := countsG_inv _ _ _ b1
 obtain ⟨b8, ls, b9, b10, b11, b12⟩ := listsG_inv _ _ _ b3
 have l1 := numR_le ⟨mt, 0⟩ 255
 have l2 := numR_lt (numR ⟨mt, 0⟩ 255).1 18446744073709551615
 simp only [List.nil_append] at b4 b9
 rw [b9, b4]
 refine ⟨⟨hk, by simp only; omega, by simp only; omega, b10, b5, b12, b7⟩, by simp, ?_, ?_⟩
 ·simp only [metaB, Int.toNat_natCast]
  simpa using a6.symm
 ·simp only [dataB]
  rw [b2] at b6
  rw [b6] at b11
  simpa using b11.symm
theorem sum_len_le : ∀ (ls : List (List It)), (∀ m ∈ ls, m.length ≤ 1000) → (ls.map List.length).sum ≤ 1000 * ls.length
 | [], h => by simp
 | a :: l, h => by
  have h1 := h a (by simp)
  have h2 := sum_len_le l (fun m hm => h m (by simp [hm]))
  simp; omega
theorem Im.rd.lens {x : Im} (h : x.rd) : x.ls.length ≤ 255 ∧ x.cs.length ≤ 255 := by
 obtain ⟨-, -, s3, s4⟩ := shape_nat h.k h.p
 have := h.l
 have := h.n
 omega
theorem Im.rd.ok {x : Im} (h : x.rd) : x.ok := by
 refine ⟨fun m hm y hy => ((h.is m hm).1 y hy).1, fun n hn => by have := h.cs n hn; omega, ?_⟩
 have := sum_len_le x.ls (fun m hm => (h.is m hm).2)
 have := h.lens
 omega
theorem Im.rd.small {x : Im} (h : x.rd) : x.small := by
 have := h.lens
 exact ⟨by omega, by omega, fun m hm => by have := (h.is m hm).2; omega⟩
theorem Im.rd.wr {x : Im} (h : x.rd) (hl : (dataB x).length ≤ 1099511627776) : x.wr := by
 have := h.lens
 exact ⟨⟨h.p.1, by have := h.p.2; omega⟩, h.c, fun n hn => by have := h.cs n hn; omega, h.ok.1, hl, by omega, by omega, h.small.2.2⟩
end Go.AM
