/- Lemmas: an abstract machine over the loaded program, proved sound against the model once; what the program's functions compute. -/
import Derived.Test.YtjlaafdldgmndaaK2
import Derived.Test.YtjlaafdldgmndaaK3
import Derived.Laws.BitsLemmas
import Derived.Test.YtjlaafdldgmndaaK1
import Derived.Test.YtjlaafdldgmndaaProg
set_option linter.all false
namespace Go.AM
noncomputable abbrev LL : Or := lim EE
mutual
theorem beq_self : ∀ d : D, D.beq d d = true
 | .b _ | .i _ _ | .f _ _ | .nilp | .p _ _ | .nili | .nilf | .u | .w => by simp [D.beq]
 | .s x => by simp only [D.beq]; show (x.data == x.data) = true; simp
 | .q cs _ => by simp [D.beq, beqs_self cs]
 | .l _ _ xs => by simp [D.beq, beqs_self xs]
 | .a cs => by simp [D.beq, beqs_self cs]
 | .t cs => by simp [D.beq, beqs_self cs]
 | .ic _ v => by simp [D.beq, beq_self v]
 | .fn _ cs => by simp [D.beq, beqs_self cs]
theorem beqs_self : ∀ ds : List D, D.beqs ds ds = true
 | [] => rfl
 | d :: ds => by simp [D.beqs, beq_self d, beqs_self ds]
end
class Kt (α : Type) where
 q : α → Prop
class K3 where
 q : R → St → Ac → Prop
class Pr where
 p : Prop
def WC (c : C) (s : St) [k : Kt Rs] (_ : True) : Prop := ∃ r, evC EE LL c s = some r ∧ k.q r
def WG (gs : List Gh) (s : St) [k : Kt St] (_ : True) : Prop := ∃ t, evGs gs s = some t ∧ k.q t
def WO (ops : List I) (s : St) [k : Kt St] (_ : True) : Prop := ∃ t, evOps EE LL ops s = some t ∧ k.q t
def WD (ops : List I) (acs : List Ac) (s : St) [k : Kt St] (_ : True) : Prop := ∃ t, evOpsD EE LL ops acs s = some t ∧ k.q t
def W1 (x : Option (R × St × Ac)) [k : K3] (_ : True) : Prop := ∃ r s ac, x = some (r, s, ac) ∧ k.q r s ac
def SqQ (b : C) [k : Kt Rs] (r : Rs) (_ : True) : Prop := match r with
 | .n s => @WC b s k trivial
 | .x i s => k.q (.x i s)
 | .r s => k.q (.r s)
def BkQ (n : Nat) [k : Kt Rs] (r : Rs) (_ : True) : Prop := match r with
 | .n s => k.q (.n s)
 | .x i s => if i = n then k.q (.n s) else k.q (.x i s)
 | .r s => k.q (.r s)
def CdQ (x : Option R) [A : Pr] [B : Pr] (_ : True) : Prop := match x with
 | some (.v (.b t)) => if t = true then A.p else B.p
 | _ => False
def GdQ (x : Option R) (b : Bool) [A : Pr] [B : Pr] (_ : True) : Prop := match x with
 | some (.v (.b t)) => if t = b then A.p else B.p
 | some (.v .u) => B.p
 | _ => False
def FnQ (res : List (Sum Nat (Nat × Bool × Nat))) (n : Nat) (x : D × List (List D) × Nat) (r : Rs) : Prop := fin ⟨0, res, .skip⟩ n (some r) = some x
theorem w1_some (r s ac Q) : @W1 (some (r, s, ac)) ⟨Q⟩ trivial ↔ Q r s ac := by
 unfold W1
 constructor
 ·rintro ⟨_, _, _, h, hq⟩; cases h; exact hq
 ·exact fun h => ⟨_, _, _, rfl, h⟩
theorem w1_none (Q) : @W1 none ⟨Q⟩ trivial ↔ False := by simp [W1]
theorem wc_skip (s Q) : @WC .skip s ⟨Q⟩ trivial ↔ Q (.n s) := by simp [WC, evC]
theorem wc_ret (s Q) : @WC .ret s ⟨Q⟩ trivial ↔ Q (.r s) := by simp [WC, evC]
theorem wc_exit (n s Q) : @WC (.exit n) s ⟨Q⟩ trivial ↔ Q (.x n s) := by simp [WC, evC]
theorem wc_seq (a b s Q) : @WC (.seq a b) s ⟨Q⟩ trivial ↔ @WC a s ⟨fun r => @SqQ b ⟨Q⟩ r trivial⟩ trivial := by
 unfold WC
 simp only [evC]
 constructor
 ·rintro ⟨r, h, hq⟩
  cases h1 : evC EE LL a s with
  | none => rw [h1] at h; simp [sq] at h
  | some r1 =>
   rw [h1] at h
   refine ⟨r1, rfl, ?_⟩
   cases r1 with
   | n s1 => exact ⟨r, h, hq⟩
   | x i s1 => simp [sq] at h; subst h; exact hq
   | r s1 => simp [sq] at h; subst h; exact hq
 ·rintro ⟨r1, h1, hq⟩
  rw [h1]
  cases r1 with
  | n s1 => exact hq
  | x i s1 => exact ⟨_, rfl, hq⟩
  | r s1 => exact ⟨_, rfl, hq⟩
theorem wc_blk (n a s Q) : @WC (.blk n a) s ⟨Q⟩ trivial ↔ @WC a s ⟨fun r => @BkQ n ⟨Q⟩ r trivial⟩ trivial := by
 unfold WC
 simp only [evC]
 constructor
 ·rintro ⟨r, h, hq⟩
  cases h1 : evC EE LL a s with
  | none => rw [h1] at h; simp [bk] at h
  | some r1 =>
   rw [h1] at h
   refine ⟨r1, rfl, ?_⟩
   cases r1 with
   | n s1 => simp [bk] at h; subst h; exact hq
   | r s1 => simp [bk] at h; subst h; exact hq
   | x i s1 =>
    simp only [bk] at h
    simp only [BkQ]
    split at h <;> rename_i e <;> cases h
    ·rw [if_pos e]; exact hq
    ·rw [if_neg e]; exact hq
 ·rintro ⟨r1, h1, hq⟩
  rw [h1]
  cases r1 with
  | n s1 => exact ⟨_, rfl, hq⟩
  | r s1 => exact ⟨_, rfl, hq⟩
  | x i s1 =>
   simp only [BkQ] at hq
   simp only [bk]
   split at hq <;> rename_i e
   ·exact ⟨_, by rw [if_pos e], hq⟩
   ·exact ⟨_, by rw [if_neg e], hq⟩
theorem wc_cond (x a b s Q) : @WC (.cond x a b) s ⟨Q⟩ trivial ↔ @CdQ (look x s.fr) ⟨@WC a s ⟨Q⟩ trivial⟩ ⟨@WC b s ⟨Q⟩ trivial⟩ trivial := by
 unfold WC
 simp only [evC]
 cases h : look x s.fr with
 | none => simp [CdQ]
 | some r =>
  cases r with
  | q q => simp [CdQ]
  | v d =>
   cases d <;> simp [CdQ]
   rename_i t; cases t <;> simp
theorem wc_reg (gs ops ls os s Q) : @WC (.reg gs ops false ls os) s ⟨Q⟩ trivial ↔ @WG gs s ⟨fun s => @WO ops s ⟨fun s => Q (.n { s with fr := forget (AM.Q.dead os) (keep ls s.fr), ob := keep os s.ob })⟩ trivial⟩ trivial := by
 unfold WC WG WO
 simp only [evC]
 cases h : evGs gs s with
 | none => simp
 | some t =>
  simp only [Bool.false_eq_true, if_false]
  cases h2 : evOps EE LL ops t with
  | none => simp [h2]
  | some t2 => simp [h2]
theorem wc_regd (gs ops ls os s Q) : @WC (.reg gs ops true ls os) s ⟨Q⟩ trivial ↔ @WG gs s ⟨fun s => @WD ops [] s ⟨fun s => Q (.n { s with fr := forget (AM.Q.dead os) (keep ls s.fr), ob := keep os s.ob })⟩ trivial⟩ trivial := by
 unfold WC WG WD
 simp only [evC]
 cases h : evGs gs s with
 | none => simp
 | some t =>
  simp only [if_true]
  cases h2 : evOpsD EE LL ops [] t with
  | none => simp [h2]
  | some t2 => simp [h2]
theorem wg_nil (s Q) : @WG [] s ⟨Q⟩ trivial ↔ Q s := by simp [WG, evGs]
theorem wg_cons (g gs s Q) : @WG (g :: gs) s ⟨Q⟩ trivial ↔ ∃ t, evG g s = some t ∧ @WG gs t ⟨Q⟩ trivial := by
 unfold WG
 simp only [evGs]
 cases h : evG g s with
 | none => simp
 | some t => simp
theorem wo_nil (s Q) : @WO [] s ⟨Q⟩ trivial ↔ Q s := by simp [WO, evOps]
theorem wo_cons (d op un fz r s Q) : @WO (⟨d, none, op, un, fz⟩ :: r) s ⟨Q⟩ trivial ↔ @W1 (evO LL EE.meth op s d) ⟨fun x t _ => @WO r (t.put d (fzR fz x)) ⟨Q⟩ trivial⟩ trivial := by
 cases h : evO LL EE.meth op s d with
 | none => rw [w1_none]; simp [WO, evOps, evI, wants, h]
 | some p =>
  obtain ⟨x, t, ac⟩ := p
  rw [w1_some]
  unfold WO
  simp only [evOps, evI, wants, h, Option.map_some]
theorem wo_guard (d k b op un fz r s Q) : @WO (⟨d, some (k, b), op, un, fz⟩ :: r) s ⟨Q⟩ trivial ↔ @GdQ (look k s.fr) b ⟨@W1 (evO LL EE.meth op s d) ⟨fun x t _ => @WO r (t.put d (fzR fz x)) ⟨Q⟩ trivial⟩ trivial⟩ ⟨@WO r (s.put d (.v .u)) ⟨Q⟩ trivial⟩ trivial := by
 have h0 : ∀ t : Bool, look k s.fr = some (.v (.b t)) → (@WO (⟨d, some (k, b), op, un, fz⟩ :: r) s ⟨Q⟩ trivial ↔ @WO (⟨d, none, op, un, fz⟩ :: r) s ⟨Q⟩ trivial ∧ t = b ∨ t ≠ b ∧ @WO r (s.put d (.v .u)) ⟨Q⟩ trivial) := by
  intro t ht
  unfold WO
  simp only [evOps, evI, wants, ht]
  cases t <;> cases b <;> simp
 cases hl : look k s.fr with
 | none => simp [WO, evOps, evI, wants, hl, GdQ]
 | some x =>
  cases x with
  | q q => simp [WO, evOps, evI, wants, hl, GdQ]
  | v v =>
   cases v <;> try (simp [WO, evOps, evI, wants, hl, GdQ]; done)
   rename_i t
   rw [h0 t hl, wo_cons]
   simp only [GdQ]
   cases t <;> cases b <;> simp
theorem wd_nil (acs s Q) : @WD [] acs s ⟨Q⟩ trivial ↔ Q s := by simp [WD, evOpsD]
theorem wd_cons (d op un fz r acs s Q) : @WD (⟨d, none, op, un, fz⟩ :: r) acs s ⟨Q⟩ trivial ↔ @W1 (evO LL EE.meth op s d) ⟨fun x t ac => okA un acs ac = true ∧ @WD r (acs ++ [ac]) (t.put d (fzR fz x)) ⟨Q⟩ trivial⟩ trivial := by
 cases h : evO LL EE.meth op s d with
 | none => rw [w1_none]; simp [WD, evOpsD, evI, wants, h]
 | some p =>
  obtain ⟨x, t, ac⟩ := p
  rw [w1_some]
  unfold WD
  simp only [evOpsD, evI, wants, h, Option.map_some]
  constructor
  ·rintro ⟨t', h1, h2⟩
   split at h1
   ·rename_i hk; exact ⟨hk, t', h1, h2⟩
   ·cases h1
  ·rintro ⟨hk, t2, h1, h2⟩
   exact ⟨t2, by rw [if_pos hk]; exact h1, h2⟩
theorem wd_guard (d k b op un fz r acs s Q) : @WD (⟨d, some (k, b), op, un, fz⟩ :: r) acs s ⟨Q⟩ trivial ↔ @GdQ (look k s.fr) b ⟨@W1 (evO LL EE.meth op s d) ⟨fun x t ac => okA un acs ac = true ∧ @WD r (acs ++ [ac]) (t.put d (fzR fz x)) ⟨Q⟩ trivial⟩ trivial⟩ ⟨okA un acs .no = true ∧ @WD r (acs ++ [.no]) (s.put d (.v .u)) ⟨Q⟩ trivial⟩ trivial := by
 have hu : @WD (⟨d, none, .mv (.c .u), un, 0⟩ :: r) acs s ⟨Q⟩ trivial ↔ (okA un acs .no = true ∧ @WD r (acs ++ [.no]) (s.put d (.v .u)) ⟨Q⟩ trivial) := by
  rw [wd_cons]
  simp only [evO, rx, Option.map_some, R.ac, w1_some, fzR]
 have h0 : ∀ t : Bool, look k s.fr = some (.v (.b t)) → (@WD (⟨d, some (k, b), op, un, fz⟩ :: r) acs s ⟨Q⟩ trivial ↔ @WD (⟨d, none, op, un, fz⟩ :: r) acs s ⟨Q⟩ trivial ∧ t = b ∨ t ≠ b ∧ @WD (⟨d, none, .mv (.c .u), un, 0⟩ :: r) acs s ⟨Q⟩ trivial) := by
  intro t ht
  unfold WD
  simp only [evOpsD, evI, wants, ht, evO, rx, Option.map_some, R.ac, fzR]
  cases t <;> cases b <;> simp
 cases hl : look k s.fr with
 | none => simp [WD, evOpsD, evI, wants, hl, GdQ]
 | some x =>
  cases x with
  | q q => simp [WD, evOpsD, evI, wants, hl, GdQ]
  | v v =>
   cases v <;> try (simp [WD, evOpsD, evI, wants, hl, GdQ]; done)
   ·rename_i t
    rw [h0 t hl, hu, wd_cons]
    simp only [GdQ]
    cases t <;> cases b <;> simp
   ·have : @WD (⟨d, some (k, b), op, un, fz⟩ :: r) acs s ⟨Q⟩ trivial ↔ @WD (⟨d, none, .mv (.c .u), un, 0⟩ :: r) acs s ⟨Q⟩ trivial := by
     unfold WD
     simp only [evOpsD, evI, wants, hl, evO, rx, Option.map_some, R.ac, fzR]
    rw [this, hu]
    simp [GdQ]
theorem gd_u (b A B) : @GdQ (some (.v .u)) b ⟨A⟩ ⟨B⟩ trivial ↔ B := Iff.rfl
theorem sq_n (b Q s) : @SqQ b ⟨Q⟩ (.n s) trivial ↔ @WC b s ⟨Q⟩ trivial := Iff.rfl
theorem sq_x (b Q i s) : @SqQ b ⟨Q⟩ (.x i s) trivial ↔ Q (.x i s) := Iff.rfl
theorem sq_r (b Q s) : @SqQ b ⟨Q⟩ (.r s) trivial ↔ Q (.r s) := Iff.rfl
theorem bk_n (n Q s) : @BkQ n ⟨Q⟩ (.n s) trivial ↔ Q (.n s) := Iff.rfl
theorem bk_x (n Q i s) : @BkQ n ⟨Q⟩ (.x i s) trivial ↔ if i = n then Q (.n s) else Q (.x i s) := Iff.rfl
theorem bk_r (n Q s) : @BkQ n ⟨Q⟩ (.r s) trivial ↔ Q (.r s) := Iff.rfl
theorem wp_call {f : FuncId} {F : F} {ds : List D} {sg : List (List D)} {x : D × List (List D) × Nat} (hF : EE.fn f = some F) (hn : ds.length = F.np)
    (h : @WC F.body ⟨ini 0 ds, [], sg, sg.length⟩ ⟨fun r => FnQ F.res sg.length x r⟩ trivial) (hq : decide (f < Q0) = true := by exact rfl) : LL.call f ds sg sg.length = some x := by
 obtain ⟨r, h1, h2⟩ := h
 refine call_of ?_
 unfold stepCall
 simp only [hF, if_pos hn]
 rw [iniF_lt (of_decide_eq_true hq)]
 simp only
 rw [h1]; exact h2
theorem wp_callq {f : FuncId} {F : F} {r off : Nat} {d0 : D} {cs ds : List D} {sg : List (List D)} {x : D × List (List D) × Nat} (hF : EE.fn f = some F) (hn : ds.length + 1 = F.np) (hcs : sg[r]? = some cs) (hd : cs[off]? = some d0)
    (h : @WC F.body ⟨(0, .q (.hd (.gb r off))) :: ini 1 ds, [], sg, sg.length⟩ ⟨fun r => FnQ F.res sg.length x r⟩ trivial) (hq : decide (f < Q0) = false := by exact rfl) : LL.call f (.p r off :: ds) sg sg.length = some x := by
 obtain ⟨r1, h1, h2⟩ := h
 refine call_of ?_
 unfold stepCall
 have hn' : (D.p r off :: ds).length = F.np := by simpa using hn
 simp only [hF, if_pos hn']
 rw [iniF_q (of_decide_eq_false hq) hcs hd]
 simp only
 rw [h1]; exact h2
theorem wc_loop {c s Q} (h : @WC c s ⟨fun r => @SqQ (.loop c) ⟨Q⟩ r trivial⟩ trivial) : @WC (.loop c) s ⟨Q⟩ trivial := by
 obtain ⟨r1, h1, h2⟩ := h
 cases r1 with
 | n s1 =>
  obtain ⟨r, h3, h4⟩ := h2
  refine ⟨r, ?_, h4⟩
  simp only [evC] at h3 ⊢
  refine loop_of ?_
  unfold stepLoop
  rw [h1]; exact h3
 | x i s1 =>
  refine ⟨.x i s1, ?_, h2⟩
  simp only [evC]
  refine loop_of ?_
  unfold stepLoop
  rw [h1]; rfl
 | r s1 =>
  refine ⟨.r s1, ?_, h2⟩
  simp only [evC]
  refine loop_of ?_
  unfold stepLoop
  rw [h1]; rfl
end Go.AM

namespace Go.AM
def O1 {α : Type} (o : Option α) [k : Kt α] (_ : True) : Prop := ∃ a, o = some a ∧ k.q a
theorem o1_some {α : Type} (a : α) (Q) : @O1 _ (some a) ⟨Q⟩ trivial ↔ Q a := by simp [O1]
theorem o1_none {α : Type} (Q : α → Prop) : @O1 _ none ⟨Q⟩ trivial ↔ False := by simp [O1]
theorem o1_map {α β : Type} (o : Option α) (f : α → β) (Q) : @O1 _ (o.map f) ⟨Q⟩ trivial ↔ @O1 _ o ⟨fun a => Q (f a)⟩ trivial := by cases o <;> simp [O1]
theorem o1_if_none {α : Type} (c : Prop) [Decidable c] (o : Option α) (Q) : @O1 _ (if c then none else o) ⟨Q⟩ trivial ↔ ¬ c ∧ @O1 _ o ⟨Q⟩ trivial := by by_cases h : c <;> simp [h, O1]
theorem o1_if {α : Type} (c : Prop) [Decidable c] (o : Option α) (Q) : @O1 _ (if c then o else none) ⟨Q⟩ trivial ↔ c ∧ @O1 _ o ⟨Q⟩ trivial := by by_cases h : c <;> simp [h, O1]
theorem o1_ite {α : Type} (c : Prop) [Decidable c] (a b : α) (Q) : @O1 _ (if c then some a else some b) ⟨Q⟩ trivial ↔ Q (if c then a else b) := by by_cases h : c <;> simp [h, O1]
section
variable (OO : Or) (m : TypeId → String → Option FuncId) (s : St) (d : Option Nat) (Q : R → St → Ac → Prop)
theorem w1_map {α : Type} (o : Option α) (f : α → R × St × Ac) : @W1 (o.map f) ⟨Q⟩ trivial ↔ @O1 _ o ⟨fun a => Q (f a).1 (f a).2.1 (f a).2.2⟩ trivial := by
 cases o with
 | none => simp [W1, O1]
 | some a => rw [Option.map_some, o1_some]; exact w1_some _ _ _ _
theorem w1_o1 (o : Option (R × St × Ac)) : @W1 o ⟨Q⟩ trivial ↔ @O1 _ o ⟨fun p => Q p.1 p.2.1 p.2.2⟩ trivial := by
 cases o with
 | none => simp [W1, O1]
 | some a => obtain ⟨x, t, ac⟩ := a; rw [w1_some, o1_some]
theorem w_mv (x : X) : @W1 (evO OO m (.mv x) s d) ⟨Q⟩ trivial ↔ @O1 _ (rx x s) ⟨fun p => Q p.1 p.2 p.1.ac⟩ trivial := by simp only [evO]; rw [w1_map]
theorem w_bin (op : BinOp) (x y : X) : @W1 (evO OO m (.bin op x y) s d) ⟨Q⟩ trivial ↔ @O1 _ (rxv x s) ⟨fun p => @O1 _ (rxv y p.2) ⟨fun q => @O1 _ (binv op p.1 q.1) ⟨fun r => Q (.v r) q.2 .no⟩ trivial⟩ trivial⟩ trivial := by
 simp only [evO]
 cases rxv x s with
 | none => simp [w1_none, o1_none]
 | some p =>
  obtain ⟨a, s1⟩ := p
  simp only [o1_some]
  cases rxv y s1 with
  | none => simp [w1_none, o1_none]
  | some q => obtain ⟨b, s2⟩ := q; simp only [o1_some]; rw [w1_map]
theorem w_eq (neg : Bool) (c : Ec) (x y : X) : @W1 (evO OO m (.eq neg c x y) s d) ⟨Q⟩ trivial ↔ @O1 _ (rxv x s) ⟨fun p => @O1 _ (rxv y p.2) ⟨fun q => @O1 _ (eq1 c p.1 q.1) ⟨fun t => Q (.v (.b (if neg then !t else t))) q.2 .no⟩ trivial⟩ trivial⟩ trivial := by
 simp only [evO]
 cases rxv x s with
 | none => simp [w1_none, o1_none]
 | some p =>
  obtain ⟨a, s1⟩ := p
  simp only [o1_some]
  cases rxv y s1 with
  | none => simp [w1_none, o1_none]
  | some q => obtain ⟨b, s2⟩ := q; simp only [o1_some]; rw [w1_map]
theorem w_un (op : UnOp) (x : X) : @W1 (evO OO m (.un op x) s d) ⟨Q⟩ trivial ↔ @O1 _ (rxv x s) ⟨fun p => @O1 _ (unv op p.1) ⟨fun r => Q (.v r) p.2 .no⟩ trivial⟩ trivial := by
 simp only [evO]
 cases rxv x s with
 | none => simp [w1_none, o1_none]
 | some p => obtain ⟨a, s1⟩ := p; simp only [o1_some]; rw [w1_map]
theorem w_cv (c : Cv) (x : X) : @W1 (evO OO m (.cv c x) s d) ⟨Q⟩ trivial ↔ @O1 _ (rxv x s) ⟨fun p => @O1 _ (cvv c p.1) ⟨fun r => Q (.v r) p.2 .no⟩ trivial⟩ trivial := by
 simp only [evO]
 cases rxv x s with
 | none => simp [w1_none, o1_none]
 | some p => obtain ⟨a, s1⟩ := p; simp only [o1_some]; rw [w1_map]
theorem w_ia (sz : Nat) (len : Option Nat) (x y : X) : @W1 (evO OO m (.ia sz len x y) s d) ⟨Q⟩ trivial ↔ @O1 _ (rx x s) ⟨fun p => @O1 _ (rxv y p.2) ⟨fun q => match q.1 with | .i _ n => @O1 _ (iav q.2 sz len p.1.fz n) ⟨fun r => Q r.1 q.2 r.2⟩ trivial | _ => False⟩ trivial⟩ trivial := by
 simp only [evO]
 cases rx x s with
 | none => simp [w1_none, o1_none]
 | some p =>
  obtain ⟨a, s1⟩ := p
  simp only [o1_some]
  cases h2 : rxv y s1 with
  | none => simp [w1_none, o1_none, h2]
  | some q =>
   obtain ⟨b, s2⟩ := q
   simp only [o1_some, h2]
   cases b <;> first | rw [w1_none] | skip
   simp only
   rw [w1_map]
theorem o1_iav_l (sz : Nat) (k : K) (sz' : Nat) (xs : List D) (n : Int) (Q : R × Ac → Prop) : @O1 _ (iav s sz none (.v (.l k sz' xs)) n) ⟨Q⟩ trivial ↔ 0 ≤ n ∧ (sz' = sz ∧ k ≠ .x) ∧ @O1 _ xs[n.toNat]? ⟨fun d => Q (.v (.q d.cells 0), .no)⟩ trivial := by
 unfold iav
 by_cases hn : n < 0
 ·simp [hn, o1_none]; omega
 ·rw [if_neg hn]
  simp only
  by_cases hc : sz' = sz ∧ k ≠ .x
  ·rw [if_pos hc]
   cases h : xs[n.toNat]? with
   | none => simp [o1_none]
   | some d => simp [o1_some, hc]; omega
  ·rw [if_neg hc]
   simp only [o1_none, hc, false_and, and_false]
theorem o1_iav_hd (sz : Nat) (pl : Pl) (n : Int) (sz' : Nat) (xs : List D) (h : s.at pl = some (.l .x sz' xs)) (Q : R × Ac → Prop) : @O1 _ (iav s sz none (.q (.hd pl)) n) ⟨Q⟩ trivial ↔ 0 ≤ n ∧ (sz' = sz ∧ n.toNat < xs.length) ∧ Q (.q (.el pl n.toNat 0), pl.rb) := by
 unfold iav
 by_cases hn : n < 0
 ·simp [hn, o1_none]; omega
 ·rw [if_neg hn]
  simp only [hpl, h]
  by_cases hc : sz' = sz ∧ n.toNat < xs.length
  ·rw [if_pos hc, o1_some, hd_ac]; simp [hc]; omega
  ·rw [if_neg hc, o1_none]; simp only [hc, false_and, and_false]
def AtQ (x : Option D) [k : Kt (Nat × List D)] (_ : True) : Prop := ∃ sz xs, x = some (.l .x sz xs) ∧ k.q (sz, xs)
theorem at_some (sz : Nat) (xs : List D) (Q) : @AtQ (some (.l .x sz xs)) ⟨Q⟩ trivial ↔ Q (sz, xs) := by
 constructor
 ·rintro ⟨_, _, h, hq⟩; cases h; exact hq
 ·exact fun h => ⟨_, _, rfl, h⟩
theorem o1_iav_hd' (sz : Nat) (pl : Pl) (n : Int) (Q : R × Ac → Prop) : @O1 _ (iav s sz none (.q (.hd pl)) n) ⟨Q⟩ trivial ↔ 0 ≤ n ∧ @AtQ (s.at pl) ⟨fun a => (a.1 = sz ∧ n.toNat < a.2.length) ∧ Q (.q (.el pl n.toNat 0), pl.rb)⟩ trivial := by
 constructor
 ·intro h
  unfold iav at h
  by_cases hn : n < 0
  ·simp [hn, o1_none] at h
  ·rw [if_neg hn] at h
   simp only [hpl] at h
   split at h
   ·rename_i sz' xs he
    have h' : @O1 _ (iav s sz none (.q (.hd pl)) n) ⟨Q⟩ trivial := by
     unfold iav; rw [if_neg hn]; simp only [hpl, he]; exact h
    rw [o1_iav_hd s sz pl n sz' xs he] at h'
    exact ⟨h'.1, sz', xs, he, h'.2⟩
   ·simp [o1_none] at h
 ·rintro ⟨h0, sz', xs, he, h⟩
  exact (o1_iav_hd s sz pl n sz' xs he Q).2 ⟨h0, h⟩
theorem o1_iav_hdr (sz : Nat) (k : Nat) (n : Int) (sz' : Nat) (xs : List D) (h : s.at (.ob k 0) = some (.l .x sz' xs)) (Q : R × Ac → Prop) : @O1 _ (iav s sz none (.q (.hdr k)) n) ⟨Q⟩ trivial ↔ 0 ≤ n ∧ (sz' = sz ∧ n.toNat < xs.length) ∧ Q (.q (.el (.ob k 0) n.toNat 0), .rb k) := by
 unfold iav
 by_cases hn : n < 0
 ·simp [hn, o1_none]; omega
 ·rw [if_neg hn]
  simp only [hpl, h]
  by_cases hc : sz' = sz ∧ n.toNat < xs.length
  ·rw [if_pos hc, o1_some]; simp [hc]; omega
  ·rw [if_neg hc, o1_none]; simp only [hc, false_and, and_false]
theorem o1_iav_hdr' (sz : Nat) (k : Nat) (n : Int) (Q : R × Ac → Prop) : @O1 _ (iav s sz none (.q (.hdr k)) n) ⟨Q⟩ trivial ↔ 0 ≤ n ∧ @AtQ (s.at (.ob k 0)) ⟨fun a => (a.1 = sz ∧ n.toNat < a.2.length) ∧ Q (.q (.el (.ob k 0) n.toNat 0), .rb k)⟩ trivial := by
 constructor
 ·intro h
  unfold iav at h
  by_cases hn : n < 0
  ·simp [hn, o1_none] at h
  ·rw [if_neg hn] at h
   simp only [hpl] at h
   split at h
   ·rename_i sz' xs he
    have h' : @O1 _ (iav s sz none (.q (.hdr k)) n) ⟨Q⟩ trivial := by
     unfold iav; rw [if_neg hn]; simp only [hpl, he]; exact h
    rw [o1_iav_hdr s sz k n sz' xs he] at h'
    exact ⟨h'.1, sz', xs, he, h'.2⟩
   ·simp [o1_none] at h
 ·rintro ⟨h0, sz', xs, he, h⟩
  exact (o1_iav_hdr s sz k n sz' xs he Q).2 ⟨h0, h⟩
theorem w_sl (sz : Nat) (x : X) (lo hi mx : Option X) : @W1 (evO OO m (.sl sz x lo hi mx) s d) ⟨Q⟩ trivial ↔ @O1 _ (rxv x s) ⟨fun p => @O1 _ (evO.rxo lo p.2) ⟨fun l => @O1 _ (evO.rxo hi l.2) ⟨fun h => @O1 _ (evO.rxo mx h.2) ⟨fun m => @O1 _ (slv sz p.1 l.1 h.1 m.1) ⟨fun r => Q (.v r) m.2 .no⟩ trivial⟩ trivial⟩ trivial⟩ trivial⟩ trivial := by
 simp only [evO]
 cases rxv x s with
 | none => simp [w1_none, o1_none]
 | some p =>
  obtain ⟨a, s1⟩ := p
  simp only [o1_some]
  cases evO.rxo lo s1 with
  | none => simp [w1_none, o1_none]
  | some q =>
   obtain ⟨l, s2⟩ := q
   simp only [o1_some]
   cases evO.rxo hi s2 with
   | none => simp [w1_none, o1_none]
   | some q =>
    obtain ⟨h, s3⟩ := q
    simp only [o1_some]
    cases evO.rxo mx s3 with
    | none => simp [w1_none, o1_none]
    | some q => obtain ⟨mm, s4⟩ := q; simp only [o1_some]; rw [w1_map]
theorem w_ss (x : X) (lo hi : Option X) : @W1 (evO OO m (.ss x lo hi) s d) ⟨Q⟩ trivial ↔ @O1 _ (rxv x s) ⟨fun p => @O1 _ (evO.rxo lo p.2) ⟨fun l => @O1 _ (evO.rxo hi l.2) ⟨fun h => @O1 _ (ssv p.1 l.1 h.1) ⟨fun r => Q (.v r) h.2 .no⟩ trivial⟩ trivial⟩ trivial⟩ trivial := by
 simp only [evO]
 cases rxv x s with
 | none => simp [w1_none, o1_none]
 | some p =>
  obtain ⟨a, s1⟩ := p
  simp only [o1_some]
  cases evO.rxo lo s1 with
  | none => simp [w1_none, o1_none]
  | some q =>
   obtain ⟨l, s2⟩ := q
   simp only [o1_some]
   cases evO.rxo hi s2 with
   | none => simp [w1_none, o1_none]
   | some q => obtain ⟨h, s3⟩ := q; simp only [o1_some]; rw [w1_map]
theorem rxo_none (s : St) : evO.rxo none s = some (none, s) := rfl
theorem rxo_some (x : X) (s : St) : evO.rxo (some x) s = (rxv x s).map fun p => (some p.1, p.2) := rfl
def BdQ (o : Option D) (dflt top : Nat) [k : Kt Nat] (_ : True) : Prop := @O1 _ (bnd o dflt top) k trivial
theorem bd_none (dflt top Q) : @BdQ none dflt top ⟨Q⟩ trivial ↔ Q dflt := by simp [BdQ, bnd, o1_some]
theorem bd_some (k n dflt top Q) : @BdQ (some (.i k n)) dflt top ⟨Q⟩ trivial ↔ (0 ≤ n ∧ n ≤ top) ∧ Q n.toNat := by simp only [BdQ, bnd, o1_if, o1_some]
theorem o1_ssv (v : ByteArray) (lo hi : Option D) (Q : D → Prop) : @O1 _ (ssv (.s v) lo hi) ⟨Q⟩ trivial ↔ @BdQ hi v.size v.size ⟨fun h => @BdQ lo 0 h ⟨fun l => Q (.s (v.extract l h))⟩ trivial⟩ trivial := by
 unfold ssv BdQ
 simp only
 cases bnd hi v.size v.size with
 | none => simp [o1_none]
 | some h =>
  simp only [o1_some]
  cases bnd lo 0 h with
  | none => simp [o1_none]
  | some l => simp [o1_some]
theorem o1_slv2 (sz : Nat) (k : K) (sz' : Nat) (xs : List D) (lo hi : Option D) (Q : D → Prop) : @O1 _ (slv sz (.l k sz' xs) lo hi none) ⟨Q⟩ trivial ↔ sz' = sz ∧ @BdQ hi xs.length xs.length ⟨fun h => @BdQ lo 0 h ⟨fun l => Q (.l (slk k hi.isNone lo.isNone) sz ((xs.take h).drop l))⟩ trivial⟩ trivial := by
 unfold slv BdQ
 simp only [o1_if]
 cases bnd hi xs.length xs.length with
 | none => simp [o1_none]
 | some h =>
  simp only [o1_some]
  cases bnd lo 0 h with
  | none => simp [o1_none]
  | some l => simp [o1_some]
theorem o1_slv3 (sz : Nat) (k : K) (sz' : Nat) (xs : List D) (lo : Option D) (h m : D) (Q : D → Prop) : @O1 _ (slv sz (.l k sz' xs) lo (some h) (some m)) ⟨Q⟩ trivial ↔ sz' = sz ∧ @BdQ (some m) 0 xs.length ⟨fun m => @BdQ (some h) 0 m ⟨fun h => h = m ∧ @BdQ lo 0 h ⟨fun l => k ≠ .x ∧ Q (.l .n sz ((xs.take h).drop l))⟩ trivial⟩ trivial⟩ trivial := by
 unfold slv BdQ
 simp only [o1_if]
 cases bnd (some m) 0 xs.length with
 | none => simp [o1_none]
 | some m =>
  simp only [o1_some]
  cases bnd (some h) 0 m with
  | none => simp [o1_none]
  | some h =>
   simp only [o1_some, o1_if]
   cases bnd lo 0 h with
   | none => simp [o1_none]
   | some l => cases k <;> simp [o1_some, o1_none]
theorem w_ixs (x y : X) : @W1 (evO OO m (.ixs x y) s d) ⟨Q⟩ trivial ↔ @O1 _ (rxv x s) ⟨fun p => @O1 _ (rxv y p.2) ⟨fun q => match p.1, q.1 with | .s v, .i _ n => 0 ≤ n ∧ @O1 _ v.data.toList[n.toNat]? ⟨fun c => Q (.v (.i .u8 c.toNat)) q.2 .no⟩ trivial | _, _ => False⟩ trivial⟩ trivial := by
 simp only [evO]
 cases rxv x s with
 | none => simp [w1_none, o1_none]
 | some p =>
  obtain ⟨a, s1⟩ := p
  simp only [o1_some]
  cases h2 : rxv y s1 with
  | none => cases a <;> simp [w1_none, o1_none, h2]
  | some q =>
   obtain ⟨b, s2⟩ := q
   simp only [o1_some]
   cases a <;> simp only [h2, w1_none]
   cases b <;> simp only [w1_none]
   rename_i v k n
   by_cases hn : 0 ≤ n
   ·rw [if_pos hn]
    cases v.data.toList[n.toNat]? with
    | none => simp [w1_none, o1_none]
    | some c => simp [w1_some, o1_some, hn]
   ·rw [if_neg hn]; simp [w1_none, hn]
theorem w_ixa (agg : Bool) (sz len : Nat) (x y : X) : @W1 (evO OO m (.ixa agg sz len x y) s d) ⟨Q⟩ trivial ↔ @O1 _ (rxv x s) ⟨fun p => @O1 _ (rxv y p.2) ⟨fun q => match p.1, q.1 with | .a cs, .i _ n => (0 ≤ n ∧ n < len) ∧ @O1 _ (sub cs (n.toNat * sz) sz) ⟨fun ds => @O1 _ (ofc agg ds) ⟨fun r => Q (.v r) q.2 .no⟩ trivial⟩ trivial | _, _ => False⟩ trivial⟩ trivial := by
 simp only [evO]
 cases rxv x s with
 | none => simp [w1_none, o1_none]
 | some p =>
  obtain ⟨a, s1⟩ := p
  simp only [o1_some]
  cases h2 : rxv y s1 with
  | none => cases a <;> simp [w1_none, o1_none, h2]
  | some q =>
   obtain ⟨b, s2⟩ := q
   simp only [o1_some]
   cases a <;> simp only [h2, w1_none]
   cases b <;> simp only [w1_none]
   rename_i cs k n
   by_cases hn : 0 ≤ n ∧ n < len
   ·rw [if_pos hn]
    cases sub cs (n.toNat * sz) sz with
    | none => simp [w1_none, o1_none]
    | some c => simp only [o1_some, w1_map, hn, true_and]
   ·rw [if_neg hn]; simp only [w1_none, hn, false_and]
theorem w_app (sz bytes : Nat) (x y : X) : @W1 (evO OO m (.app sz bytes x y) s d) ⟨Q⟩ trivial ↔ @O1 _ (rxv x s) ⟨fun p => @O1 _ (rx y p.2) ⟨fun q => @O1 _ (elems q.2 q.1) ⟨fun e => e.1 = sz ∧ @O1 _ (appv sz bytes p.1 e.2) ⟨fun r => Q (.v r) q.2 q.1.acE⟩ trivial⟩ trivial⟩ trivial⟩ trivial := by
 simp only [evO]
 cases rxv x s with
 | none => simp [w1_none, o1_none]
 | some p =>
  obtain ⟨a, s1⟩ := p
  simp only [o1_some]
  cases h2 : rx y s1 with
  | none => simp [w1_none, o1_none, h2]
  | some q =>
   obtain ⟨b, s2⟩ := q
   simp only [o1_some, h2]
   cases elems s2 b with
   | none => simp [w1_none, o1_none]
   | some e =>
    obtain ⟨sz', ys⟩ := e
    simp only [o1_some]
    by_cases hz : sz' = sz
    ·rw [if_pos hz]; simp only [hz, true_and]; rw [w1_map]
    ·rw [if_neg hz]; simp [w1_none, hz]
theorem w_apps (x y : X) : @W1 (evO OO m (.apps x y) s d) ⟨Q⟩ trivial ↔ @O1 _ (rxv x s) ⟨fun p => @O1 _ (rxv y p.2) ⟨fun q => match q.1 with | .s v => @O1 _ (appv 1 1 p.1 (ofBy v)) ⟨fun r => Q (.v r) q.2 .no⟩ trivial | _ => False⟩ trivial⟩ trivial := by
 simp only [evO]
 cases rxv x s with
 | none => simp [w1_none, o1_none]
 | some p =>
  obtain ⟨a, s1⟩ := p
  simp only [o1_some]
  cases h2 : rxv y s1 with
  | none => simp [w1_none, o1_none, h2]
  | some q =>
   obtain ⟨b, s2⟩ := q
   simp only [o1_some, h2]
   cases b <;> first | rw [w1_none] | skip
   simp only
   rw [w1_map]
theorem o1_app_x (sz bytes sz' : Nat) (xs ys : List D) (Q : D → Prop) : @O1 _ (appv sz bytes (.l .x sz' xs) ys) ⟨Q⟩ trivial ↔ (sz' = sz ∧ (xs.length + ys.length) * bytes ≤ 140737488355328) ∧ Q (.l .x sz (xs ++ ys)) := by
 unfold appv; simp only [o1_if, o1_some]
theorem o1_app_o (sz bytes sz' : Nat) (xs ys : List D) (Q : D → Prop) : @O1 _ (appv sz bytes (.l .o sz' xs) ys) ⟨Q⟩ trivial ↔ (sz' = sz ∧ (xs.length + ys.length) * bytes ≤ 140737488355328) ∧ Q (.l .o sz (xs ++ D.fzs ys)) := by
 unfold appv; simp only [o1_if, o1_some]
theorem o1_app_n (sz bytes sz' : Nat) (xs ys : List D) (Q : D → Prop) : @O1 _ (appv sz bytes (.l .n sz' xs) ys) ⟨Q⟩ trivial ↔ (sz' = sz ∧ (xs.length + ys.length) * bytes ≤ 140737488355328) ∧ Q (if ys.length = 0 then .l .n sz xs else .l .x sz (xs ++ ys)) := by
 unfold appv; simp only [o1_if]; by_cases h : ys.length = 0 <;> simp [h, o1_some]
theorem w_ms (sz bytes : Nat) (z : D) (x y : X) : @W1 (evO OO m (.ms sz bytes z x y) s d) ⟨Q⟩ trivial ↔ @O1 _ (rxv x s) ⟨fun p => @O1 _ (rxv y p.2) ⟨fun q => match p.1, q.1 with | .i .i64 n, .i .i64 c => (0 ≤ n ∧ n ≤ c ∧ c ≤ 9223372036854775807 ∧ c.toNat * bytes ≤ 140737488355328) ∧ Q (.v (.l .x sz (List.replicate n.toNat z))) q.2 .no | _, _ => False⟩ trivial⟩ trivial := by
 simp only [evO]
 cases rxv x s with
 | none => simp [w1_none, o1_none]
 | some p =>
  obtain ⟨a, s1⟩ := p
  simp only [o1_some]
  cases h2 : rxv y s1 with
  | none => cases a <;> simp [w1_none, o1_none, h2]; rename_i k _; cases k <;> simp [w1_none, h2]
  | some q =>
   obtain ⟨b, s2⟩ := q
   simp only [o1_some]
   cases a <;> (try simp only [h2, w1_none])
   rename_i k n
   cases k <;> (try simp only [h2, w1_none])
   cases b <;> (try simp only [w1_none])
   rename_i k c
   cases k <;> (try simp only [w1_none])
   split
   ·rename_i h; simp [w1_some, h]
   ·rename_i h; rw [w1_none]; simp only [h, false_and]
theorem w_call (f : FuncId) (xs : List X) : @W1 (evO OO m (.call f xs) s d) ⟨Q⟩ trivial ↔ @O1 _ (rxs xs s) ⟨fun p => @O1 _ (OO.call f p.1 p.2.sg p.2.sg.length) ⟨fun r => Q (.v r.1) { p.2 with sg := r.2.1, lo := min p.2.lo r.2.2, fr := forget AM.Q.gl p.2.fr } (.cl (D.beqs (r.2.1.map .t) (p.2.sg.map .t) && decide (p.2.lo ≤ r.2.2)))⟩ trivial⟩ trivial := by
 simp only [evO]
 cases rxs xs s with
 | none => simp [w1_none, o1_none]
 | some p =>
  obtain ⟨ds, s1⟩ := p
  simp only [o1_some]
  rw [w1_map]
theorem w_callv (x : X) (xs : List X) : @W1 (evO OO m (.callv x xs) s d) ⟨Q⟩ trivial ↔ @O1 _ (rxv x s) ⟨fun q => match q.1 with
    | .fn f cs => @O1 _ (rxs xs q.2) ⟨fun p => @O1 _ (OO.call f (p.1 ++ cs) p.2.sg p.2.sg.length) ⟨fun r => Q (.v r.1) { p.2 with sg := r.2.1, lo := min p.2.lo r.2.2, fr := forget AM.Q.gl p.2.fr } (.cl (D.beqs (r.2.1.map .t) (p.2.sg.map .t) && decide (p.2.lo ≤ r.2.2)))⟩ trivial⟩ trivial
    | _ => False⟩ trivial := by
 simp only [evO]
 cases rxv x s with
 | none => simp [w1_none, o1_none]
 | some q =>
  obtain ⟨a, s1⟩ := q
  simp only [o1_some]
  cases a <;> simp only [w1_none]
  rename_i f cs
  cases rxs xs s1 with
  | none => simp [w1_none, o1_none]
  | some p =>
   obtain ⟨ds, s1⟩ := p
   simp only [o1_some]
   rw [w1_map]
theorem w_ex (tk : Bool) (n k : Nat) : @W1 (evO OO m (.ex tk n k) s d) ⟨Q⟩ trivial ↔ (match look k s.fr with
    | some (.v (.t ds)) => @O1 _ ds[n]? ⟨fun e => if tk = true then Q (.v e) { s with fr := (k, .v (.t (ds.set n .w))) :: s.fr } .no else @O1 _ e.cp ⟨fun e => Q (.v e) s .no⟩ trivial⟩ trivial
    | _ => False) := by
 simp only [evO]
 cases look k s.fr with
 | none => simp [w1_none]
 | some r =>
  cases r with
  | q x => simp [w1_none]
  | v a =>
   cases a <;> simp only [w1_none]
   rename_i ds
   cases ds[n]? with
   | none => simp [w1_none, o1_none]
   | some e =>
    simp only [o1_some]
    cases tk
    ·simp only [Bool.false_eq_true, if_false]; rw [w1_map]
    ·simp only [if_true, w1_some]
theorem w_len (str : Bool) (x : X) : @W1 (evO OO m (.len str x) s d) ⟨Q⟩ trivial ↔ @O1 _ (rx x s) ⟨fun p => @O1 _ (lenv p.2 str p.1) ⟨fun r => Q (.v (.i .i64 r.1)) p.2 r.2⟩ trivial⟩ trivial := by
 simp only [evO]
 cases rx x s with
 | none => simp [w1_none, o1_none]
 | some p => obtain ⟨a, s1⟩ := p; simp only [o1_some]; rw [w1_map]
theorem w_mx (big : Bool) (xs : List X) : @W1 (evO OO m (.mx big xs) s d) ⟨Q⟩ trivial ↔ @O1 _ (rxs xs s) ⟨fun p => match p.1 with | .i k m :: ds => @O1 _ (mxv big m ds k) ⟨fun r => Q (.v r) p.2 .no⟩ trivial | _ => False⟩ trivial := by
 simp only [evO]
 cases rxs xs s with
 | none => simp [w1_none, o1_none]
 | some p =>
  obtain ⟨ds, s1⟩ := p
  simp only [o1_some]
  cases ds with
  | nil => simp [w1_none]
  | cons d0 ds => cases d0 <;> simp only [w1_none]; rw [w1_map]
theorem w_ld (agg : Bool) (n : Nat) (md : M) (x : X) : @W1 (evO OO m (.ld agg n md x) s d) ⟨Q⟩ trivial ↔ @O1 _ (rx x s) ⟨fun p => @O1 _ (ldp p.2 agg n md p.1) ⟨fun r => Q r.1 r.2.1 r.2.2⟩ trivial⟩ trivial := by
 simp only [evO]
 cases rx x s with
 | none => simp [w1_none, o1_none]
 | some p => obtain ⟨a, s1⟩ := p; simp only [o1_some]; rw [w1_o1]
theorem w_lda (n : Nat) (x : X) : @W1 (evO OO m (.lda n x) s d) ⟨Q⟩ trivial ↔ @O1 _ (rx x s) ⟨fun p => @O1 _ (ldp p.2 false n (auM p.2 p.1) p.1) ⟨fun r => Q r.1 r.2.1 r.2.2⟩ trivial⟩ trivial := by
 simp only [evO]
 cases rx x s with
 | none => simp [w1_none, o1_none]
 | some p => obtain ⟨a, s1⟩ := p; simp only [o1_some]; rw [w1_o1]
theorem w_st (n : Nat) (x y : X) : @W1 (evO OO m (.st n x y) s d) ⟨Q⟩ trivial ↔ @O1 _ (rx x s) ⟨fun p => @O1 _ (rxv y p.2) ⟨fun q => stb q.1 = true ∧ @O1 _ (stp q.2 n p.1 q.1) ⟨fun r => Q (.v .u) r.1 r.2⟩ trivial⟩ trivial⟩ trivial := by
 simp only [evO]
 cases rx x s with
 | none => simp [w1_none, o1_none]
 | some p =>
  obtain ⟨a, s1⟩ := p
  simp only [o1_some]
  cases h2 : rxv y s1 with
  | none => simp [w1_none, o1_none, h2]
  | some q =>
   obtain ⟨b, s2⟩ := q
   simp only [o1_some, h2]
   by_cases hb : stb b = true
   ·rw [if_pos hb, w1_map]; simp [hb]
   ·rw [if_neg hb]; simp [w1_none, hb]
theorem w_pick (c a b : X) : @W1 (evO OO m (.pick c a b) s d) ⟨Q⟩ trivial ↔ @O1 _ (rxv c s) ⟨fun p => match p.1 with | .b t => if t = true then @O1 _ (rxv a p.2) ⟨fun q => Q (.v q.1) q.2 .no⟩ trivial else @O1 _ (rxv b p.2) ⟨fun q => Q (.v q.1) q.2 .no⟩ trivial | _ => False⟩ trivial := by
 simp only [evO]
 cases rxv c s with
 | none => simp [w1_none, o1_none]
 | some p =>
  obtain ⟨x, s1⟩ := p
  simp only [o1_some]
  cases x <;> simp only [w1_none]
  rename_i t
  cases t
  ·simp only [Bool.false_eq_true, if_false]; rw [w1_map]
  ·simp only [if_true]; rw [w1_map]
end
end Go.AM

namespace Go.AM
def BQ (t : Bool) [A : Pr] [B : Pr] (_ : True) : Prop := if t = true then A.p else B.p
theorem bq_i {t : Bool} {A B : Pr} (h : t = true → A.p) (k : t = false → B.p) : @BQ t A B trivial := by
 cases t
 ·exact k rfl
 ·exact h rfl
theorem bq_true (A B) : @BQ true ⟨A⟩ ⟨B⟩ trivial ↔ A := by simp [BQ]
theorem bq_false (A B) : @BQ false ⟨A⟩ ⟨B⟩ trivial ↔ B := by simp [BQ]
theorem cd_t (t A B) : @CdQ (some (.v (.b t))) ⟨A⟩ ⟨B⟩ trivial ↔ @BQ t ⟨A⟩ ⟨B⟩ trivial := Iff.rfl
theorem cd_u (A B) : @CdQ (some (.v .u)) ⟨A⟩ ⟨B⟩ trivial ↔ False := Iff.rfl
theorem gd_t (t A B) : @GdQ (some (.v (.b t))) true ⟨A⟩ ⟨B⟩ trivial ↔ @BQ t ⟨A⟩ ⟨B⟩ trivial := Iff.rfl
theorem gd_f (t A B) : @GdQ (some (.v (.b t))) false ⟨A⟩ ⟨B⟩ trivial ↔ @BQ t ⟨B⟩ ⟨A⟩ trivial := by cases t <;> simp [GdQ, BQ]
section
variable (OO : Or) (m : TypeId → String → Option FuncId) (s : St) (d : Option Nat) (Q : R → St → Ac → Prop)
theorem w_al (z : List D) (k : Nat) : @W1 (evO OO m (.al z) s (some k)) ⟨Q⟩ trivial ↔ Q (.q (.ptr k 0)) { s with ob := (k, z) :: s.ob, fr := forget (AM.Q.ofk k) s.fr } (.wk k) := by simp only [evO]; rw [w1_some]
theorem w_ag (z : List D) : @W1 (evO OO m (.ag z) s d) ⟨Q⟩ trivial ↔ Q (.v (.p s.sg.length 0)) { s with sg := s.sg ++ [z] } .ag := by simp only [evO]; rw [w1_some]
theorem w_bx (x : X) (k : Nat) : @W1 (evO OO m (.bx x) s (some k)) ⟨Q⟩ trivial ↔ @O1 _ (rxv x s) ⟨fun p => stb p.1 = true ∧ Q (.q (.ptr k 0)) { p.2 with ob := (k, p.1.cells) :: p.2.ob, fr := forget (AM.Q.ofk k) p.2.fr } (.wk k)⟩ trivial := by
 simp only [evO]
 cases rxv x s with
 | none => simp [w1_none, o1_none]
 | some p =>
  obtain ⟨a, s1⟩ := p
  simp only [o1_some]
  by_cases h : stb a = true
  ·rw [if_pos h, w1_some]; simp [h]
  ·rw [if_neg h, w1_none]; simp [h]
theorem w_bg (x : X) : @W1 (evO OO m (.bg x) s d) ⟨Q⟩ trivial ↔ @O1 _ (rxv x s) ⟨fun p => stb p.1 = true ∧ Q (.v (.p p.2.sg.length 0)) { p.2 with sg := p.2.sg ++ [p.1.cells] } .ag⟩ trivial := by
 simp only [evO]
 cases rxv x s with
 | none => simp [w1_none, o1_none]
 | some p =>
  obtain ⟨a, s1⟩ := p
  simp only [o1_some]
  by_cases h : stb a = true
  ·rw [if_pos h, w1_some]; simp [h]
  ·rw [if_neg h, w1_none]; simp [h]
theorem w_bd (z : List D) (ps : List (Nat × Nat × X)) : @W1 (evO OO m (.bd z ps) s d) ⟨Q⟩ trivial ↔ @O1 _ (rxs (ps.map (·.2.2)) s) ⟨fun p => stbs p.1 = true ∧ @O1 _ (fillc z ((ps.zip p.1).map fun (a, d) => (a.1, a.2.1, d))) ⟨fun cs => Q (.v (.a cs)) p.2 .no⟩ trivial⟩ trivial := by
 simp only [evO]
 cases rxs (ps.map (·.2.2)) s with
 | none => simp [w1_none, o1_none]
 | some p =>
  obtain ⟨a, s1⟩ := p
  simp only [o1_some]
  by_cases h : stbs a = true
  ·rw [if_pos h, w1_map]; simp [h]
  ·rw [if_neg h, w1_none]; simp [h]
theorem w_bs (sz n : Nat) (z : D) (ps : List (Nat × X)) : @W1 (evO OO m (.bs sz n z ps) s d) ⟨Q⟩ trivial ↔ @O1 _ (rxs (ps.map (·.2)) s) ⟨fun p => stbs p.1 = true ∧ @O1 _ (fille (List.replicate n z) sz ((ps.zip p.1).map fun (a, d) => (a.1, d))) ⟨fun xs => Q (.v (.l .x sz xs)) p.2 .no⟩ trivial⟩ trivial := by
 simp only [evO]
 cases rxs (ps.map (·.2)) s with
 | none => simp [w1_none, o1_none]
 | some p =>
  obtain ⟨a, s1⟩ := p
  simp only [o1_some]
  by_cases h : stbs a = true
  ·rw [if_pos h, w1_map]; simp [h]
  ·rw [if_neg h, w1_none]; simp [h]
theorem w_nc (x : X) : @W1 (evO OO m (.nc x) s d) ⟨Q⟩ trivial ↔ @O1 _ (rx x s) ⟨fun p => match p.1 with
    | .v (.p g o) => Q (.v (.p g o)) p.2 .no
    | .v (.q cs o) => Q (.v (.q cs o)) p.2 .no
    | .v (.ic t d) => Q (.v (.ic t d)) p.2 .no
    | .q (.ptr k o) => Q (.q (.ptr k o)) p.2 (.rl k 0 0)
    | .q (.el pl i o) => Q (.q (.el pl i o)) p.2 (AM.Q.ac (.el pl i o))
    | _ => False⟩ trivial := by
 simp only [evO]
 cases rx x s with
 | none => simp [w1_none, o1_none]
 | some p =>
  obtain ⟨a, s1⟩ := p
  simp only [o1_some]
  cases a with
  | v a => cases a <;> simp only [w1_none, w1_some]
  | q a => cases a <;> simp only [w1_none, w1_some, AM.Q.ac]
theorem w_fa (off : Nat) (x : X) : @W1 (evO OO m (.fa off x) s d) ⟨Q⟩ trivial ↔ @O1 _ (rx x s) ⟨fun p => @O1 _ (fav off p.1) ⟨fun r => Q r p.2 r.ac⟩ trivial⟩ trivial := by
 simp only [evO]
 cases rx x s with
 | none => simp [w1_none, o1_none]
 | some p => obtain ⟨a, s1⟩ := p; simp only [o1_some]; rw [w1_map]
theorem w_fd (agg : Bool) (off n : Nat) (x : X) : @W1 (evO OO m (.fd agg off n x) s d) ⟨Q⟩ trivial ↔ @O1 _ (rxv x s) ⟨fun p => match p.1 with | .a cs => @O1 _ (sub cs off n) ⟨fun ds => @O1 _ (ofc agg ds) ⟨fun r => Q (.v r) p.2 .no⟩ trivial⟩ trivial | _ => False⟩ trivial := by
 simp only [evO]
 cases rxv x s with
 | none => simp [w1_none, o1_none]
 | some p =>
  obtain ⟨a, s1⟩ := p
  simp only [o1_some]
  cases a <;> simp only [w1_none]
  rename_i cs
  cases sub cs off n with
  | none => simp [w1_none, o1_none]
  | some ds => simp only [o1_some]; rw [w1_map]
theorem w_mi (t : TypeId) (x : X) : @W1 (evO OO m (.mi t x) s d) ⟨Q⟩ trivial ↔ @O1 _ (rxv x s) ⟨fun p => @O1 _ p.1.cp ⟨fun r => Q (.v (.ic t r)) p.2 .no⟩ trivial⟩ trivial := by
 simp only [evO]
 cases rxv x s with
 | none => simp [w1_none, o1_none]
 | some p => obtain ⟨a, s1⟩ := p; simp only [o1_some]; rw [w1_map]
theorem w_mf (f : FuncId) (xs : List X) : @W1 (evO OO m (.mf f xs) s d) ⟨Q⟩ trivial ↔ @O1 _ (rxs xs s) ⟨fun p => @O1 _ (D.cps p.1) ⟨fun r => Q (.v (.fn f r)) p.2 .no⟩ trivial⟩ trivial := by
 simp only [evO]
 cases rxs xs s with
 | none => simp [w1_none, o1_none]
 | some p => obtain ⟨a, s1⟩ := p; simp only [o1_some]; rw [w1_map]
theorem w_callp (f : FuncId) (xs : List X) : @W1 (evO OO m (.callp f xs) s d) ⟨Q⟩ trivial ↔ @O1 _ (rxs xs s) ⟨fun p => @O1 _ (callpv OO f p.1) ⟨fun r => Q (.v r) p.2 .no⟩ trivial⟩ trivial := by
 simp only [evO]
 cases rxs xs s with
 | none => simp [w1_none, o1_none]
 | some p => obtain ⟨a, s1⟩ := p; simp only [o1_some]; rw [w1_map]
theorem w_eqa (neg : Bool) (cs : List Ec) (x y : X) : @W1 (evO OO m (.eqa neg cs x y) s d) ⟨Q⟩ trivial ↔ @O1 _ (rxv x s) ⟨fun p => @O1 _ (rxv y p.2) ⟨fun q => match p.1, q.1 with | .a ds, .a es => @O1 _ (eqs cs ds es) ⟨fun t => Q (.v (.b (if neg then !t else t))) q.2 .no⟩ trivial | _, _ => False⟩ trivial⟩ trivial := by
 simp only [evO]
 cases rxv x s with
 | none => simp [w1_none, o1_none]
 | some p =>
  obtain ⟨a, s1⟩ := p
  simp only [o1_some]
  cases h2 : rxv y s1 with
  | none => cases a <;> simp [w1_none, o1_none, h2]
  | some q =>
   obtain ⟨b, s2⟩ := q
   simp only [o1_some]
   cases a <;> simp only [h2, w1_none]
   cases b <;> simp only [w1_none]
   rw [w1_map]
theorem w_bits (x : X) : @W1 (evO OO m (.bits x) s d) ⟨Q⟩ trivial ↔ @O1 _ (rxv x s) ⟨fun p => match p.1 with | .f .f64 n => Q (.v (.i .u64 n)) p.2 .no | _ => False⟩ trivial := by
 simp only [evO]
 cases rxv x s with
 | none => simp [w1_none, o1_none]
 | some p =>
  obtain ⟨a, s1⟩ := p
  simp only [o1_some]
  cases a <;> (try simp only [w1_none])
  rename_i k n; cases k <;> simp only [w1_none, w1_some]
theorem w_frbits (x : X) : @W1 (evO OO m (.frbits x) s d) ⟨Q⟩ trivial ↔ @O1 _ (rxv x s) ⟨fun p => match p.1 with | .i .u64 n => 0 ≤ n ∧ Q (.v (.f .f64 n.toNat)) p.2 .no | _ => False⟩ trivial := by
 simp only [evO]
 cases rxv x s with
 | none => simp [w1_none, o1_none]
 | some p =>
  obtain ⟨a, s1⟩ := p
  simp only [o1_some]
  cases a <;> (try simp only [w1_none])
  rename_i k n; cases k <;> (try simp only [w1_none])
  by_cases h : 0 ≤ n
  ·rw [if_pos h, w1_some]; simp [h]
  ·rw [if_neg h, w1_none]; simp [h]
theorem w_ta (t : TypeId) (x : X) : @W1 (evO OO m (.ta t x) s d) ⟨Q⟩ trivial ↔ @O1 _ (rxv x s) ⟨fun p => match p.1 with | .ic t' e => t = t' ∧ Q (.v e) p.2 .no | _ => False⟩ trivial := by
 simp only [evO]
 cases rxv x s with
 | none => simp [w1_none, o1_none]
 | some p =>
  obtain ⟨a, s1⟩ := p
  simp only [o1_some]
  cases a <;> (try simp only [w1_none])
  rename_i t' e
  by_cases h : t = t'
  ·rw [if_pos h, w1_some]; simp [h]
  ·rw [if_neg h, w1_none]; simp [h]
theorem w_inv (nm : String) (x : X) (xs : List X) : @W1 (evO OO m (.inv nm x xs) s d) ⟨Q⟩ trivial ↔ @O1 _ (rxv x s) ⟨fun q => match q.1 with
    | .ic t v => @O1 _ (m t nm) ⟨fun f => @O1 _ (rxs xs q.2) ⟨fun p => @O1 _ (OO.call f (v :: p.1) p.2.sg p.2.sg.length) ⟨fun r => Q (.v r.1) { p.2 with sg := r.2.1, lo := min p.2.lo r.2.2, fr := forget AM.Q.gl p.2.fr } (.cl (D.beqs (r.2.1.map .t) (p.2.sg.map .t) && decide (p.2.lo ≤ r.2.2)))⟩ trivial⟩ trivial⟩ trivial
    | _ => False⟩ trivial := by
 simp only [evO]
 cases rxv x s with
 | none => simp [w1_none, o1_none]
 | some q =>
  obtain ⟨a, s1⟩ := q
  simp only [o1_some]
  cases a <;> (try simp only [w1_none])
  rename_i t v
  cases m t nm with
  | none => simp [w1_none, o1_none]
  | some f =>
   simp only [o1_some]
   cases rxs xs s1 with
   | none => simp [w1_none, o1_none]
   | some p =>
    obtain ⟨ds, s1⟩ := p
    simp only [o1_some]
    rw [w1_map]
end
theorem w_srt (OO : Or) (m : TypeId → String → Option FuncId) (s : St) (d : Option Nat) (Q : R → St → Ac → Prop) (f g : FuncId) (x : X) : @W1 (evO OO m (.srt f g x) s d) ⟨Q⟩ trivial ↔ @O1 _ (rx x s) ⟨fun p => @O1 _ (hpl p.1) ⟨fun q => @AtQ (p.2.at q.1) ⟨fun a => @O1 _ (OO.srt f g a.1 a.2) ⟨fun ys => ys.length = a.2.length ∧ Q (.v (.t [])) { p.2.setAt q.1 (.l .x a.1 ys) with lo := p.2.loAt (.l .z a.1 ys) q.1 } q.1.we⟩ trivial⟩ trivial⟩ trivial⟩ trivial := by
 constructor
 ·rintro ⟨r, t, ac, he, hq⟩
  simp only [evO] at he
  split at he
  ·rename_i r1 s1 h1
   split at he
   ·rename_i pl ac2 h2
    split at he
    ·rename_i sz xs h3
     split at he
     ·rename_i ys h4
      split at he
      ·rename_i h5
       cases he
       exact ⟨_, h1, _, h2, sz, xs, h3, ys, h4, h5, hq⟩
      ·cases he
     ·cases he
    ·cases he
   ·cases he
  ·cases he
 ·rintro ⟨⟨r1, s1⟩, h1, ⟨pl, ac2⟩, h2, sz, xs, h3, ys, h4, h5, hq⟩
  refine ⟨_, _, _, ?_, hq⟩
  simp only at h2 h3 h4 h5 ⊢
  simp only [evO, h1, h2, h3, h4, if_pos h5]
theorem hpl_hdr0 (k : Nat) : hpl (.q (.hdr k)) = some (.ob k 0, .rb k) := rfl
theorem hpl_hd0 (pl : Pl) : hpl (.q (.hd pl)) = some (pl, (AM.Q.hd pl).ac) := rfl
theorem w_pickb (OO : Or) (m : TypeId → String → Option FuncId) (s : St) (d : Option Nat) (Q : R → St → Ac → Prop) (c a b : X) : @W1 (evO OO m (.pick c a b) s d) ⟨Q⟩ trivial ↔ @O1 _ (rxv c s) ⟨fun p => match p.1 with | .b t => @BQ t ⟨@O1 _ (rxv a p.2) ⟨fun q => Q (.v q.1) q.2 .no⟩ trivial⟩ ⟨@O1 _ (rxv b p.2) ⟨fun q => Q (.v q.1) q.2 .no⟩ trivial⟩ trivial | _ => False⟩ trivial := w_pick OO m s d Q c a b
theorem fn_r (res n x s) : FnQ res n x (.r s) ↔ @O1 _ (resv res s) ⟨fun p => (if D.nr n (tup p.1) = true ∧ n ≤ p.2.lo then (tup p.1, p.2.sg.take n, p.2.lo) else (tup p.1, p.2.sg, p.2.lo)) = x⟩ trivial := by
 unfold FnQ fin
 simp only
 cases resv res s with
 | none => simp [O1]
 | some p =>
  obtain ⟨ds, s1⟩ := p
  simp only [O1, Option.some.injEq, exists_eq_left', Bool.and_eq_true, decide_eq_true_eq]
  split <;> simp
theorem fn_n (res n x s) : FnQ res n x (.n s) ↔ @O1 _ (resv res s) ⟨fun p => (if D.nr n (tup p.1) = true ∧ n ≤ p.2.lo then (tup p.1, p.2.sg.take n, p.2.lo) else (tup p.1, p.2.sg, p.2.lo)) = x⟩ trivial := fn_r res n x s
attribute [simp ↓] wc_skip wc_ret wc_exit wc_seq wc_blk wc_cond wc_reg wc_regd wg_nil wg_cons wo_nil wo_cons wo_guard wd_nil wd_cons wd_guard w_mv w_bin w_eq w_un w_cv w_ia w_sl w_ss w_ixs w_ixa w_app w_apps w_ms w_call w_callp w_callv w_ex w_len w_mx w_ld w_lda w_st w_pickb w_al w_ag w_bx w_bg w_bd w_bs w_nc w_fa w_fd w_mi w_mf w_eqa w_bits w_frbits w_ta w_inv w_srt
attribute [simp] w1_some w1_none cd_t gd_t gd_f gd_u cd_u bq_true bq_false sq_n sq_x sq_r bk_n bk_x bk_r o1_some o1_none o1_map o1_if_none o1_if o1_ite o1_iav_l bd_none bd_some o1_ssv o1_slv2 o1_slv3 rxo_none rxo_some o1_app_x o1_app_o o1_app_n at_some o1_iav_hd' o1_iav_hdr'
attribute [simp] hpl_hdr0 hpl_hd0 fzR look drp keep forget rx rxv rxs St.put evG D.cp D.cps binv bini unv cvv resv tup fn_r fn_n AM.Q.dead AM.Q.gl AM.Q.bor AM.Q.ofk ini mxv R.fo D.fo D.fos R.fz D.fz D.fzs D.zz D.zzs okA Ac.ok R.ac AM.Q.ac R.acE Pl.rb Pl.re Pl.we stb stbs D.cells fillc fille ovr sub ofc fav ldp auM stp St.at St.setAt St.loAt lenv elems slk beqs_self D.nr D.nrs eq1 eqs rec_
theorem wc_ind {α : Type} (st : α → St) (μ : α → Nat) (P : α → Prop) {B : C} {Q : Rs → Prop}
    (h : ∀ a, P a → (∀ b, μ b < μ a → P b → @WC (.loop B) (st b) ⟨Q⟩ trivial) → @WC B (st a) ⟨fun r => @SqQ (.loop B) ⟨Q⟩ r trivial⟩ trivial) : ∀ a, P a → @WC (.loop B) (st a) ⟨Q⟩ trivial := by
 have : ∀ n a, μ a < n → P a → @WC (.loop B) (st a) ⟨Q⟩ trivial := by
  intro n
  induction n with
  | zero => intro a ha; omega
  | succ n ih => intro a ha hp; exact wc_loop (h a hp (fun b hb hpb => ih b (by omega) hpb))
 exact fun a hp => this _ a (Nat.lt_succ_self _) hp
theorem wrap64 {x : Int} (h : -9223372036854775808 ≤ x ∧ x ≤ 9223372036854775807) : IntKind.i64.wrap x = x := by
 simp [IntKind.wrap, IntKind.signed, IntKind.bits]; omega
end Go.AM

namespace Go.AM
theorem max1 (k : Int) : (if k < 1 then 1 else k) = max k 1 := by split <;> omega
theorem wrap_u64 (n : Int) : IntKind.u64.wrap n = n % 18446744073709551616 := by simp [IntKind.wrap, IntKind.bits, IntKind.signed]
theorem wrapu64 {n : Int} (h : 0 ≤ n ∧ n < 18446744073709551616) : IntKind.u64.wrap n = n := by rw [wrap_u64]; omega
theorem u64k : ∀ n : Int, 0 ≤ n → n < 2 ^ 64 → IntKind.u64.wrap n = n := fun n h0 h1 => wrapu64 ⟨h0, by simpa using h1⟩
theorem u64_and (a b : Nat) (ha : a < 18446744073709551616) (hb : b < 18446744073709551616) : bits .and .u64 a b = ((a &&& b : Nat) : Int) := (bits_nat .u64 64 (by decide) u64k a b (by simpa using ha) (by simpa using hb)).1
theorem u64_or (a b : Nat) (ha : a < 18446744073709551616) (hb : b < 18446744073709551616) : bits .or .u64 a b = ((a ||| b : Nat) : Int) := (bits_nat .u64 64 (by decide) u64k a b (by simpa using ha) (by simpa using hb)).2
theorem u64_not (b : Nat) (hb : b < 18446744073709551616) : bits .xor .u64 18446744073709551615 b = ((18446744073709551615 - b : Nat) : Int) := by
 show IntKind.u64.wrap ((BitVec.ofInt 64 18446744073709551615 ^^^ BitVec.ofInt 64 (b : Int) : BitVec 64).toNat : Int) = _
 have e : BitVec.ofInt 64 18446744073709551615 = BitVec.allOnes 64 := by decide
 have e2 : BitVec.ofInt 64 (b : Int) = BitVec.ofNat 64 b := by simp
 rw [e, e2, BitVec.allOnes_xor, BitVec.toNat_not, BitVec.toNat_ofNat, Nat.mod_eq_of_lt (by simpa using hb), wrapu64]
 ·omega
theorem bit63 (i : Nat) : Nat.testBit 9223372036854775808 i = decide (63 = i) := by
 have h : Nat.testBit (2 ^ 63) i = decide (63 = i) := Nat.testBit_two_pow ..
 simpa using h
theorem and_sign (b : Nat) (hb : b < 18446744073709551616) : b &&& 9223372036854775808 = if 9223372036854775808 ≤ b then 9223372036854775808 else 0 := by
 apply Nat.eq_of_testBit_eq
 intro i
 rw [Nat.testBit_and, bit63]
 by_cases hi : 63 = i
 ·subst hi
  rw [Nat.testBit_eq_decide_div_mod_eq]
  split
  ·have : b / 2 ^ 63 = 1 := by omega
   simp [this, bit63]
  ·have : b / 2 ^ 63 = 0 := by omega
   simp [this]
 ·split <;> simp [hi, bit63]
theorem or_sign (b : Nat) (hb : b < 9223372036854775808) : b ||| 9223372036854775808 = b + 9223372036854775808 := by
 have := Nat.two_pow_add_eq_or_of_lt (i := 63) (b := b) (by simpa using hb) 1
 rw [Nat.or_comm, Nat.add_comm]
 simpa using this.symm
theorem wc_up {B : C} {Q : Rs → Prop} (n : Nat) (st : Nat → St) (P : Nat → Prop)
    (h : ∀ i, i < n → P i → (P (i + 1) → @WC (.loop B) (st (i + 1)) ⟨Q⟩ trivial) → @WC B (st i) ⟨fun r => @SqQ (.loop B) ⟨Q⟩ r trivial⟩ trivial)
    (he : P n → @WC B (st n) ⟨fun r => @SqQ (.loop B) ⟨Q⟩ r trivial⟩ trivial) : ∀ i, i ≤ n → P i → @WC (.loop B) (st i) ⟨Q⟩ trivial := by
 intro i hi hp
 refine wc_ind st (fun i => n - i) (fun i => i ≤ n ∧ P i) ?_ i ⟨hi, hp⟩
 rintro i ⟨h1, h2⟩ ih
 rcases Nat.lt_or_eq_of_le h1 with h3 | h3
 ·exact h i h3 h2 (fun hp => ih (i + 1) (by omega) ⟨by omega, hp⟩)
 ·subst h3; exact he h2
theorem wc_list {α β : Type} {B : C} {Q : Rs → Prop} (l : List α) (st : Nat → β → St) (P : List α → β → Prop)
    (h : ∀ i x r b, l[i]? = some x → i < l.length → P (x :: r) b → (∀ b', P r b' → @WC (.loop B) (st (i + 1) b') ⟨Q⟩ trivial) → @WC B (st i b) ⟨fun r => @SqQ (.loop B) ⟨Q⟩ r trivial⟩ trivial)
    (he : ∀ b, P [] b → @WC B (st l.length b) ⟨fun r => @SqQ (.loop B) ⟨Q⟩ r trivial⟩ trivial) : ∀ b, P l b → @WC (.loop B) (st 0 b) ⟨Q⟩ trivial := by
 intro b hb
 refine wc_ind (fun a : Nat × β => st a.1 a.2) (fun a => l.length - a.1) (fun a => a.1 ≤ l.length ∧ P (l.drop a.1) a.2) ?_ (0, b) ⟨by simp, by simpa using hb⟩
 rintro ⟨i, b⟩ ⟨h1, h2⟩ ih
 simp only at h1 h2 ih ⊢
 rcases Nat.lt_or_eq_of_le h1 with h3 | h3
 ·rw [List.drop_eq_getElem_cons h3] at h2
  exact h i l[i] _ b (List.getElem?_eq_getElem h3) h3 h2 (fun b' hb' => ih (i + 1, b') (by simp; omega) ⟨h3, hb'⟩)
 ·subst h3; rw [List.drop_length] at h2; exact he b h2
theorem mem_of_get {α : Type} {l : List α} {i : Nat} {x : α} (h : l[i]? = some x) : x ∈ l := List.mem_of_getElem? h
theorem order_self (b : Nat) (hb : b < 18446744073709551616) : FloatKind.f64.format.order b b = if b % 9223372036854775808 > 9218868437227405312 then none else some .eq := by
 have hs : FloatKind.f64.format.signWeight = 9223372036854775808 := by decide
 have hi : FloatKind.f64.format.infRung = 9218868437227405312 := by decide
 unfold Ieee.Format.order Ieee.Format.read
 simp only [hs, hi]
 by_cases h1 : b % 9223372036854775808 < FloatKind.f64.format.binade
 ·have : FloatKind.f64.format.binade ≤ 9218868437227405312 := by decide
  simp only [h1, if_true, Ieee.Datum.order]
  rw [if_neg (by omega)]; simp
 ·simp only [h1, if_false]
  by_cases h2 : b % 9223372036854775808 < 9218868437227405312
  ·simp only [h2, if_true, Ieee.Datum.order]
   rw [if_neg (by omega)]; simp
  ·simp only [h2, if_false]
   by_cases h3 : b % 9223372036854775808 = 9218868437227405312
   ·simp only [h3, if_true, Ieee.Datum.order]
    simp
   ·simp only [h3, if_false, Ieee.Datum.order]
    rw [if_pos (by omega)]
end Go.AM

namespace Go.AM
def canon (b : Nat) : Nat := if b % 9223372036854775808 > 9218868437227405312 then 9221120237041090560 else b
def keyC (b : Nat) : Nat := if 9223372036854775808 ≤ b then 18446744073709551615 - b else b + 9223372036854775808
def key (b : Nat) : Nat := keyC (canon b)
theorem canon_lt {b : Nat} (h : b < 18446744073709551616) : canon b < 18446744073709551616 := by unfold canon; split <;> omega
theorem canon_canon (b : Nat) : canon (canon b) = canon b := by unfold canon; split <;> simp_all
theorem keyC_inj {a b : Nat} (ha : a < 18446744073709551616) (hb : b < 18446744073709551616) (h : keyC a = keyC b) : a = b := by
 unfold keyC at h; split at h <;> split at h <;> omega
def cmpN (a b : Nat) : Int := if a < b then -1 else if a > b then 1 else 0
theorem canon_nan {b : Nat} (h : 9218868437227405312 < b % 9223372036854775808) : canon b = 9221120237041090560 := if_pos h
theorem canon_num {b : Nat} (h : b % 9223372036854775808 ≤ 9218868437227405312) : canon b = b := if_neg (by omega)
theorem c_real_Canon (b : Nat) (hb : b < 18446744073709551616) (sg) : LL.call n_real_Canon [.f .f64 b] sg sg.length = some (.f .f64 (canon b), sg, sg.length) := by
 refine wp_call e_real_Canon rfl ?_
 simp [F_real_Canon, binf, order_self b hb]
 refine bq_i (fun h => ?_) (fun h => ?_) <;> simp at h
 ·simp [canon_nan h]
 ·simp [canon_num h]
theorem c_real_Key (b : Nat) (hb : b < 18446744073709551616) (sg) : LL.call n_real_Key [.f .f64 b] sg sg.length = some (.i .u64 (key b), sg, sg.length) := by
 refine wp_call e_real_Key rfl ?_
 have hc := canon_lt hb
 have e1 := u64_and (canon b) 9223372036854775808 hc (by omega)
 have e2 := u64_or (canon b) 9223372036854775808 hc (by omega)
 have e3 := u64_not (canon b) hc
 rw [and_sign _ hc] at e1
 simp at e1 e2
 by_cases h : 9223372036854775808 ≤ canon b
 ·rw [if_pos h] at e1
  simp [F_real_Key, c_real_Canon b hb, e1, IntKind.signed, IntKind.max, IntKind.bits, e3, key, keyC, h]
 ·rw [if_neg h] at e1
  rw [or_sign _ (by omega)] at e2
  simp [F_real_Key, c_real_Canon b hb, e1, e2, key, keyC, h]
theorem c_real_Cmp (a b : Nat) (ha : a < 18446744073709551616) (hb : b < 18446744073709551616) (sg) : LL.call n_real_Cmp [.f .f64 a, .f .f64 b] sg sg.length = some (.i .i64 (cmpN (key a) (key b)), sg, sg.length) := by
 refine wp_call e_real_Cmp rfl ?_
 simp [F_real_Cmp, c_real_Key a ha, c_real_Key b hb]
 repeat' (refine bq_i (fun h => ?_) (fun h => ?_) <;> (have h' := h) <;> (try simp at h') <;> simp [h, h'])
 all_goals (simp [cmpN, *] <;> omega)
theorem c_law03_F (b : Nat) (sg) : LL.call n_c_law03_F [.i .u64 b] sg sg.length = some (.f .f64 b, sg, sg.length) := by
 refine wp_call e_c_law03_F rfl ?_
 simp [F_c_law03_F]
end Go.AM

namespace Go.AM
class Flat {α : Type} (e : α → D) : Prop where
 fz : ∀ x, D.fz (e x) = e x
 zz : ∀ x, D.zz (e x) = e x
 nr : ∀ n x, D.nr n (e x) = true
theorem fzs_flat {α : Type} (e : α → D) [h : Flat e] : ∀ l : List α, D.fzs (l.map e) = l.map e
 | [] => rfl
 | x :: l => by simp only [List.map_cons, D.fzs, h.fz, fzs_flat e l]
theorem zzs_flat {α : Type} (e : α → D) [h : Flat e] : ∀ l : List α, D.zzs (l.map e) = l.map e
 | [] => rfl
 | x :: l => by simp only [List.map_cons, D.zzs, h.zz, zzs_flat e l]
theorem nrs_flat {α : Type} (e : α → D) [h : Flat e] (n : Nat) : ∀ l : List α, D.nrs n (l.map e) = true
 | [] => rfl
 | x :: l => by simp only [List.map_cons, D.nrs, h.nr, nrs_flat e n l, Bool.and_self]
attribute [simp] fzs_flat zzs_flat nrs_flat
theorem fzs_app : ∀ xs ys : List D, D.fzs (xs ++ ys) = D.fzs xs ++ D.fzs ys
 | [], ys => rfl
 | x :: xs, ys => by simp [D.fzs, fzs_app xs ys]
theorem zzs_app : ∀ xs ys : List D, D.zzs (xs ++ ys) = D.zzs xs ++ D.zzs ys
 | [], ys => rfl
 | x :: xs, ys => by simp [D.zzs, zzs_app xs ys]
theorem nrs_app (n : Nat) : ∀ xs ys : List D, D.nrs n (xs ++ ys) = (D.nrs n xs && D.nrs n ys)
 | [], ys => by simp [D.nrs]
 | x :: xs, ys => by simp [D.nrs, nrs_app n xs ys, Bool.and_assoc]
theorem fzs_take : ∀ (n : Nat) (xs : List D), D.fzs (xs.take n) = (D.fzs xs).take n
 | 0, _ => rfl
 | n + 1, [] => rfl
 | n + 1, x :: xs => by simp [D.fzs, fzs_take n xs]
theorem fzs_drop : ∀ (n : Nat) (xs : List D), D.fzs (xs.drop n) = (D.fzs xs).drop n
 | 0, _ => rfl
 | n + 1, [] => rfl
 | n + 1, x :: xs => by simp [D.fzs, fzs_drop n xs]
theorem zzs_take : ∀ (n : Nat) (xs : List D), D.zzs (xs.take n) = (D.zzs xs).take n
 | 0, _ => rfl
 | n + 1, [] => rfl
 | n + 1, x :: xs => by simp [D.zzs, zzs_take n xs]
theorem zzs_drop : ∀ (n : Nat) (xs : List D), D.zzs (xs.drop n) = (D.zzs xs).drop n
 | 0, _ => rfl
 | n + 1, [] => rfl
 | n + 1, x :: xs => by simp [D.zzs, zzs_drop n xs]
theorem fzs_set : ∀ (n : Nat) (d : D) (xs : List D), D.fzs (xs.set n d) = (D.fzs xs).set n d.fz
 | 0, d, [] => rfl
 | 0, d, x :: xs => rfl
 | n + 1, d, [] => rfl
 | n + 1, d, x :: xs => by simp [D.fzs, fzs_set n d xs]
theorem zzs_set : ∀ (n : Nat) (d : D) (xs : List D), D.zzs (xs.set n d) = (D.zzs xs).set n d.zz
 | 0, d, [] => rfl
 | 0, d, x :: xs => rfl
 | n + 1, d, [] => rfl
 | n + 1, d, x :: xs => by simp [D.zzs, zzs_set n d xs]
attribute [simp] fzs_set zzs_set
attribute [simp] fzs_app zzs_app nrs_app fzs_take fzs_drop zzs_take zzs_drop
instance (k : IntKind) : Flat (D.i k) := ⟨fun _ => rfl, fun _ => rfl, fun _ _ => rfl⟩
instance : Flat D.s := ⟨fun _ => rfl, fun _ => rfl, fun _ _ => rfl⟩
instance : Flat D.b := ⟨fun _ => rfl, fun _ => rfl, fun _ _ => rfl⟩
def eL {α : Type} (sz : Nat) (e : α → D) (l : List α) : D := .l .z sz (l.map e)
instance {α : Type} (sz : Nat) (e : α → D) [h : Flat e] : Flat (eL sz e) := ⟨fun _ => rfl, fun l => by simp [eL], fun n l => by simp [eL]⟩
structure It where
 p : Nat
 v : Int
 deriving DecidableEq, Inhabited
def It.ok (x : It) : Prop := x.p < 18446744073709551616 ∧ -9223372036854775808 ≤ x.v ∧ x.v ≤ 9223372036854775807
def It.canon (x : It) : It := ⟨AM.canon x.p, x.v⟩
def eI (x : It) : D := .a [.f .f64 x.p, .i .i64 x.v]
def eR (x : It) : D := .a [.i .u64 x.p, .i .i64 x.v]
instance : Flat eI := ⟨fun _ => rfl, fun _ => rfl, fun _ _ => rfl⟩
instance : Flat eR := ⟨fun _ => rfl, fun _ => rfl, fun _ _ => rfl⟩
attribute [simp] eI eR
def cmpV (a b : Int) : Int := if a < b then -1 else if a > b then 1 else 0
def cmpI (x y : It) : Int := if cmpN (key x.p) (key y.p) ≠ 0 then cmpN (key x.p) (key y.p) else cmpV x.v y.v
theorem c_pile_Item_Canon (x : It) (h : x.ok) (sg) : LL.call n_pile_Item_Canon [eI x] sg sg.length = some (eI x.canon, sg, sg.length) := by
 refine wp_call e_pile_Item_Canon rfl ?_
 simp [F_pile_Item_Canon, c_real_Canon x.p h.1, It.canon]
theorem c_pile_Item_Cmp (x y : It) (hx : x.ok) (hy : y.ok) (sg) : LL.call n_pile_Item_Cmp [eI x, eI y] sg sg.length = some (.i .i64 (cmpI x y), sg, sg.length) := by
 refine wp_call e_pile_Item_Cmp rfl ?_
 simp [F_pile_Item_Cmp, c_real_Cmp x.p y.p hx.1 hy.1]
 repeat' (refine bq_i (fun h => ?_) (fun h => ?_) <;> (have h' := h) <;> (try simp at h') <;> simp [h, h'])
 all_goals simp [cmpI, cmpV, *]
 all_goals omega
theorem c_law04_Own (x : It) (sg) : LL.call n_c_law04_Own [eR x] sg sg.length = some (eI x, sg, sg.length) := by
 refine wp_call e_c_law04_Own rfl ?_
 simp [F_c_law04_Own, c_law03_F]
end Go.AM

namespace Go.AM
def hp (h : List It) : List D := [.l .x 2 (h.map eI)]
def swp (h : List It) (i j : Nat) : List It := (h.set i h[j]!).set j h[i]!
theorem c_items_Len {g : Nat} {h : List It} {sg : List (List D)} (hg : sg[g]? = some (hp h)) : LL.call n_pile_items_Len_q [.p g 0] sg sg.length = some (.i .i64 h.length, sg, sg.length) := by
 refine wp_callq (d0 := .l .x 2 (h.map eI)) e_pile_items_Len_q rfl hg rfl ?_
 simp [F_pile_items_Len_q, hg, hp, St.at, lenv]
theorem c_items_Less {g : Nat} {h : List It} {sg : List (List D)} (hg : sg[g]? = some (hp h)) (i j : Nat) (hi : i < h.length) (hj : j < h.length) (h1 : h[i].ok) (h2 : h[j].ok) :
    LL.call n_pile_items_Less_q [.p g 0, .i .i64 i, .i .i64 j] sg sg.length = some (.b (decide (cmpI h[i] h[j] < 0)), sg, sg.length) := by
 refine wp_callq (d0 := .l .x 2 (h.map eI)) e_pile_items_Less_q rfl hg rfl ?_
 have e := c_pile_Item_Cmp h[i] h[j] h1 h2 sg
 simp at e
 simp [F_pile_items_Less_q, hg, hp, St.at, hi, hj, e]
theorem c_items_Swap {g : Nat} {h : List It} {sg : List (List D)} (hg : sg[g]? = some (hp h)) (i j : Nat) (hi : i < h.length) (hj : j < h.length) :
    LL.call n_pile_items_Swap_q [.p g 0, .i .i64 i, .i .i64 j] sg sg.length = some (.t [], sg.set g (hp (swp h i j)), sg.length) := by
 refine wp_callq (d0 := .l .x 2 (h.map eI)) e_pile_items_Swap_q rfl hg rfl ?_
 have hlt : g < sg.length := by rw [List.getElem?_eq_some_iff] at hg; exact hg.1
 have hg2 : sg[g] = hp h := by rw [List.getElem?_eq_some_iff] at hg; exact hg.2
 have s3 : ((h.map eI).set i (.a [.f .f64 h[j].p, .i .i64 h[j].v]))[j]'(by simpa using hj) = .a [.f .f64 h[j].p, .i .i64 h[j].v] := by rw [List.getElem_set]; split <;> simp
 simp [F_pile_items_Swap_q, hg, s3, hg2, hp, St.at, hi, hj, hlt, swp, List.getElem?_set, St.setAt]
 rw [List.take_of_length_le (by simp)]
theorem m_Len : EE.meth t_pile_items_u "Len" = some n_pile_items_Len_q := by kernel_rfl
theorem m_Less : EE.meth t_pile_items_u "Less" = some n_pile_items_Less_q := by kernel_rfl
theorem m_Swap : EE.meth t_pile_items_u "Swap" = some n_pile_items_Swap_q := by kernel_rfl
theorem m_Pop : EE.meth t_pile_items_u "Pop" = some n_pile_items_Pop := by kernel_rfl
attribute [simp] m_Len m_Less m_Swap m_Pop
def dn (h : List It) (i n : Nat) : List It × Nat :=
 if hlt : 2 * i + 1 < n then
  if 2 * i + 2 < n ∧ cmpI h[2 * i + 2]! h[2 * i + 1]! < 0 then
   if cmpI h[2 * i + 2]! h[i]! < 0 then dn (swp h i (2 * i + 2)) (2 * i + 2) n else (h, i)
  else
   if cmpI h[2 * i + 1]! h[i]! < 0 then dn (swp h i (2 * i + 1)) (2 * i + 1) n else (h, i)
 else (h, i)
termination_by n - i
theorem swp_len (h : List It) (i j : Nat) : (swp h i j).length = h.length := by simp [swp]
theorem swp_mem {h : List It} {i j : Nat} (hi : i < h.length) (hj : j < h.length) {x : It} (hx : x ∈ swp h i j) : x ∈ h := by
 unfold swp at hx
 rcases List.mem_or_eq_of_mem_set hx with hx | rfl
 ·rcases List.mem_or_eq_of_mem_set hx with hx | rfl
  ·exact hx
  ·rw [getElem!_pos h j hj]; exact List.getElem_mem hj
 ·rw [getElem!_pos h i hi]; exact List.getElem_mem hi
theorem heap_down {g : Nat} {h : List It} {sg : List (List D)} (hg : g < sg.length) (i n : Nat) (hn : n ≤ h.length) (hi : i < 1000000000000) (hl : h.length < 1000000000000) (hok : ∀ x ∈ h, x.ok) :
    LL.call n_container_heap_down [.ic t_pile_items_u (.p g 0), .i .i64 i, .i .i64 n] (sg.set g (hp h)) (sg.set g (hp h)).length = some (.b (decide ((dn h i n).2 > i)), sg.set g (hp (dn h i n).1), (sg.set g (hp h)).length) := by
 generalize hr : dn h i n = r
 refine wp_call e_container_heap_down rfl ?_
 simp [F_container_heap_down]
 refine wc_ind (fun a : List It × Nat => ⟨[(0, .v (.ic t_pile_items_u (.p g 0))), (1, .v (.i .i64 i)), (2, .v (.i .i64 n)), (7, .v (.i .i64 a.2))], [], sg.set g (hp a.1), sg.length⟩) (fun a => n - a.2) (fun a => dn a.1 a.2 n = r ∧ a.1.length = h.length ∧ (∀ x ∈ a.1, x.ok) ∧ a.2 < 1000000000000) ?_ (h, i) ⟨hr, rfl, hok, hi⟩
 rintro ⟨h', i'⟩ ⟨p1, p2, p3, p4⟩ ih
 simp only at p1 p2 p3 p4 ih
 obtain ⟨q, hq⟩ : ∃ q, q = 2 * i' + 1 := ⟨_, rfl⟩
 obtain ⟨q1, hq1⟩ : ∃ q, q = 2 * i' + 2 := ⟨_, rfl⟩
 have w1 : IntKind.i64.wrap (IntKind.i64.wrap (2 * i') + 1) = (q : Int) := by
  have w0 : IntKind.i64.wrap (2 * (i' : Int)) = 2 * i' := wrap64 (by omega)
  rw [w0, wrap64 (by omega)]; omega
 have w2 : IntKind.i64.wrap ((q : Int) + 1) = (q1 : Int) := by rw [wrap64 (by omega)]; omega
 have hge : (sg.set g (hp h'))[g]? = some (hp h') := by simp [hg]
 simp [w1]
 have hi' : ∀ x ∈ h', x.ok := p3
 have gok : ∀ k (hk : k < h'.length), h'[k].ok := fun k hk => p3 _ (List.getElem_mem hk)
 refine bq_i (fun c1 => ?_) (fun c1 => ?_) <;> (have c1' := c1) <;> simp at c1'
 ·rw [dn, dif_neg (by omega)] at p1
  subst p1
  simp [c1]
  exact List.take_of_length_le (by simp)
 ·have hq2 : q < h'.length := by omega
  have hi2 : i' < h'.length := by omega
  simp [c1]
  refine bq_i (fun c2 => ?_) (fun c2 => ?_) <;> (have c2' := c2) <;> simp at c2'
  ·omega
  rw [dn, dif_pos (by omega), ← hq1, ← hq] at p1
  simp [c2, w2]
  refine bq_i (fun c3 => ?_) (fun c3 => ?_) <;> (have c3' := c3) <;> simp at c3'
  ·have hq3 : q1 < h'.length := by omega
   have L1 := c_items_Less hge q1 q hq3 hq2 (gok _ hq3) (gok _ hq2)
   simp at L1
   simp [c3, L1]
   refine bq_i (fun c4 => ?_) (fun c4 => ?_) <;> (have c4' := c4) <;> simp at c4'
   ·have L2 := c_items_Less hge q1 i' hq3 hi2 (gok _ hq3) (gok _ hi2)
    have S1 := c_items_Swap hge i' q1 hi2 hq3
    simp at L2 S1
    rw [if_pos ⟨by omega, by rw [getElem!_pos h' q1 hq3, getElem!_pos h' q hq2]; exact c4'⟩, getElem!_pos h' q1 hq3, getElem!_pos h' i' hi2] at p1
    simp [c4, L2]
    refine bq_i (fun c5 => ?_) (fun c5 => ?_) <;> (have c5' := c5) <;> simp at c5'
    ·rw [if_neg (by omega)] at p1
     subst p1
     simp [c5]
     exact List.take_of_length_le (by simp)
    ·rw [if_pos (by omega)] at p1
     simp [c5, S1]
     have := ih (swp h' i' q1, q1) (by simp; omega) ⟨p1, by rw [swp_len]; exact p2, fun x hx => p3 x (swp_mem hi2 hq3 hx), by simp; omega⟩
     simpa using this
   ·have L2 := c_items_Less hge q i' hq2 hi2 (gok _ hq2) (gok _ hi2)
    have S1 := c_items_Swap hge i' q hi2 hq2
    simp at L2 S1
    rw [if_neg (by rw [getElem!_pos h' q1 hq3, getElem!_pos h' q hq2]; omega), getElem!_pos h' q hq2, getElem!_pos h' i' hi2] at p1
    simp [c4, L2]
    refine bq_i (fun c5 => ?_) (fun c5 => ?_) <;> (have c5' := c5) <;> simp at c5'
    ·rw [if_neg (by omega)] at p1
     subst p1
     simp [c5]
     exact List.take_of_length_le (by simp)
    ·rw [if_pos (by omega)] at p1
     simp [c5, S1]
     have := ih (swp h' i' q, q) (by simp; omega) ⟨p1, by rw [swp_len]; exact p2, fun x hx => p3 x (swp_mem hi2 hq2 hx), by simp; omega⟩
     simpa using this
  ·have L1 := c_items_Less hge q i' hq2 hi2 (gok _ hq2) (gok _ hi2)
   have S1 := c_items_Swap hge i' q hi2 hq2
   simp at L1 S1
   rw [if_neg (by omega), getElem!_pos h' q hq2, getElem!_pos h' i' hi2] at p1
   simp [c3, L1]
   refine bq_i (fun c5 => ?_) (fun c5 => ?_) <;> (have c5' := c5) <;> simp at c5'
   ·rw [if_neg (by omega)] at p1
    subst p1
    simp [c5]
    exact List.take_of_length_le (by simp)
   ·rw [if_pos (by omega)] at p1
    simp [c5, S1]
    have := ih (swp h' i' q, q) (by simp; omega) ⟨p1, by rw [swp_len]; exact p2, fun x hx => p3 x (swp_mem hi2 hq2 hx), by simp; omega⟩
    simpa using this
end Go.AM

namespace Go.AM
theorem swp_perm {h : List It} {i j : Nat} (hi : i < h.length) (hj : j < h.length) : (swp h i j).Perm h := by
 unfold swp
 rw [getElem!_pos h i hi, getElem!_pos h j hj]
 exact List.set_set_perm hi hj
theorem dn_perm : ∀ (h : List It) (i n : Nat), n ≤ h.length → (dn h i n).1.Perm h := by
 intro h i n hn
 fun_induction dn h i n with
 | case1 h i h1 h2 h3 ih => exact (ih (by rw [swp_len]; exact hn)).trans (swp_perm (by omega) (by omega))
 | case2 h i h1 h2 h3 => exact .refl _
 | case3 h i h1 h2 h3 ih => exact (ih (by rw [swp_len]; exact hn)).trans (swp_perm (by omega) (by omega))
 | case4 h i h1 h2 h3 => exact .refl _
 | case5 h i h1 => exact .refl _
theorem dn_len (h : List It) (i n : Nat) (hn : n ≤ h.length) : (dn h i n).1.length = h.length := (dn_perm h i n hn).length_eq
def hini (h : List It) : Nat → List It
 | 0 => h
 | k + 1 => hini (dn h k h.length).1 k
theorem hini_perm : ∀ (k : Nat) (h : List It), (hini h k).Perm h
 | 0, h => .refl _
 | k + 1, h => (hini_perm k _).trans (dn_perm h k h.length (Nat.le_refl _))
theorem heap_Init {g : Nat} {h : List It} {sg : List (List D)} (hg : g < sg.length) (hl : h.length < 1000000000000) (hok : ∀ x ∈ h, x.ok) :
    LL.call n_container_heap_Init [.ic t_pile_items_u (.p g 0)] (sg.set g (hp h)) (sg.set g (hp h)).length = some (.t [], sg.set g (hp (hini h (h.length / 2))), (sg.set g (hp h)).length) := by
 generalize hr : hini h (h.length / 2) = r
 refine wp_call e_container_heap_Init rfl ?_
 have hge : (sg.set g (hp h))[g]? = some (hp h) := by simp [hg]
 have L0 := c_items_Len hge
 simp at L0
 have w1 : IntKind.i64.wrap (IntKind.i64.wrap ((h.length : Int) / 2) - 1) = ((h.length / 2 : Nat) : Int) - 1 := by
  rw [wrap64 (x := (h.length : Int) / 2) (by omega), wrap64 (by omega)]; omega
 simp [F_container_heap_Init, L0, w1]
 refine wc_ind (fun a : List It × Nat => ⟨[(0, .v (.ic t_pile_items_u (.p g 0))), (2, .v (.i .i64 h.length)), (3, .v (.i .i64 (a.2 - 1)))], [], sg.set g (hp a.1), sg.length⟩) (fun a => a.2) (fun a => hini a.1 a.2 = r ∧ a.1.length = h.length ∧ (∀ x ∈ a.1, x.ok) ∧ a.2 ≤ h.length) ?_ (h, h.length / 2) ⟨hr, rfl, hok, by simp; omega⟩
 rintro ⟨h', k⟩ ⟨p1, p2, p3, p4⟩ ih
 simp only at p1 p2 p3 p4 ih
 simp
 cases k with
 | zero =>
  subst p1
  refine bq_i (fun c1 => ?_) (fun c1 => ?_) <;> (have c1' := c1) <;> simp at c1'
  simp [c1, hini]
  exact List.take_of_length_le (by simp)
 | succ k =>
  have w2 : ((k + 1 : Nat) : Int) - 1 = k := by omega
  have w3 : IntKind.i64.wrap ((k : Int) - 1) = k - 1 := wrap64 (by omega)
  refine bq_i (fun c1 => ?_) (fun c1 => ?_) <;> (have c1' := c1) <;> simp at c1'
  ·have D1 := heap_down hg k h.length (by omega) (by omega) (by omega) p3
   simp at D1
   simp [c1, w2, D1, w3]
   rw [hini, p2] at p1
   have := ih ((dn h' k h.length).1, k) (by simp) ⟨p1, by rw [dn_len _ _ _ (by omega)]; exact p2, fun x hx => p3 x ((dn_perm _ _ _ (by omega)).mem_iff.1 hx), by simp; omega⟩
   simpa using this
  ·omega
def popH (h : List It) : It × List It := ((dn (swp h 0 (h.length - 1)) 0 (h.length - 1)).1[h.length - 1]!, (dn (swp h 0 (h.length - 1)) 0 (h.length - 1)).1.take (h.length - 1))
theorem items_Pop {g : Nat} {h : List It} {sg : List (List D)} (hg : g < sg.length) (h0 : h ≠ []) (hl : h.length < 1000000000000) :
    LL.call n_pile_items_Pop [.p g 0] (sg.set g (hp h)) (sg.set g (hp h)).length = some (.ic t_pile_Item (eI h[h.length - 1]!), sg.set g (hp (h.take (h.length - 1))), (sg.set g (hp h)).length) := by
 have hpos : 0 < h.length := List.length_pos_iff.2 h0
 have hn : ((h.length : Int) - 1) = ((h.length - 1 : Nat) : Int) := by omega
 have w1 : IntKind.i64.wrap ((h.length : Int) - 1) = ((h.length - 1 : Nat) : Int) := by rw [wrap64 (by omega)]; omega
 have hlt : h.length - 1 < h.length := by omega
 refine wp_call e_pile_items_Pop rfl ?_
 have hnr : D.nrs 0 ((h.map eI).take (h.length - 1)) = true := by rw [← List.map_take]; exact nrs_flat eI 0 _
 simp [F_pile_items_Pop, hg, hp, w1, St.at, hlt, h0, hnr]
 exact List.take_of_length_le (by simp)
theorem heap_Pop {g : Nat} {h : List It} {sg : List (List D)} (hg : g < sg.length) (h0 : h ≠ []) (hl : h.length < 1000000000000) (hok : ∀ x ∈ h, x.ok) :
    LL.call n_container_heap_Pop [.ic t_pile_items_u (.p g 0)] (sg.set g (hp h)) (sg.set g (hp h)).length = some (.ic t_pile_Item (eI (popH h).1), sg.set g (hp (popH h).2), (sg.set g (hp h)).length) := by
 have hpos : 0 < h.length := List.length_pos_iff.2 h0
 have w1 : IntKind.i64.wrap ((h.length : Int) - 1) = ((h.length - 1 : Nat) : Int) := by rw [wrap64 (by omega)]; omega
 have hge : (sg.set g (hp h))[g]? = some (hp h) := by simp [hg]
 have L0 := c_items_Len hge
 have S1 := c_items_Swap hge 0 (h.length - 1) hpos (by omega)
 have D1 := heap_down (h := swp h 0 (h.length - 1)) hg 0 (h.length - 1) (by rw [swp_len]; omega) (by omega) (by rw [swp_len]; exact hl) (fun x hx => hok x (swp_mem hpos (by omega) hx))
 have hlen : (dn (swp h 0 (h.length - 1)) 0 (h.length - 1)).1.length = h.length := by rw [dn_len _ _ _ (by rw [swp_len]; omega), swp_len]
 have P1 := items_Pop (h := (dn (swp h 0 (h.length - 1)) 0 (h.length - 1)).1) hg (by rw [← List.length_pos_iff, hlen]; exact hpos) (by omega)
 rw [hlen] at P1
 refine wp_call e_container_heap_Pop rfl ?_
 simp at L0 S1 D1 P1
 simp [F_container_heap_Pop, L0, w1, S1, D1, P1, popH]
 exact List.take_of_length_le (by simp)
theorem popH_perm {h : List It} (h0 : h ≠ []) : ((popH h).1 :: (popH h).2).Perm h := by
 have hpos : 0 < h.length := List.length_pos_iff.2 h0
 have hlen : (dn (swp h 0 (h.length - 1)) 0 (h.length - 1)).1.length = h.length := by rw [dn_len _ _ _ (by rw [swp_len]; omega), swp_len]
 have e : (popH h).2 ++ [(popH h).1] = (dn (swp h 0 (h.length - 1)) 0 (h.length - 1)).1 := by
  unfold popH
  simp only
  rw [getElem!_pos _ _ (by omega)]
  conv => rhs; rw [← List.take_append_drop (h.length - 1) (dn (swp h 0 (h.length - 1)) 0 (h.length - 1)).1]
  rw [List.drop_eq_getElem_cons (by omega), List.drop_eq_nil_of_le (by omega)]
 have p1 : ((popH h).1 :: (popH h).2).Perm ((popH h).2 ++ [(popH h).1]) := (List.perm_append_singleton _ _).symm
 rw [e] at p1
 exact p1.trans ((dn_perm _ _ _ (by rw [swp_len]; omega)).trans (swp_perm hpos (by omega)))
theorem popH_len {h : List It} (h0 : h ≠ []) : (popH h).2.length = h.length - 1 := by
 have := (popH_perm h0).length_eq
 simp at this; omega
def newH (l : List It) : List It := hini (l.map It.canon) (l.length / 2)
theorem canon_okI {x : It} (h : x.ok) : x.canon.ok := ⟨canon_lt h.1, h.2⟩
theorem newH_perm (l : List It) : (newH l).Perm (l.map It.canon) := hini_perm _ _
theorem newH_len (l : List It) : (newH l).length = l.length := by have := (newH_perm l).length_eq; simpa using this
theorem newH_ok {l : List It} (h : ∀ x ∈ l, x.ok) : ∀ x ∈ newH l, x.ok := by
 intro x hx
 have := (newH_perm l).mem_iff.1 hx
 obtain ⟨y, hy, rfl⟩ := List.mem_map.1 this
 exact canon_okI (h y hy)
theorem pile_New (l : List It) (hl : l.length < 1000000000000) (hok : ∀ x ∈ l, x.ok) (sg : List (List D)) :
    LL.call n_pile_New [.l .z 2 (l.map eI)] sg sg.length = some (.p sg.length 0, sg ++ [hp (newH l)], sg.length) := by
 generalize hr : newH l = r
 refine wp_call e_pile_New rfl ?_
 simp [F_pile_New]
 refine wc_up l.length (fun i => ⟨[(3, .v (.p sg.length 0)), (8, .v (.l .z 2 (l.map eI))), (9, .v (.i .i64 l.length)), (10, .v (.i .i64 i))], [], sg ++ [hp ((l.take i).map It.canon)], sg.length⟩) (fun _ => True) ?_ ?_ 0 (by omega) trivial
 ·intro i hi _ ih
  have w1 : IntKind.i64.wrap ((i : Int) + 1) = ((i + 1 : Nat) : Int) := by rw [wrap64 (by omega)]; omega
  have C1 : callpv LL n_pile_Item_Canon [eI l[i]] = some (eI l[i].canon) := callpv_of rfl (c_pile_Item_Canon l[i] (hok _ (List.getElem_mem hi)) [])
  have ih := ih trivial
  simp at C1
  have hlen : (i + 1 : Int) * 16 ≤ 140737488355328 := by omega
  simp [hi, C1, hp, w1]
  refine ⟨by omega, ?_⟩
  have e : ((l.take (i + 1)).map It.canon).map eI = List.take i (List.map (eI ∘ It.canon) l) ++ [.a [.f .f64 l[i].canon.p, .i .i64 l[i].canon.v]] := by
   simp only [List.map_map, List.map_take]
   rw [List.take_succ_eq_append_getElem (by simpa using hi)]; simp
  simp only [hp, e] at ih
  simpa using ih
 ·intro _
  have hg : sg.length < (sg ++ [hp (l.map It.canon)]).length := by simp
  have I1 := heap_Init (h := l.map It.canon) hg (by simpa using hl) (by
   intro x hx
   obtain ⟨y, hy, rfl⟩ := List.mem_map.1 hx
   exact canon_okI (hok y hy))
  simp at I1
  simp [I1]
  rw [← hr]; rfl
theorem pile_Take {g : Nat} {h : List It} {sg : List (List D)} (hg : g < sg.length) (hl : h.length < 1000000000000) (hok : ∀ x ∈ h, x.ok) :
    LL.call n_pile_Pile_Take [.p g 0] (sg.set g (hp h)) (sg.set g (hp h)).length = some (if h = [] then .t [eI ⟨0, 0⟩, .b false] else .t [eI (popH h).1, .b true], if h = [] then sg.set g (hp h) else sg.set g (hp (popH h).2), (sg.set g (hp h)).length) := by
 refine wp_call e_pile_Pile_Take rfl ?_
 by_cases h0 : h = []
 ·subst h0
  simp [F_pile_Pile_Take, hg, hp, St.at]
  exact List.take_of_length_le (by simp)
 ·have P1 := heap_Pop hg h0 hl hok
  simp [hp] at P1
  have hpos := List.length_pos_iff.2 h0
  simp [F_pile_Pile_Take, hg, hp, St.at, h0]
  refine bq_i (fun c => ?_) (fun c => ?_) <;> (have c' := c) <;> simp at c'
  ·exact absurd c' h0
  ·simp [c, P1]
   refine ⟨h0, ?_⟩
   rw [if_neg h0]
   exact List.take_of_length_le (by simp)
def allH (h : List It) : List It := if h0 : h = [] then [] else (popH h).1 :: allH (popH h).2
termination_by h.length
decreasing_by
 rw [popH_len h0]
 have := List.length_pos_iff.2 h0
 omega
theorem cps_eI : ∀ l : List It, D.cps (l.map eI) = some (l.map eI)
 | [] => rfl
 | x :: l => by simp [D.cps, D.cp, cps_eI l]
theorem popH_ok {h : List It} (h0 : h ≠ []) (hok : ∀ x ∈ h, x.ok) : (popH h).1.ok ∧ ∀ x ∈ (popH h).2, x.ok :=
 ⟨hok _ ((popH_perm h0).mem_iff.1 (by simp)), fun x hx => hok _ ((popH_perm h0).mem_iff.1 (by simp [hx]))⟩
theorem pile_All {g : Nat} {h : List It} {sg : List (List D)} (hg : sg[g]? = some (hp h)) (hl : h.length < 1000000000) (hok : ∀ x ∈ h, x.ok) :
    LL.call n_pile_Pile_All [.p g 0] sg sg.length = some (.l .o 2 ((allH h).map eI), sg, sg.length) := by
 generalize hr : allH h = r
 refine wp_call e_pile_Pile_All rfl ?_
 have hlt : g < sg.length := by rw [List.getElem?_eq_some_iff] at hg; exact hg.1
 have hg2 : sg[g] = hp h := by rw [List.getElem?_eq_some_iff] at hg; exact hg.2
 have hc := cps_eI h
 simp [F_pile_Pile_All, hg2, hp, St.at, hlt, hc]
 refine ⟨by omega, ?_⟩
 refine wc_ind (fun a : List It × List It => ⟨[(3, .v (.p sg.length 0)), (4, .v (.l .o 2 (a.2.map eI)))], [], sg ++ [hp a.1], sg.length⟩) (fun a => a.1.length) (fun a => a.2 ++ allH a.1 = r ∧ a.1.length + a.2.length < 1000000000 ∧ ∀ x ∈ a.1, x.ok) ?_ (h, []) ⟨by simpa using hr, by simpa using hl, hok⟩
 rintro ⟨h', acc⟩ ⟨p1, p2, p3⟩ ih
 simp only at p1 p2 p3 ih
 have T1 := pile_Take (g := sg.length) (h := h') (sg := sg ++ [hp h']) (by simp) (by omega) p3
 by_cases h0 : h' = []
 ·subst h0
  rw [allH, dif_pos rfl] at p1
  simp at p1 T1
  subst p1
  simp [T1]
 ·rw [allH, dif_neg h0] at p1
  simp [h0] at T1
  have := popH_len h0
  have hpos := List.length_pos_iff.2 h0
  have ih := ih ((popH h').2, acc ++ [(popH h').1]) (by simp; omega) ⟨by simpa using p1, by simp; omega, (popH_ok h0 p3).2⟩
  simp [T1]
  exact ⟨by omega, by simpa using ih⟩
theorem c_pile_Sorted (l : List It) (hl : l.length < 1000000000) (hok : ∀ x ∈ l, x.ok) (sg : List (List D)) :
    LL.call n_pile_Sorted [.l .z 2 (l.map eI)] sg sg.length = some (.l .o 2 ((allH (newH l)).map eI), sg, sg.length) := by
 have N1 := pile_New l (by omega) hok sg
 have A1 := pile_All (g := sg.length) (h := newH l) (sg := sg ++ [hp (newH l)]) (by simp) (by rw [newH_len]; exact hl) (newH_ok hok)
 refine wp_call e_pile_Sorted rfl ?_
 simp at N1 A1
 simp [F_pile_Sorted, N1, A1]
end Go.AM

namespace Go.AM
theorem i64_mask (i : Nat) (hi : i ≤ 62) (x : Int) : bits .and .i64 x (2 ^ i - 1) = x % 2 ^ i := by
 have hpos : 0 < 2 ^ i := Nat.two_pow_pos i
 have hlt : 2 ^ i ≤ 2 ^ 62 := Nat.pow_le_pow_right (by decide) hi
 have hc : ((2 : Int) ^ i - 1) = ((2 ^ i - 1 : Nat) : Int) := by rw [Int.natCast_sub hpos]; simp
 rw [hc]
 show IntKind.i64.wrap ((BitVec.ofInt 64 x &&& BitVec.ofInt 64 ((2 ^ i - 1 : Nat) : Int) : BitVec 64).toNat : Int) = _
 rw [BitVec.ofInt_natCast, BitVec.toNat_and, BitVec.toNat_ofNat, Nat.mod_eq_of_lt (show 2 ^ i - 1 < 2 ^ 64 by omega), Nat.and_two_pow_sub_one_eq_mod]
 have e1 : ((BitVec.ofInt 64 x).toNat : Int) = x % 2 ^ 64 := by rw [BitVec.toNat_ofInt]; omega
 have hd : (2 : Int) ^ i ∣ 2 ^ 64 := by
  have := Nat.pow_dvd_pow 2 (show i ≤ 64 by omega)
  exact_mod_cast this
 have e2 : (((BitVec.ofInt 64 x).toNat % 2 ^ i : Nat) : Int) = x % 2 ^ i := by
  rw [Int.natCast_emod, e1, Int.natCast_pow]
  exact Int.emod_emod_of_dvd x hd
 rw [e2, wrap64]
 have := Int.emod_nonneg x (show (2 : Int) ^ i ≠ 0 by exact_mod_cast Nat.pos_iff_ne_zero.1 hpos)
 have h3 := Int.emod_lt_of_pos x (show (0 : Int) < 2 ^ i by exact_mod_cast hpos)
 have h4 : (2 : Int) ^ i ≤ 2 ^ 62 := by exact_mod_cast hlt
 constructor
 ·omega
 ·have : (2 : Int) ^ 62 = 4611686018427387904 := by decide
  omega
theorem i64_255 (x : Int) : bits .and .i64 x 255 = x % 256 := i64_mask 8 (by decide) x
theorem i64_40 (x : Int) : bits .and .i64 x 1099511627775 = x % 1099511627776 := i64_mask 40 (by decide) x
def legal (k p : Int) : Int := if k < 1 ∨ k > 4 then 6 else if p < 1 ∨ p > 16 ∨ (k = 4 ∧ p ≠ 1 ∧ p ≠ 2 ∧ p ≠ 4 ∧ p ≠ 8 ∧ p ≠ 16) then 5 else 0
theorem pow2_16 (p : Int) (h1 : 1 ≤ p) (h2 : p ≤ 16) : bits .and .i64 p (IntKind.i64.wrap (p - 1)) = 0 ↔ (p = 1 ∨ p = 2 ∨ p = 4 ∨ p = 8 ∨ p = 16) := by
 have : p = 1 ∨ p = 2 ∨ p = 3 ∨ p = 4 ∨ p = 5 ∨ p = 6 ∨ p = 7 ∨ p = 8 ∨ p = 9 ∨ p = 10 ∨ p = 11 ∨ p = 12 ∨ p = 13 ∨ p = 14 ∨ p = 15 ∨ p = 16 := by omega
 rcases this with rfl | rfl | rfl | rfl | rfl | rfl | rfl | rfl | rfl | rfl | rfl | rfl | rfl | rfl | rfl | rfl <;> decide
theorem c_op_Legal (k p : Int) (sg) : LL.call n_op_Legal [.i .i64 k, .i .i64 p] sg sg.length = some (.i .i64 (legal k p), sg, sg.length) := by
 refine wp_call e_op_Legal rfl ?_
 simp [F_op_Legal]
 repeat' (refine bq_i (fun h => ?_) (fun h => ?_) <;> (have h' := h) <;> (try simp at h') <;> simp [h, h'])
 all_goals unfold legal
 ·rw [if_pos (by omega)]
 ·rw [if_pos (by omega)]
 ·rw [if_neg (by omega), if_pos (by omega)]
 ·rw [if_neg (by omega), if_pos (by omega)]
 ·rename_i a b c d e f g hh i j
  have := pow2_16 p (by omega) (by omega)
  rw [if_neg (by omega), if_pos]
  omega
 ·rename_i a b c d e f g hh i j
  have := pow2_16 p (by omega) (by omega)
  rw [if_neg (by omega), if_neg]
  omega
 ·rw [if_neg (by omega), if_neg (by omega)]
def kindOf (k : Int) : Int := 1 + k % 4
def paramOf (k p : Int) : Int := if kindOf k = 4 then 2 ^ (p % 256 % 5).toNat else 1 + p % 16
theorem kindOf_le (k : Int) : 1 ≤ kindOf k ∧ kindOf k ≤ 4 := by unfold kindOf; omega
theorem paramOf_le (k p : Int) : 1 ≤ paramOf k p ∧ paramOf k p ≤ 16 := by
 unfold paramOf
 split
 ·have : (p % 256 % 5).toNat = 0 ∨ (p % 256 % 5).toNat = 1 ∨ (p % 256 % 5).toNat = 2 ∨ (p % 256 % 5).toNat = 3 ∨ (p % 256 % 5).toNat = 4 := by omega
  rcases this with h | h | h | h | h <;> rw [h] <;> decide
 ·omega
theorem legal_kind (k p : Int) : legal (kindOf k) (paramOf k p) = 0 := by
 have h1 := kindOf_le k
 have h2 := paramOf_le k p
 unfold legal
 rw [if_neg (by omega), if_neg]
 rintro (h | h | ⟨h, h'⟩)
 ·omega
 ·omega
 ·unfold paramOf at h'
  rw [if_pos h] at h'
  have : (p % 256 % 5).toNat = 0 ∨ (p % 256 % 5).toNat = 1 ∨ (p % 256 % 5).toNat = 2 ∨ (p % 256 % 5).toNat = 3 ∨ (p % 256 % 5).toNat = 4 := by omega
  rcases this with h | h | h | h | h <;> rw [h] at h' <;> revert h' <;> decide
theorem tmod_nn (a b : Int) (h : 0 ≤ a) : a.tmod b = a % b := Int.tmod_eq_emod_of_nonneg h
theorem c_law12_Kind (k p : Int) (sg) : LL.call n_c_law12_Kind [.i .i64 k, .i .i64 p] sg sg.length = some (.t [.i .i64 (kindOf k), .i .i64 (paramOf k p)], sg, sg.length) := by
 refine wp_call e_c_law12_Kind rfl ?_
 have e1 : (k % 256).tmod 4 = k % 4 := by rw [tmod_nn _ _ (by omega)]; omega
 have e2 : (p % 256).tmod 5 = p % 256 % 5 := tmod_nn _ _ (by omega)
 have e3 : (p % 256).tmod 16 = p % 16 := by rw [tmod_nn _ _ (by omega)]; omega
 have e4 : IntKind.i64.wrap (1 + k % 4) = kindOf k := wrap64 (by omega)
 have e5 : IntKind.i64.wrap (1 + p % 16) = 1 + p % 16 := wrap64 (by omega)
 simp [F_c_law12_Kind, i64_255, e1, e4]
 refine bq_i (fun h => ?_) (fun h => ?_) <;> (have h' := h) <;> (try simp at h') <;> simp [h, h', i64_255, e2, e3, e5]
 ·refine ⟨by omega, ?_⟩
  have e6 : min (p % 256 % 5).toNat IntKind.i64.bits = (p % 256 % 5).toNat := by simp [IntKind.bits]; omega
  rw [e6, paramOf, if_pos h']
  refine wrap64 ?_
  have : (p % 256 % 5).toNat = 0 ∨ (p % 256 % 5).toNat = 1 ∨ (p % 256 % 5).toNat = 2 ∨ (p % 256 % 5).toNat = 3 ∨ (p % 256 % 5).toNat = 4 := by omega
  rcases this with h | h | h | h | h <;> rw [h] <;> decide
 ·simp [paramOf, h']
end Go.AM

namespace Go.AM
def shapeOf (k p : Int) : Int × Int := if k = 1 then (p, 0) else if k = 2 then (1, 0) else if k = 3 then (0, p) else if k = 4 then (0, 1) else (0, 0)
theorem c_image_Shape (k p : Int) (sg) : LL.call n_image_Shape [.i .i64 k, .i .i64 p] sg sg.length = some (.t [.i .i64 (shapeOf k p).1, .i .i64 (shapeOf k p).2], sg, sg.length) := by
 refine wp_call e_image_Shape rfl ?_
 simp [F_image_Shape]
 repeat' (refine bq_i (fun h => ?_) (fun h => ?_) <;> simp [h])
 all_goals simp_all [shapeOf]
end Go.AM

namespace Go.AM
def ordered : List It → Bool
 | x :: y :: r => decide (0 ≤ cmpI y x) && ordered (y :: r)
 | _ => true
theorem ordered_iff : ∀ l : List It, ordered l = true ↔ ∀ j, j + 1 < l.length → ∀ a b, l[j]? = some a → l[j + 1]? = some b → 0 ≤ cmpI b a
 | [] => by simp [ordered]
 | [x] => by simp [ordered]
 | x :: y :: r => by
  simp only [ordered, Bool.and_eq_true, decide_eq_true_eq, ordered_iff (y :: r)]
  constructor
  ·rintro ⟨h1, h2⟩ j hj a b ha hb
   cases j with
   | zero => simp at ha hb; subst ha; subst hb; exact h1
   | succ j => exact h2 j (by simp at hj ⊢; omega) a b (by simpa using ha) (by simpa using hb)
  ·intro h
   exact ⟨h 0 (by simp) x y rfl rfl, fun j hj a b ha hb => h (j + 1) (by simp at hj ⊢; omega) a b (by simpa using ha) (by simpa using hb)⟩
def orderE (k : Int) (l : List It) : Int := if k = 1 then (if 62 < l.length then 3 else if ordered l then 0 else 14) else 0
theorem c_image_order (k : Int) (l : List It) (hl : ∀ x ∈ l, x.ok) (K) (sg) : LL.call n_image_order [.i .i64 k, .l K 2 (l.map eI)] sg sg.length = some (.i .i64 (orderE k l), sg, sg.length) := by
 refine wp_call e_image_order rfl ?_
 by_cases hk : k = 1
 ·subst hk
  by_cases hlen : (l.length : Int) > 62
  ·simp [F_image_order, hlen, orderE]; omega
  ·simp [F_image_order, hlen]
   refine wc_ind (fun i : Nat => ⟨[(0, .v (.i .i64 1)), (1, .v (.l .z 2 (l.map eI))), (5, .v (.i .i64 (i : Int)))], [], sg, sg.length⟩) (fun i => l.length + 1 - i)
    (fun i => 1 ≤ i ∧ i ≤ max 1 l.length ∧ ∀ j, j + 1 < i → ∀ a b, l[j]? = some a → l[j + 1]? = some b → 0 ≤ cmpI b a) ?_ 1 ⟨by omega, by omega, by omega⟩
   rintro i ⟨h1, h2, h3⟩ ih
   by_cases hi : i < l.length
   ·obtain ⟨j, rfl⟩ : ∃ j, i = j + 1 := ⟨i - 1, by omega⟩
    have e1 : l[j + 1]? = some l[j + 1] := List.getElem?_eq_getElem hi
    have e2 : l[j]? = some l[j] := List.getElem?_eq_getElem (by omega)
    have hc := c_pile_Item_Cmp l[j + 1] l[j] (hl _ (List.getElem_mem _)) (hl _ (List.getElem_mem _)) sg
    have hi' : (j : Int) + 1 < l.length := by omega
    simp at hc
    have w0 : IntKind.i64.wrap (j : Int) = j := wrap64 (by omega)
    have w2 : IntKind.i64.wrap ((j : Int) + 1 + 1) = (j : Int) + 1 + 1 := wrap64 (by omega)
    have p0 : (0 : Int) ≤ j + 1 := by omega
    simp [hi', e1, e2, w0, w2, p0, hc]
    refine bq_i (fun h => ?_) (fun h => ?_) <;> (have h' := h) <;> simp at h' <;> simp [h, w0, w2]
    ·have : ordered l = false := by
      rw [Bool.eq_false_iff]
      intro ho
      have := (ordered_iff l).1 ho j hi _ _ e2 e1
      omega
     simp [orderE, this]; omega
    ·have := ih (j + 1 + 1) (by omega) ⟨by omega, by omega, fun j' hj' a b ha hb => by
      by_cases e : j' = j
      ·subst e; rw [e2] at ha; rw [e1] at hb; cases ha; cases hb; exact h'
      ·exact h3 j' (by omega) a b ha hb⟩
     simpa using this
   ·have hi' : ¬ (i : Int) < l.length := by omega
    simp [hi']
    have : ordered l = true := (ordered_iff l).2 (fun j hj => h3 j (by omega))
    simp [orderE, this]; omega
 ·have hkb : (k == 1) = false := by simpa using hk
  simp [F_image_order, hkb]
  refine wc_loop ?_
  simp [hk, hkb, orderE]
structure Im where
 k : Int
 p : Int
 c : Int
 ls : List (List It)
 cs : List Int
def eIm (x : Im) : D := .a [.i .i64 x.k, .i .i64 x.p, .i .u64 x.c, .l .z 1 (x.ls.map (eL 2 eI)), .l .z 1 (x.cs.map (.i .i64))]
def eRm (x : Im) : D := .a [.i .i64 x.k, .i .i64 x.p, .i .u64 x.c, .l .z 1 (x.ls.map (eL 2 eR)), .l .z 1 (x.cs.map (.i .i64))]
def Im.ok (x : Im) : Prop := (∀ l ∈ x.ls, ∀ y ∈ l, y.ok) ∧ (∀ n ∈ x.cs, -9223372036854775808 ≤ n ∧ n ≤ 9223372036854775807) ∧ (x.ls.map List.length).sum ≤ 1099511627776
def ordersE (k : Int) : List (List It) → Int
 | [] => 0
 | l :: r => if orderE k l ≠ 0 then orderE k l else ordersE k r
def badN (n : Int) : Bool := n < 0 || n > 1125899906842624
def countsE (l : List Int) : Int := if l.any badN || l.sum > 1125899906842624 then 4 else 0
def checkI (x : Im) : Int :=
 if legal x.k x.p ≠ 0 then legal x.k x.p else
 if (x.ls.length : Int) ≠ (shapeOf x.k x.p).1 ∨ (x.cs.length : Int) ≠ (shapeOf x.k x.p).2 then 2 else
 if ordersE x.k x.ls ≠ 0 then ordersE x.k x.ls else
 if (x.ls.map List.length).sum > 1000 then 3 else countsE x.cs
theorem shape_le (k p : Int) (h : legal k p = 0) : (shapeOf k p).1 ≤ 16 ∧ (shapeOf k p).2 ≤ 16 := by
 unfold legal at h
 split at h
 ·cases h
 split at h
 ·cases h
 ·unfold shapeOf
  repeat' split
  all_goals simp
  all_goals omega
theorem c_image_Image_Check (x : Im) (ho : x.ok) (sg) : LL.call n_image_Image_Check [eIm x] sg sg.length = some (.i .i64 (checkI x), sg, sg.length) := by
 refine wp_call e_image_Image_Check rfl ?_
 have h1 := c_op_Legal x.k x.p sg
 have h2 := c_image_Shape x.k x.p sg
 simp [F_image_Image_Check, eIm, h1]
 refine bq_i (fun h => ?_) (fun h => ?_) <;> (have h' := h) <;> simp at h' <;> simp [h, h', h2]
 ·simp [checkI, h']
 refine bq_i (fun g => ?_) (fun g => ?_) <;> (have g' := g) <;> simp at g' <;> simp [g, g']
 ·simp [checkI, h', g']
 refine bq_i (fun k => ?_) (fun k => ?_) <;> (have k' := k) <;> simp at k' <;> simp [k, k']
 ·simp [checkI, h', k']
 have hl : x.ls.length ≤ 16 ∧ x.cs.length ≤ 16 := by
  have := shape_le x.k x.p h'
  omega
 obtain ⟨ho1, ho2, ho3⟩ := ho
 refine wc_list x.ls (fun i b => ⟨[(1, .q (.ptr 1 0)), (6, .v (.i .i64 (b : Nat))), (42, .v (.l .z 1 (x.ls.map (eL 2 eI)))), (43, .v (.i .i64 x.ls.length)), (44, .v (.i .i64 i))],
  [(1, [.i .i64 x.k, .i .i64 x.p, .i .u64 x.c, .l .z 1 (x.ls.map (eL 2 eI)), .l .z 1 (x.cs.map (.i .i64))])], sg, sg.length⟩)
  (fun r b => ordersE x.k x.ls = ordersE x.k r ∧ b + (r.map List.length).sum = (x.ls.map List.length).sum) ?_ ?_ 0 ⟨rfl, by simp⟩
 ·rintro i l r b hi hlt ⟨hb1, hb2⟩ ih
  have hlt' : (i : Int) < x.ls.length := by omega
  have ho := c_image_order x.k l (ho1 l (mem_of_get hi)) .z sg
  simp at hb2
  simp [hlt', hi, ho, eL]
  refine bq_i (fun e => ?_) (fun e => ?_) <;> (have e' := e) <;> simp at e' <;> simp [e, e']
  ·simp [checkI, h', g', k', hb1, ordersE, e']
  ·have w : IntKind.i64.wrap (↑b + ↑l.length) = ((b + l.length : Nat) : Int) := wrap64 (by omega)
   have w2 : IntKind.i64.wrap (↑i + 1) = (i : Int) + 1 := wrap64 (by omega)
   have := ih (b + l.length) ⟨by rw [hb1]; simp [ordersE, e'], by omega⟩
   simpa [w, w2] using this
 ·rintro b ⟨hb1, hb2⟩
  simp at hb1 hb2
  simp
  refine bq_i (fun e => ?_) (fun e => ?_) <;> (have e' := e) <;> simp at e' <;> simp [e, e']
  ·simp [checkI, h', g', k', hb1, ordersE, e']; omega
  have hmax : (x.ls.map List.length).sum ≤ 1000 := by omega
  refine wc_list x.cs (fun i b => ⟨[(10, .v (.i .i64 b)), (63, .v (.l .z 1 (x.cs.map (.i .i64)))), (64, .v (.i .i64 x.cs.length)), (65, .v (.i .i64 i))], [], sg, sg.length⟩)
   (fun r (b : Int) => x.cs.any badN = r.any badN ∧ b + r.sum = x.cs.sum ∧ 0 ≤ b ∧ b + r.length * 1125899906842624 ≤ 18014398509481984) ?_ ?_ 0 ⟨rfl, by simp, by omega, by omega⟩
  ·rintro i n r b hi hlt ⟨hc1, hc2, hc3, hc4⟩ ih
   have hlt' : (i : Int) < x.cs.length := by omega
   simp [hlt', hi]
   refine bq_i (fun u => ?_) (fun u => ?_) <;> (have u' := u) <;> simp at u' <;> simp [u, u']
   ·simp [checkI, h', g', k', hb1, countsE, hmax, hc1, badN, u', ordersE]
   refine bq_i (fun v => ?_) (fun v => ?_) <;> (have v' := v) <;> simp at v' <;> simp [v, v']
   ·simp [checkI, h', g', k', hb1, countsE, hmax, hc1, badN, v', ordersE]
   ·have w : IntKind.i64.wrap (b + n) = b + n := wrap64 (by simp at hc4; omega)
    have w2 : IntKind.i64.wrap (↑i + 1) = (i : Int) + 1 := wrap64 (by omega)
    have := ih (b + n) ⟨by rw [hc1]; simp [badN]; omega, by simp at hc2; omega, by omega, by simp at hc4 ⊢; omega⟩
    simpa [w, w2] using this
  ·rintro b ⟨hc1, hc2, hc3, hc4⟩
   simp at hc1 hc2
   simp
   refine bq_i (fun u => ?_) (fun u => ?_) <;> (have u' := u) <;> simp at u' <;> simp [u, u']
   ·simp [checkI, h', g', k', hb1, countsE, hmax, hc1, ordersE, ← hc2, u']
   ·simp [checkI, h', g', k', hb1, countsE, hmax, hc1, ordersE, ← hc2]
    rw [if_neg (by omega), if_neg]
    rintro (⟨y, hy, h⟩ | h)
    ·simp [hc1 y hy] at h
    ·omega
theorem legal_k {k p : Int} (h : legal k p = 0) : 1 ≤ k ∧ k ≤ 4 := by
 unfold legal at h
 split at h
 ·cases h
 ·omega
theorem shape_get1 {k p : Int} (h : 1 ≤ k ∧ k ≤ 4) : ([D.i .i64 0, .i .i64 p, .i .i64 1, .i .i64 0, .i .i64 0] : List D)[k.toNat]? = some (.i .i64 (shapeOf k p).1) := by
 have : k = 1 ∨ k = 2 ∨ k = 3 ∨ k = 4 := by omega
 rcases this with rfl | rfl | rfl | rfl <;> simp [shapeOf]
theorem shape_get2 {k p : Int} (h : 1 ≤ k ∧ k ≤ 4) : ([D.i .i64 0, .i .i64 0, .i .i64 0, .i .i64 p, .i .i64 1] : List D)[k.toNat]? = some (.i .i64 (shapeOf k p).2) := by
 have : k = 1 ∨ k = 2 ∨ k = 3 ∨ k = 4 := by omega
 rcases this with rfl | rfl | rfl | rfl <;> simp [shapeOf]
theorem ordersE_cons_eq (k : Int) (l : List It) (r : List (List It)) (h : orderE k l = 0) : ordersE k (l :: r) = ordersE k r := by simp [ordersE, h]
theorem cmpI_swap (x y : It) : cmpI y x = - cmpI x y := by
 unfold cmpI cmpV cmpN
 repeat' split
 all_goals omega
end Go.AM

namespace Go.AM
def ltI (x y : It) : Prop := key x.p < key y.p ∨ (key x.p = key y.p ∧ x.v < y.v)
instance (x y : It) : Decidable (ltI x y) := by unfold ltI; infer_instance
theorem cmpI_lt (x y : It) : cmpI x y < 0 ↔ ltI x y := by unfold cmpI cmpN cmpV ltI; repeat' split; all_goals omega
theorem cmpI_ge (x y : It) : 0 ≤ cmpI x y ↔ ¬ ltI x y := by rw [← cmpI_lt]; omega
theorem ltI_trans' {x y z : It} (h1 : ¬ ltI y x) (h2 : ¬ ltI z y) : ¬ ltI z x := by unfold ltI at *; omega
def backN (x : It) (l : List It) : Nat → Nat
 | 0 => 0
 | n + 1 => match l[n]? with
  | some y => if ltI x y then backN x l n else n + 1
  | none => n + 1
def insI (x : It) (l : List It) : List It := l.take (backN x l l.length) ++ x :: l.drop (backN x l l.length)
def sortI (l : List It) : List It := l.foldl (fun o x => insI x o) []
theorem backN_le (x : It) (l : List It) : ∀ n, backN x l n ≤ n
 | 0 => by simp [backN]
 | n + 1 => by
  unfold backN
  split
  ·split
   ·have := backN_le x l n; omega
   ·omega
  ·omega
theorem insI_len (x : It) (l : List It) : (insI x l).length = l.length + 1 := by
 have := backN_le x l l.length
 simp [insI]; omega
theorem sortI_len (l : List It) : (sortI l).length = l.length := by
 have : ∀ (l o : List It), (l.foldl (fun o x => insI x o) o).length = o.length + l.length := by
  intro l
  induction l with
  | nil => simp
  | cons x l ih => intro o; simp only [List.foldl_cons, ih, insI_len, List.length_cons]; omega
 have h := this l []
 simp only [List.length_nil, Nat.zero_add, List.nil_append] at h
 exact h
theorem insI_perm (x : It) (l : List It) : (insI x l).Perm (x :: l) := by
 unfold insI
 refine List.perm_middle.trans ?_
 rw [List.take_append_drop]
theorem sortI_perm (l : List It) : (sortI l).Perm l := by
 have : ∀ (l o : List It), (l.foldl (fun o x => insI x o) o).Perm (o ++ l) := by
  intro l
  induction l with
  | nil => simp
  | cons x l ih =>
   intro o
   simp only [List.foldl_cons]
   refine (ih (insI x o)).trans ?_
   refine ((insI_perm x o).append_right l).trans ?_
   exact List.perm_middle.symm
 have h := this l []
 simp only [List.length_nil, Nat.zero_add, List.nil_append] at h
 exact h
theorem ordered_pw : ∀ l : List It, ordered l = true ↔ l.Pairwise (fun a b => ¬ ltI b a)
 | [] => by simp [ordered]
 | [x] => by simp [ordered]
 | x :: y :: r => by
  have ih := ordered_pw (y :: r)
  simp only [ordered, Bool.and_eq_true, decide_eq_true_eq, ih, cmpI_ge]
  constructor
  ·rintro ⟨h1, h2⟩
   refine List.pairwise_cons.2 ⟨fun z hz => ?_, h2⟩
   rcases List.mem_cons.1 hz with rfl | hz
   ·exact h1
   ·exact ltI_trans' h1 ((List.pairwise_cons.1 h2).1 z hz)
  ·intro h
   have h' := List.pairwise_cons.1 h
   exact ⟨h'.1 y (by simp), h'.2⟩
theorem backN_above (x : It) (l : List It) : ∀ n, n ≤ l.length → ∀ j, backN x l n ≤ j → j < n → ∀ y, l[j]? = some y → ltI x y
 | 0 => by omega
 | n + 1 => by
  intro hn j h1 h2 y hy
  have q : l[n]? = some l[n] := List.getElem?_eq_getElem (by omega)
  rw [backN, q] at h1
  simp only at h1
  split at h1
  ·by_cases e : j = n
   ·subst e; rw [q] at hy; cases hy; assumption
   ·exact backN_above x l n (by omega) j h1 (by omega) y hy
  ·omega
theorem backN_below (x : It) (l : List It) : ∀ n, n ≤ l.length → 0 < backN x l n → ∃ y, l[backN x l n - 1]? = some y ∧ ¬ ltI x y
 | 0 => by simp [backN]
 | n + 1 => by
  intro hn h
  have q : l[n]? = some l[n] := List.getElem?_eq_getElem (by omega)
  rw [backN, q] at h ⊢
  simp only at h ⊢
  split
  ·rename_i e
   rw [if_pos e] at h
   exact backN_below x l n (by omega) h
  ·exact ⟨_, q, by assumption⟩
theorem insI_ordered (x : It) (l : List It) (h : ordered l = true) : ordered (insI x l) = true := by
 rw [ordered_pw] at h ⊢
 have hle := backN_le x l l.length
 unfold insI
 refine List.pairwise_append.2 ⟨h.sublist (List.take_sublist _ _), List.pairwise_cons.2 ⟨fun y hy => ?_, h.sublist (List.drop_sublist _ _)⟩, fun a ha b hb => ?_⟩
 ·obtain ⟨j, hj⟩ := List.mem_iff_getElem?.1 hy
  rw [List.getElem?_drop] at hj
  have : backN x l l.length + j < l.length := (List.getElem?_eq_some_iff.1 hj).1
  have := backN_above x l l.length (by omega) _ (by omega) this y hj
  unfold ltI at *; omega
 ·have hax : ¬ ltI x a := by
   obtain ⟨j, hj⟩ := List.mem_iff_getElem?.1 ha
   rw [List.getElem?_take] at hj
   split at hj
   ·rename_i hlt
    obtain ⟨y, hy, hxy⟩ := backN_below x l l.length (by omega) (by omega)
    by_cases e : j = backN x l l.length - 1
    ·subst e; rw [hj] at hy; cases hy; exact hxy
    ·obtain ⟨p1, q1⟩ := List.getElem?_eq_some_iff.1 hj
     obtain ⟨p2, q2⟩ := List.getElem?_eq_some_iff.1 hy
     have := List.pairwise_iff_getElem.1 h j (backN x l l.length - 1) p1 p2 (by omega)
     rw [q1, q2] at this
     exact ltI_trans' this hxy
   ·cases hj
  rcases List.mem_cons.1 hb with rfl | hb
  ·exact hax
  ·have : a ∈ l.take (backN x l l.length) := ha
   have h2 := List.take_append_drop (backN x l l.length) l
   rw [← h2] at h
   exact (List.pairwise_append.1 h).2.2 a ha b hb
theorem sortI_ordered (l : List It) : ordered (sortI l) = true := by
 have : ∀ (l o : List It), ordered o = true → ordered (l.foldl (fun o x => insI x o) o) = true := by
  intro l
  induction l with
  | nil => exact fun o h => h
  | cons x l ih => exact fun o h => ih _ (insI_ordered x o h)
 exact this l [] rfl
theorem c_law17_sorted (l : List It) (hl : ∀ x ∈ l, x.ok) (hn : l.length ≤ 1000) (sg) : LL.call n_c_law17_sorted [.l .z 2 (l.map eI)] sg sg.length = some (.l .o 2 ((sortI l).map eI), sg, sg.length) := by
 refine wp_call e_c_law17_sorted rfl ?_
 simp [F_c_law17_sorted]
 refine wc_list l (fun i o => ⟨[(3, .v (.l .o 2 (o.map eI))), (8, .v (.l .z 2 (l.map eI))), (9, .v (.i .i64 l.length)), (10, .v (.i .i64 i))], [], sg, sg.length⟩)
  (fun r (o : List It) => r.foldl (fun o x => insI x o) o = sortI l ∧ o.length + r.length = l.length ∧ ∀ x ∈ o, x.ok) ?_ ?_ [] ⟨rfl, by simp, by simp⟩
 ·rintro i x r o hi hlt ⟨h1, h2, h3⟩ ih
  have hlt' : (i : Int) < l.length := by omega
  have hx := hl x (mem_of_get hi)
  simp at h2
  simp [hlt', hi]
  refine wc_ind (fun at_ : Nat => ⟨[(3, .v (.l .o 2 (o.map eI))), (5, .q (.ptr 5 0)), (6, .v (.i .i64 at_)), (8, .v (.l .z 2 (l.map eI))), (9, .v (.i .i64 l.length)), (10, .v (.i .i64 i))], [(5, [.f .f64 x.p, .i .i64 x.v])], sg, sg.length⟩)
   (fun a => a) (fun a => a ≤ o.length ∧ backN x o o.length = backN x o a) ?_ o.length ⟨by omega, rfl⟩
  rintro a ⟨ha1, ha2⟩ ih2
  have tk : (o.map eI).take o.length = o.map eI := List.take_of_length_le (by simp)
  have w2 : IntKind.i64.wrap (↑i + 1) = (i : Int) + 1 := wrap64 (by omega)
  have ok : ∀ y ∈ insI x o, y.ok := fun y hy => by
   rcases List.mem_cons.1 ((insI_perm x o).mem_iff.1 hy) with rfl | h
   ·exact hx
   ·exact h3 y h
  have nx := ih (insI x o) ⟨by rw [← h1]; rfl, by rw [insI_len]; omega, ok⟩
  cases a with
  | zero =>
   simp
   have e : insI x o = [x] ++ o := by simp [insI, ha2, backN]
   simp [tk, w2]
   refine ⟨by omega, by omega, ?_⟩
   simpa [e] using nx
  | succ a =>
   have q : o[a]? = some o[a] := List.getElem?_eq_getElem (by omega)
   have hc := c_pile_Item_Cmp x o[a] hx (h3 _ (List.getElem_mem _)) sg
   have w : IntKind.i64.wrap (a : Int) = a := wrap64 (by omega)
   simp at hc
   have p0 : (0 : Int) < a + 1 := by omega
   simp [p0, w, q, hc]
   refine bq_i (fun u => ?_) (fun u => ?_) <;> (have u' := u) <;> simp at u' <;> simp [u, u']
   ·have hb : backN x o (a + 1) = backN x o a := by rw [backN, q]; simp [(cmpI_lt x o[a]).1 u']
    have := ih2 a (by omega) ⟨by omega, by rw [ha2, hb]⟩
    simpa [w] using this
   ·have hb : backN x o (a + 1) = a + 1 := by rw [backN, q]; simp [(cmpI_ge x o[a]).1 u']
    have e : insI x o = o.take (a + 1) ++ x :: o.drop (a + 1) := by simp [insI, ha2, hb]
    have m : min (a + 1) o.length = a + 1 := by omega
    have p1 : (0 : Int) ≤ a + 1 := by omega
    have p2 : (a : Int) + 1 ≤ o.length := by omega
    have p3 : (1 + (o.length - (a + 1))) * 16 ≤ 140737488355328 := by omega
    have p4 : (a + 1 + (o.length - (a + 1) + 1)) * 16 ≤ 140737488355328 := by omega
    simp [tk, w2, m, p1, p2, p3, p4]
    simpa [e] using nx
 ·rintro o ⟨h1, h2, h3⟩
  simp at h1
  simp [h1]
end Go.AM

namespace Go.AM
def eLK {α : Type} (K : K) (sz : Nat) (e : α → D) (l : List α) : D := .l K sz (l.map e)
theorem zzs_eLK {α : Type} (K : K) (sz : Nat) (e : α → D) [Flat e] : ∀ l : List (List α), D.zzs (l.map (eLK K sz e)) = l.map (eL sz e)
 | [] => rfl
 | x :: l => by simp [D.zzs, zzs_eLK K sz e l, eLK, eL]
theorem fzs_eLK {α : Type} (K : K) (hK : K = .o ∨ K = .x) (sz : Nat) (e : α → D) [Flat e] : ∀ l : List (List α), D.fzs (l.map (eLK K sz e)) = l.map (eL sz e)
 | [] => rfl
 | x :: l => by
  have ih := fzs_eLK K hK sz e l
  rcases hK with rfl | rfl <;> simp only [List.map_cons, D.fzs, ih] <;> simp [eLK, eL]
theorem fzs_eLo {α : Type} (sz : Nat) (e : α → D) [Flat e] (l : List (List α)) : D.fzs (l.map (eLK .o sz e)) = l.map (eL sz e) := fzs_eLK _ (.inl rfl) sz e l
theorem fzs_eLx {α : Type} (sz : Nat) (e : α → D) [Flat e] (l : List (List α)) : D.fzs (l.map (eLK .x sz e)) = l.map (eL sz e) := fzs_eLK _ (.inr rfl) sz e l
attribute [simp] zzs_eLK fzs_eLo fzs_eLx eL eLK
def eImK (K1 K2 K3 : K) (x : Im) : D := .a [.i .i64 x.k, .i .i64 x.p, .i .u64 x.c, .l K1 1 (x.ls.map (eLK K2 2 eI)), .l K3 1 (x.cs.map (.i .i64))]
theorem zz_eImK (K1 K2 K3 : K) (x : Im) : D.zz (eImK K1 K2 K3 x) = eIm x := by simp [eImK, eIm]
attribute [simp] zz_eImK
structure Raw where
 k : Int
 p : Int
 c : Int
 is : List It
 cs : List Int
 sp : Int
def eRaw (x : Raw) : D := .a [.i .i64 x.k, .i .i64 x.p, .i .u64 x.c, .l .z 2 (x.is.map eR), .l .z 1 (x.cs.map (.i .i64)), .i .i64 x.sp]
def Raw.ok (x : Raw) : Prop := (∀ y ∈ x.is, y.ok) ∧ (0 ≤ x.c ∧ x.c < 18446744073709551616) ∧ (-9223372036854775808 ≤ x.sp ∧ x.sp ≤ 9223372036854775807)
def dealI (n : Nat) : List (List It) → Nat → List It → List (List It)
 | a, _, [] => a
 | a, i, x :: r => dealI n (a.set (i % n) ((a[i % n]?).getD [] ++ [x.canon])) (i + 1) r
def makeCs (m : Nat) (cs : List Int) : List Int := (List.range m).map fun i => match cs[i]? with
 | some n => n % 1099511627776
 | none => 0
def makeI (x : Raw) : Im :=
 let k := kindOf x.k
 let p := paramOf x.k x.p
 let n := (shapeOf k p).1.toNat
 let ls := dealI n (List.replicate n []) 0 (if n = 0 then [] else x.is.take 60)
 ⟨k, p, x.c, if k = 1 then ls.map sortI else ls, makeCs (shapeOf k p).2.toNat x.cs⟩
theorem shape_nn (k p : Int) (h : 0 ≤ p) : 0 ≤ (shapeOf k p).1 ∧ 0 ≤ (shapeOf k p).2 := by
 unfold shapeOf
 repeat' split
 all_goals simp
 all_goals omega
theorem canon_ok (x : It) (h : x.ok) : x.canon.ok := by
 refine ⟨?_, h.2⟩
 have := h.1
 simp only [It.canon, canon]
 split <;> omega
theorem c_law17_Make (x : Raw) (h : x.ok) (sg) : LL.call n_c_law17_Make [eRaw x] sg sg.length = some (eImK .x .o .x (makeI x), sg, sg.length) := by
 refine wp_call e_c_law17_Make rfl ?_
 have hk := kindOf_le x.k
 have hk0 : 0 ≤ kindOf x.k := by omega
 have h1 := c_law12_Kind x.k x.p sg
 have hs := shape_le _ _ (legal_kind x.k x.p)
 have hs0 := shape_nn (kindOf x.k) (paramOf x.k x.p) (by have := paramOf_le x.k x.p; omega)
 obtain ⟨n, hn⟩ : ∃ n : Nat, (shapeOf (kindOf x.k) (paramOf x.k x.p)).1 = n := ⟨(shapeOf (kindOf x.k) (paramOf x.k x.p)).1.toNat, by omega⟩
 obtain ⟨m, hm⟩ : ∃ m : Nat, (shapeOf (kindOf x.k) (paramOf x.k x.p)).2 = m := ⟨(shapeOf (kindOf x.k) (paramOf x.k x.p)).2.toNat, by omega⟩
 rw [hn, hm] at hs hs0
 simp [F_c_law17_Make, eRaw, h1, hk0, shape_get1 hk, shape_get2 hk, hn, hm]
 refine wc_up n (fun i => ⟨[(1, .q (.ptr 1 0)), (2, .q (.ptr 2 0)), (3, .v (.i .i64 (kindOf x.k))), (5, .q (.ptr 5 0)), (6, .v (.i .i64 n)), (7, .v (.i .i64 m)), (35, .v (.i .i64 n)), (36, .v (.i .i64 i))],
  [(1, [.i .i64 x.k, .i .i64 x.p, .i .u64 x.c, .l .z 2 (x.is.map eR), .l .z 1 (x.cs.map (.i .i64)), .i .i64 x.sp]), (2, [.i .i64 0, .i .i64 0, .i .u64 0, .l .x 1 [], .l .x 1 []]),
   (5, [.i .i64 (kindOf x.k), .i .i64 (paramOf x.k x.p), .i .u64 x.c, .l .x 1 (List.replicate i (.l .o 2 [])), .l .x 1 []])], sg, sg.length⟩) (fun _ => True) ?_ ?_ 0 (by omega) trivial
 ·intro i hi _ ih
  have hi' : (i : Int) < n := by omega
  have w : IntKind.i64.wrap (↑i + 1) = (i : Int) + 1 := wrap64 (by omega)
  have p1 : (i + 1) * 24 ≤ 140737488355328 := by omega
  simp [hi', w, p1]
  simpa [List.replicate_succ'] using ih trivial
 ·intro _
  simp
  have e0 : List.replicate n (D.l .o 2 []) = (List.replicate n ([] : List It)).map (eLK .o 2 eI) := by simp [eLK]
  rw [e0]
  refine wc_ind (fun a : Nat × List (List It) => ⟨[(1, .q (.ptr 1 0)), (2, .q (.ptr 2 0)), (3, .v (.i .i64 (kindOf x.k))), (5, .q (.ptr 5 0)), (6, .v (.i .i64 n)), (7, .v (.i .i64 m)), (8, .v (.i .i64 a.1))],
   [(1, [.i .i64 x.k, .i .i64 x.p, .i .u64 x.c, .l .z 2 (x.is.map eR), .l .z 1 (x.cs.map (.i .i64)), .i .i64 x.sp]), (2, [.i .i64 0, .i .i64 0, .i .u64 0, .l .x 1 [], .l .x 1 []]),
    (5, [.i .i64 (kindOf x.k), .i .i64 (paramOf x.k x.p), .i .u64 x.c, .l .x 1 (a.2.map (eLK .o 2 eI)), .l .x 1 []])], sg, sg.length⟩) (fun a => 60 - a.1) (fun a => a.1 ≤ 60 ∧ a.2.length = n ∧ (∀ l ∈ a.2, l.length ≤ a.1 ∧ ∀ y ∈ l, y.ok) ∧ (n ≠ 0 → dealI n a.2 a.1 ((x.is.take 60).drop a.1) = dealI n (List.replicate n []) 0 (x.is.take 60))) ?_ (0, List.replicate n []) ⟨by simp, by simp, by simp, by simp⟩
  rintro ⟨i, ls⟩ ⟨h1, h2, h4, h3⟩ ih
  simp only at h1 h2 h3 h4
  have w : IntKind.i64.wrap (↑i + 1) = (i : Int) + 1 := wrap64 (by omega)
  by_cases hgo : i < x.is.length ∧ i < 60 ∧ 0 < n
  ·obtain ⟨g1, g2, g3⟩ := hgo
   have g2' : (i : Int) < 60 := by omega
   have g3' : (0 : Int) < n := by omega
   have q1 : x.is[i]? = some x.is[i] := List.getElem?_eq_getElem g1
   have hr : Int.tmod (i : Int) n = ((i % n : Nat) : Int) := by rw [Int.tmod_eq_emod_of_nonneg (by omega)]; rfl
   have hlt : i % n < ls.length := by rw [h2]; exact Nat.mod_lt _ g3
   have q2 : ls[i % n]? = some ls[i % n] := List.getElem?_eq_getElem hlt
   have hx := h.1 _ (List.getElem_mem g1)
   have c1 := c_law04_Own x.is[i] sg
   have c2 := c_pile_Item_Canon x.is[i] hx sg
   simp at c1 c2
   have g3n : n ≠ 0 := by omega
   have hr2 : ((i : Int) % n).toNat = i % n := rfl
   have hr3 : (0 : Int) ≤ (i : Int) % n := Int.natCast_nonneg (i % n)
   simp [g1, g2', g3, g3', q1, hr, q2, hlt, c1, c2, g3n, hr2, hr3]
   have h5 := h4 _ (List.getElem_mem hlt)
   refine ⟨by omega, ?_⟩
   have e1 : (x.is.take 60).drop i = x.is[i] :: (x.is.take 60).drop (i + 1) := by
    rw [List.drop_eq_getElem_cons (by simp; omega)]; simp
   have := ih (i + 1, ls.set (i % n) (ls[i % n] ++ [x.is[i].canon])) (by simp; omega) ⟨by simp; omega, by simpa using h2, fun l hl => ?_, fun hn0 => ?_⟩
   ·simpa [w] using this
   ·rcases List.mem_or_eq_of_mem_set hl with hl | rfl
    ·exact ⟨by have := (h4 l hl).1; simp; omega, (h4 l hl).2⟩
    ·refine ⟨by simp; omega, fun y hy => ?_⟩
     rcases List.mem_append.1 hy with hy | hy
     ·exact h5.2 y hy
     ·simp at hy; subst hy; exact canon_ok _ hx
   ·rw [← h3 hn0, e1]; simp [dealI, q2]
  ·have hls : dealI n (List.replicate n []) 0 (if n = 0 then [] else x.is.take 60) = ls := by
    by_cases hn0 : n = 0
    ·subst hn0; simp [dealI]; exact List.length_eq_zero_iff.1 h2
    ·rw [if_neg hn0, ← h3 hn0]
     have : (x.is.take 60).drop i = [] := by apply List.drop_eq_nil_of_le; simp; omega
     rw [this]; rfl
   have hmk : makeI x = ⟨kindOf x.k, paramOf x.k x.p, x.c, if kindOf x.k = 1 then ls.map sortI else ls, makeCs m x.cs⟩ := by
    simp [makeI, hn, hm, hls]
   have hc : ¬ i < x.is.length ∨ (i < x.is.length ∧ ¬ (i : Int) < 60) ∨ (i < x.is.length ∧ (i : Int) < 60 ∧ ¬ 0 < n) := by omega
   rcases hc with g1 | ⟨g1, g2⟩ | ⟨g1, g2, g3⟩
   (simp [g1]) <;> skip
   rotate_left
   (simp [g1, g2]) <;> skip
   rotate_left
   (simp [g1, g2, g3]) <;> skip
   rotate_left
   all_goals
    refine wc_ind (fun a : Nat × List (List It) => ⟨[(1, .q (.ptr 1 0)), (2, .q (.ptr 2 0)), (3, .v (.i .i64 (kindOf x.k))), (5, .q (.ptr 5 0)), (7, .v (.i .i64 m)), (84, .v (.i .i64 ls.length)), (85, .v (.i .i64 a.1))],
     [(1, [.i .i64 x.k, .i .i64 x.p, .i .u64 x.c, .l .z 2 (x.is.map eR), .l .z 1 (x.cs.map (.i .i64)), .i .i64 x.sp]), (2, [.i .i64 0, .i .i64 0, .i .u64 0, .l .x 1 [], .l .x 1 []]), (5, [.i .i64 (kindOf x.k), .i .i64 (paramOf x.k x.p), .i .u64 x.c, .l .x 1 (a.2.map (eLK .o 2 eI)), .l .x 1 []])], sg, sg.length⟩)
     (fun a => ls.length - a.1) (fun a => a.1 ≤ ls.length ∧ a.2.length = ls.length ∧ ∀ t, a.2[t]? = if t < a.1 ∧ kindOf x.k = 1 then (ls[t]?).map sortI else ls[t]?) ?_ (0, ls) ⟨by simp, rfl, by simp⟩
    rintro ⟨j, cur⟩ ⟨p1, p2, p3⟩ ihj
    simp only at p1 p2 p3
    by_cases hj : j < ls.length
    ·have w3 : IntKind.i64.wrap (↑j + 1) = (j : Int) + 1 := wrap64 (by omega)
     have q1 : ls[j]? = some ls[j] := List.getElem?_eq_getElem hj
     have q2 : cur[j]? = some ls[j] := by rw [p3 j]; simp
     have hj2 : j < cur.length := by omega
     by_cases hk1 : kindOf x.k = 1
     ·have hs := c_law17_sorted ls[j] (h4 _ (List.getElem_mem hj)).2 (by have := (h4 _ (List.getElem_mem hj)).1; omega) sg
      have q3 : cur[j] = ls[j] := by have := List.getElem?_eq_getElem hj2; rw [q2] at this; exact (Option.some.inj this).symm
      simp [hj, hk1, q3, hs, hj2]
      have := ihj (j + 1, cur.set j (sortI ls[j])) (by simp; omega) ⟨by simp; omega, by simpa using p2, fun t => by
       rw [List.getElem?_set]
       by_cases e : j = t
       ·subst e; simp [hj2, hk1, q1]
       ·rw [if_neg e, p3 t]; simp [hk1]
        have : t < j + 1 ↔ t < j := by omega
        simp [this]⟩
      simpa [w3, hk1] using this
     ·have hk1' : (kindOf x.k == 1) = false := by simpa using hk1
      simp [hj, hk1']
      have := ihj (j + 1, cur) (by simp; omega) ⟨by simp; omega, p2, fun t => by rw [p3 t]; simp [hk1]⟩
      simpa [w3] using this
    ·simp [hj]
     have hcur : cur = (makeI x).ls := by
      rw [hmk]
      apply List.ext_getElem?
      intro t
      rw [p3 t]
      by_cases hk1 : kindOf x.k = 1
      ·simp only [hk1, if_true, List.getElem?_map]
       by_cases ht : t < j
       ·simp [ht]
       ·have : ls[t]? = none := List.getElem?_eq_none (by omega)
        simp [this]
      ·simp [hk1]
     have hcs : (makeI x).cs = makeCs m x.cs := by rw [hmk]
     have hki : (makeI x).k = kindOf x.k := by rw [hmk]
     have hpi : (makeI x).p = paramOf x.k x.p := by rw [hmk]
     have hci : (makeI x).c = x.c := by rw [hmk]
     rw [hcur]
     refine wc_up m (fun i => ⟨[(1, .q (.ptr 1 0)), (2, .q (.ptr 2 0)), (5, .q (.ptr 5 0)), (101, .v (.i .i64 m)), (102, .v (.i .i64 i))], [(1, [.i .i64 x.k, .i .i64 x.p, .i .u64 x.c, .l .z 2 (x.is.map eR), .l .z 1 (x.cs.map (.i .i64)), .i .i64 x.sp]), (2, [.i .i64 0, .i .i64 0, .i .u64 0, .l .x 1 [], .l .x 1 []]),
      (5, [.i .i64 (kindOf x.k), .i .i64 (paramOf x.k x.p), .i .u64 x.c, .l .x 1 ((makeI x).ls.map (eLK .o 2 eI)), .l .x 1 ((makeCs i x.cs).map (.i .i64))])], sg, sg.length⟩) (fun _ => True) ?_ ?_ 0 (by omega) trivial
     ·intro i hi _ ih
      have w : IntKind.i64.wrap (↑i + 1) = (i : Int) + 1 := wrap64 (by omega)
      have p1 : (i + 1) * 8 ≤ 140737488355328 := by omega
      by_cases hi2 : i < x.cs.length
      ·have q : x.cs[i]? = some x.cs[i] := List.getElem?_eq_getElem hi2
       have e : makeCs (i + 1) x.cs = makeCs i x.cs ++ [x.cs[i] % 1099511627776] := by simp [makeCs, List.range_succ, q]
       have el : (makeCs i x.cs).length = i := by simp [makeCs]
       simp [hi, hi2, q, i64_40, w, el, p1]
       simpa [e] using ih trivial
      ·have q : x.cs[i]? = none := List.getElem?_eq_none (by omega)
       have e : makeCs (i + 1) x.cs = makeCs i x.cs ++ [0] := by simp [makeCs, List.range_succ, q]
       have el : (makeCs i x.cs).length = i := by simp [makeCs]
       simp [hi, hi2, q, w, el, p1]
       simpa [e] using ih trivial
     ·intro _
      simp [eImK, hki, hpi, hci, hcs]
end Go.AM

namespace Go.AM
def eRmK (K1 K2 K3 : K) (x : Im) : D := .a [.i .i64 x.k, .i .i64 x.p, .i .u64 x.c, .l K1 1 (x.ls.map (eLK K2 2 eR)), .l K3 1 (x.cs.map (.i .i64))]
theorem zz_eRmK (K1 K2 K3 : K) (x : Im) : D.zz (eRmK K1 K2 K3 x) = eRm x := by simp [eRmK, eRm]
attribute [simp] zz_eRmK
def toldI (x : Im) : Im := { x with ls := x.ls.map (·.map It.canon) }
def Im.small (x : Im) : Prop := x.ls.length ≤ 1099511627776 ∧ x.cs.length ≤ 1099511627776 ∧ ∀ l ∈ x.ls, l.length ≤ 1099511627776
end Go.AM

namespace Go.AM
theorem sum_le {α : Type} (B : Nat) (f : α → Nat) : ∀ l : List α, (∀ x ∈ l, f x ≤ B) → (l.map f).sum ≤ l.length * B
 | [], _ => by simp
 | x :: l, h => by
  have := sum_le B f l (fun y hy => h y (by simp [hy]))
  have := h x (by simp)
  simp only [List.map_cons, List.sum_cons, List.length_cons, Nat.succ_mul]; omega
theorem isum_le (B : Int) (hB : 0 ≤ B) : ∀ l : List Int, (∀ x ∈ l, 0 ≤ x ∧ x ≤ B) → 0 ≤ l.sum ∧ l.sum ≤ l.length * B
 | [], _ => by simp
 | x :: l, h => by
  have h1 := isum_le B hB l (fun y hy => h y (by simp [hy]))
  have h2 := h x (by simp)
  have e : ((x :: l).length : Int) * B = l.length * B + B := by simp [Int.add_mul]
  rw [List.sum_cons, e]; omega
theorem dealI_len (n : Nat) : ∀ (r : List It) (a : List (List It)) (i : Nat), (dealI n a i r).length = a.length
 | [], _, _ => rfl
 | x :: r, a, i => by rw [dealI, dealI_len n r]; simp
theorem dealI_all (n B : Nat) : ∀ (r : List It) (a : List (List It)) (i : Nat), (∀ l ∈ a, l.length ≤ B ∧ ∀ y ∈ l, y.ok ∧ y.canon = y) → (∀ y ∈ r, y.ok) → ∀ l ∈ dealI n a i r, l.length ≤ B + r.length ∧ ∀ y ∈ l, y.ok ∧ y.canon = y
 | [], a, i, h, _ => by simpa [dealI] using h
 | x :: r, a, i, h, hr => by
  rw [dealI]
  have := dealI_all n (B + 1) r (a.set (i % n) ((a[i % n]?).getD [] ++ [x.canon])) (i + 1) (fun l hl => by
   rcases List.mem_or_eq_of_mem_set hl with hl | rfl
   ·exact ⟨by have := (h l hl).1; omega, (h l hl).2⟩
   ·have : ∀ l, a[i % n]? = some l → l.length ≤ B ∧ ∀ y ∈ l, y.ok ∧ y.canon = y := fun l hl => h l (mem_of_get hl)
    have hx : x.canon.ok ∧ x.canon.canon = x.canon := ⟨canon_ok x (hr x (by simp)), by simp [It.canon, canon_canon]⟩
    cases e : a[i % n]? with
    | none => refine ⟨by simp, fun y hy => ?_⟩; simp at hy; subst hy; exact hx
    | some l =>
     refine ⟨by have := (this l e).1; simp; omega, fun y hy => ?_⟩
     rcases List.mem_append.1 hy with hy | hy
     ·exact (this l e).2 y (by simpa using hy)
     ·simp at hy; subst hy; exact hx) (fun y hy => hr y (by simp [hy]))
  intro l hl
  have := this l hl
  exact ⟨by simp; omega, this.2⟩
theorem makeI_k (x : Raw) : (makeI x).k = kindOf x.k := rfl
theorem makeI_p (x : Raw) : (makeI x).p = paramOf x.k x.p := rfl
theorem makeI_legal (x : Raw) : legal (makeI x).k (makeI x).p = 0 := legal_kind x.k x.p
theorem makeI_nn (x : Raw) : 0 ≤ (shapeOf (makeI x).k (makeI x).p).1 ∧ 0 ≤ (shapeOf (makeI x).k (makeI x).p).2 := shape_nn _ _ (by have := paramOf_le x.k x.p; rw [makeI_p]; omega)
theorem makeI_lens (x : Raw) : ((makeI x).ls.length : Int) = (shapeOf (makeI x).k (makeI x).p).1 ∧ ((makeI x).cs.length : Int) = (shapeOf (makeI x).k (makeI x).p).2 := by
 have h := makeI_nn x
 rw [makeI_k, makeI_p] at h ⊢
 constructor
 ·have : (makeI x).ls.length = (shapeOf (kindOf x.k) (paramOf x.k x.p)).1.toNat := by
   simp only [makeI]; split <;> simp [dealI_len]
  omega
 ·have : (makeI x).cs.length = (shapeOf (kindOf x.k) (paramOf x.k x.p)).2.toNat := by simp [makeI, makeCs]
  omega
theorem makeI_ls (x : Raw) (h : x.ok) : ∀ l ∈ (makeI x).ls, l.length ≤ 60 ∧ ∀ y ∈ l, y.ok ∧ y.canon = y := by
 have hd : ∀ l ∈ dealI (shapeOf (kindOf x.k) (paramOf x.k x.p)).1.toNat (List.replicate (shapeOf (kindOf x.k) (paramOf x.k x.p)).1.toNat []) 0 (if (shapeOf (kindOf x.k) (paramOf x.k x.p)).1.toNat = 0 then [] else x.is.take 60), l.length ≤ 60 ∧ ∀ y ∈ l, y.ok ∧ y.canon = y := by
  intro l hl
  have hy : ∀ y ∈ (if (shapeOf (kindOf x.k) (paramOf x.k x.p)).1.toNat = 0 then [] else x.is.take 60), y.ok := by
   intro y hy
   split at hy
   ·simp at hy
   ·exact h.1 y (List.mem_of_mem_take hy)
  have := dealI_all _ 0 _ (List.replicate (shapeOf (kindOf x.k) (paramOf x.k x.p)).1.toNat []) 0 (fun l hl => by rw [(List.mem_replicate.1 hl).2]; simp) hy l hl
  refine ⟨?_, this.2⟩
  have h2 := this.1
  have : (if (shapeOf (kindOf x.k) (paramOf x.k x.p)).1.toNat = 0 then [] else x.is.take 60).length ≤ 60 := by split <;> simp; omega
  omega
 simp only [makeI]
 split
 ·intro l hl
  obtain ⟨m, hm, rfl⟩ := List.mem_map.1 hl
  rw [sortI_len]
  exact ⟨(hd m hm).1, fun y hy => (hd m hm).2 y ((sortI_perm m).mem_iff.1 hy)⟩
 ·exact hd
theorem makeI_cs (x : Raw) : ∀ n ∈ (makeI x).cs, 0 ≤ n ∧ n ≤ 1099511627775 := by
 intro n hn
 simp only [makeI, makeCs, List.mem_map] at hn
 obtain ⟨i, _, rfl⟩ := hn
 split <;> omega
theorem makeI_small (x : Raw) (h : x.ok) : (makeI x).small := by
 have h1 := makeI_lens x
 have h2 := shape_le _ _ (makeI_legal x)
 exact ⟨by omega, by omega, fun l hl => by have := (makeI_ls x h l hl).1; omega⟩
theorem makeI_sum (x : Raw) (h : x.ok) : ((makeI x).ls.map List.length).sum ≤ 960 := by
 have h1 := makeI_lens x
 have h2 := shape_le _ _ (makeI_legal x)
 have := sum_le 60 List.length (makeI x).ls (fun l hl => (makeI_ls x h l hl).1)
 have : (makeI x).ls.length ≤ 16 := by omega
 omega
theorem makeI_ok (x : Raw) (h : x.ok) : (makeI x).ok :=
 ⟨fun l hl y hy => ((makeI_ls x h l hl).2 y hy).1, fun n hn => by have := makeI_cs x n hn; omega, by have := makeI_sum x h; omega⟩
theorem ordersE_zero (k : Int) : ∀ ls : List (List It), (∀ l ∈ ls, orderE k l = 0) → ordersE k ls = 0
 | [], _ => rfl
 | l :: r, h => by rw [ordersE_cons_eq _ _ _ (h l (by simp))]; exact ordersE_zero k r (fun m hm => h m (by simp [hm]))
theorem makeI_check (x : Raw) (h : x.ok) : checkI (makeI x) = 0 := by
 have h1 := makeI_lens x
 have h2 := shape_le _ _ (makeI_legal x)
 have ho : ordersE (makeI x).k (makeI x).ls = 0 := ordersE_zero _ _ (fun l hl => by
  by_cases hk : kindOf x.k = 1
  ·have hlen := (makeI_ls x h l hl).1
   rw [makeI_k, hk]
   have : ordered l = true := by
    simp only [makeI, hk, if_true] at hl
    obtain ⟨m, _, rfl⟩ := List.mem_map.1 hl
    exact sortI_ordered m
   simp [orderE, this]; omega
  ·rw [makeI_k]; simp [orderE, hk])
 have hc : countsE (makeI x).cs = 0 := by
  have h3 := makeI_cs x
  have h4 := isum_le 1099511627775 (by omega) _ h3
  have : ((makeI x).cs.length : Int) ≤ 16 := by omega
  unfold countsE
  rw [if_neg]
  simp only [Bool.or_eq_true, decide_eq_true_eq, List.any_eq_true]
  rintro (⟨n, hn, hb⟩ | hb)
  ·have := h3 n hn; simp [badN] at hb; omega
  ·omega
 have := makeI_sum x h
 simp only [checkI, makeI_legal, ho, hc]
 rw [if_neg (by omega), if_neg (by omega), if_neg (by omega), if_neg (by omega)]
end Go.AM

namespace Go.AM
theorem map_eq_iff {α β γ : Type} (f : α → γ) (g : β → γ) (a : List α) (b : List β) (hl : a.length = b.length) : a.map f = b.map g ↔ ∀ i, ∀ (h : i < a.length), f a[i] = g (b[i]'(hl ▸ h)) := by
 constructor
 ·intro h i hi
  have h1 : (a.map f)[i]? = (b.map g)[i]? := by rw [h]
  rw [List.getElem?_map, List.getElem?_map, List.getElem?_eq_getElem hi, List.getElem?_eq_getElem (hl ▸ hi)] at h1
  simpa using h1
 ·intro h
  apply List.ext_getElem (by simp [hl])
  intro i h1 h2
  simp at h1
  simp [h i h1]
theorem cmpI_zero {x y : It} (hx : x.ok) (hy : y.ok) : cmpI x y = 0 ↔ x.canon = y.canon := by
 have h1 : cmpN (key x.p) (key y.p) = 0 ↔ AM.canon x.p = AM.canon y.p := by
  constructor
  ·intro h
   refine keyC_inj (canon_lt hx.1) (canon_lt hy.1) ?_
   show key x.p = key y.p
   unfold cmpN at h
   split at h
   ·omega
   ·split at h <;> omega
  ·intro h
   have : key x.p = key y.p := by unfold key; rw [h]
   unfold cmpN; rw [this]; simp
 unfold It.canon cmpI
 by_cases h : AM.canon x.p = AM.canon y.p
 ·rw [if_neg (by simp [h1.2 h])]
  simp only [h, It.mk.injEq, true_and]
  unfold cmpV
  split
  ·omega
  ·split <;> omega
 ·have : cmpN (key x.p) (key y.p) ≠ 0 := fun h2 => h (h1.1 h2)
  rw [if_pos this]
  simp [h, this]
instance : DecidableEq Im := fun x y => decidable_of_iff (x.k = y.k ∧ x.p = y.p ∧ x.c = y.c ∧ x.ls = y.ls ∧ x.cs = y.cs) (by cases x; cases y; simp)
end Go.AM

namespace Go.AM
abbrev leI (a b : It) : Prop := ¬ ltI b a
theorem leI_refl (a : It) : leI a a := by unfold leI ltI; omega
theorem leI_trans {a b c : It} (h1 : leI a b) (h2 : leI b c) : leI a c := ltI_trans' h1 h2
theorem leI_of_lt {a b : It} (h : ltI a b) : leI a b := by unfold leI ltI at *; omega
theorem swp_get {h : List It} {i j : Nat} (hi : i < h.length) (hj : j < h.length) (k : Nat) : (swp h i j)[k]! = if k = j then h[i]! else if k = i then h[j]! else h[k]! := by
 unfold swp
 simp only [List.getElem!_eq_getElem?_getD, List.getElem?_set, List.length_set]
 by_cases e : j = k
 ·subst e; simp [hj]
 ·rw [if_neg e, if_neg (Ne.symm e)]
  by_cases e2 : i = k
  ·subst e2; simp [hi]
  ·rw [if_neg e2, if_neg (Ne.symm e2)]
def HP (h : List It) (s n : Nat) : Prop := ∀ j, 1 ≤ j → j < n → s ≤ (j - 1) / 2 → leI h[(j - 1) / 2]! h[j]!
def PreH (h : List It) (i s n : Nat) : Prop := s ≤ i ∧ (∀ j, 1 ≤ j → j < n → s ≤ (j - 1) / 2 → (j - 1) / 2 ≠ i → leI h[(j - 1) / 2]! h[j]!) ∧
 (1 ≤ i → s ≤ (i - 1) / 2 → ∀ c, (c - 1) / 2 = i → 1 ≤ c → c < n → leI h[(i - 1) / 2]! h[c]!)
theorem pre_swp {h : List It} {i s n c : Nat} (hn : n ≤ h.length) (hp : PreH h i s n) (hc : c = 2 * i + 1 ∨ c = 2 * i + 2) (hcn : c < n) (hlt : ltI h[c]! h[i]!)
    (hsib : ∀ d, (d = 2 * i + 1 ∨ d = 2 * i + 2) → d < n → leI h[c]! h[d]!) : PreH (swp h i c) c s n := by
 obtain ⟨h1, h2, h3⟩ := hp
 have hi : i < h.length := by omega
 have hcl : c < h.length := by omega
 refine ⟨by omega, fun j j1 j2 j3 j4 => ?_, fun _ _ d d1 d2 d3 => ?_⟩
 ·rw [swp_get hi hcl, swp_get hi hcl, if_neg j4]
  by_cases e : j = c
  ·rw [if_pos e, if_pos (by omega)]
   exact leI_of_lt hlt
  ·rw [if_neg e]
   by_cases e2 : j = i
   ·rw [if_pos e2, if_neg (by omega)]
    subst e2
    exact h3 j1 j3 c (by omega) (by omega) hcn
   ·rw [if_neg e2]
    by_cases e3 : (j - 1) / 2 = i
    ·rw [if_pos e3]
     exact hsib j (by omega) j2
    ·rw [if_neg e3]
     exact h2 j j1 j2 j3 e3
 ·rw [swp_get hi hcl, swp_get hi hcl, if_neg (by omega), if_pos (by omega), if_neg (by omega), if_neg (by omega)]
  have := h2 d d2 d3 (by omega) (by omega)
  rw [d1] at this; exact this
theorem hp_stop {h : List It} {i s n : Nat} (hp : PreH h i s n) (hle : ∀ d, (d = 2 * i + 1 ∨ d = 2 * i + 2) → d < n → leI h[i]! h[d]!) : HP h s n := by
 intro j j1 j2 j3
 by_cases e : (j - 1) / 2 = i
 ·rw [e]; exact hle j (by omega) j2
 ·exact hp.2.1 j j1 j2 j3 e
theorem dn_hp {h : List It} {i n s : Nat} (hn : n ≤ h.length) (hp : PreH h i s n) : HP (dn h i n).1 s n := by
 fun_induction dn h i n with
 | case1 h i h1 h2 h3 ih =>
  refine ih (by rw [swp_len]; exact hn) (pre_swp hn hp (.inr rfl) h2.1 ((cmpI_lt _ _).1 h3) ?_)
  rintro d (rfl | rfl) hd
  ·exact leI_of_lt ((cmpI_lt _ _).1 h2.2)
  ·exact leI_refl _
 | case2 h i h1 h2 h3 =>
  refine hp_stop hp ?_
  have e3 : leI h[i]! h[2 * i + 2]! := (cmpI_ge _ _).1 (by omega)
  rintro d (rfl | rfl) hd
  ·exact leI_trans e3 (leI_of_lt ((cmpI_lt _ _).1 h2.2))
  ·exact e3
 | case3 h i h1 h2 h3 ih =>
  refine ih (by rw [swp_len]; exact hn) (pre_swp hn hp (.inl rfl) h1 ((cmpI_lt _ _).1 h3) ?_)
  rintro d (rfl | rfl) hd
  ·exact leI_refl _
  ·exact (cmpI_ge _ _).1 (Int.not_lt.1 (fun e => h2 ⟨hd, e⟩))
 | case4 h i h1 h2 h3 =>
  refine hp_stop hp ?_
  have e3 : leI h[i]! h[2 * i + 1]! := (cmpI_ge _ _).1 (by omega)
  rintro d (rfl | rfl) hd
  ·exact e3
  ·exact leI_trans e3 ((cmpI_ge _ _).1 (Int.not_lt.1 (fun e => h2 ⟨hd, e⟩)))
 | case5 h i h1 =>
  refine hp_stop hp ?_
  rintro d (rfl | rfl) hd <;> omega
theorem dn_above {h : List It} {i n : Nat} (hn : n ≤ h.length) (k : Nat) (hk : n ≤ k) : (dn h i n).1[k]! = h[k]! := by
 fun_induction dn h i n with
 | case1 h i h1 h2 h3 ih => rw [ih (by rw [swp_len]; exact hn), swp_get (by omega) (by omega), if_neg (by omega), if_neg (by omega)]
 | case2 h i h1 h2 h3 => rfl
 | case3 h i h1 h2 h3 ih => rw [ih (by rw [swp_len]; exact hn), swp_get (by omega) (by omega), if_neg (by omega), if_neg (by omega)]
 | case4 h i h1 h2 h3 => rfl
 | case5 h i h1 => rfl
theorem hini_hp : ∀ (k : Nat) (h : List It), HP h k h.length → HP (hini h k) 0 h.length
 | 0, h, hp => hp
 | k + 1, h, hp => by
  rw [hini]
  have e := dn_len h k h.length (Nat.le_refl _)
  have := hini_hp k (dn h k h.length).1 (by
   rw [e]
   refine dn_hp (Nat.le_refl _) ⟨Nat.le_refl _, fun j j1 j2 j3 j4 => hp j j1 j2 (by omega), fun h1 h2 => by omega⟩)
  rw [e] at this; exact this
theorem newH_hp (l : List It) : HP (newH l) 0 (newH l).length := by
 rw [newH_len]
 have := hini_hp (l.length / 2) (l.map It.canon) (fun j j1 j2 j3 => by simp at j2; omega)
 simpa [newH] using this
theorem hp_min {h : List It} {n : Nat} (hp : HP h 0 n) : ∀ k, k < n → leI h[0]! h[k]! := by
 intro k
 induction k using Nat.strongRecOn with
 | ind k ih =>
  intro hk
  by_cases e : k = 0
  ·subst e; exact leI_refl _
  ·exact leI_trans (ih ((k - 1) / 2) (by omega) (by omega)) (hp k (by omega) hk (Nat.zero_le _))
theorem popH_first {h : List It} (h0 : h ≠ []) : (popH h).1 = h[0]! := by
 have hpos : 0 < h.length := List.length_pos_iff.2 h0
 show (dn (swp h 0 (h.length - 1)) 0 (h.length - 1)).1[h.length - 1]! = _
 rw [dn_above (by rw [swp_len]; omega) _ (Nat.le_refl _), swp_get hpos (by omega), if_pos rfl]
theorem popH_hp {h : List It} (h0 : h ≠ []) (hp : HP h 0 h.length) : HP (popH h).2 0 (popH h).2.length := by
 have hpos : 0 < h.length := List.length_pos_iff.2 h0
 rw [popH_len h0]
 have e : HP (dn (swp h 0 (h.length - 1)) 0 (h.length - 1)).1 0 (h.length - 1) := by
  refine dn_hp (by rw [swp_len]; omega) ⟨Nat.le_refl _, fun j j1 j2 j3 j4 => ?_, fun h1 => by omega⟩
  rw [swp_get hpos (by omega), swp_get hpos (by omega), if_neg (by omega), if_neg (by omega), if_neg (by omega), if_neg (by omega)]
  exact hp j j1 (by omega) j3
 intro j j1 j2 j3
 have e2 : ∀ k, k < h.length - 1 → (popH h).2[k]! = (dn (swp h 0 (h.length - 1)) 0 (h.length - 1)).1[k]! := by
  intro k hk
  simp only [popH, List.getElem!_eq_getElem?_getD, List.getElem?_take, if_pos hk]
 rw [e2 _ (by omega), e2 _ j2]
 exact e j j1 j2 j3
theorem allH_perm (h : List It) : (allH h).Perm h := by
 fun_induction allH h with
 | case1 => exact .refl _
 | case2 h h0 ih => exact (ih.cons _).trans (popH_perm h0)
theorem allH_ordered (h : List It) (hp : HP h 0 h.length) : (allH h).Pairwise leI := by
 fun_induction allH h with
 | case1 => exact .nil
 | case2 h h0 ih =>
  refine List.pairwise_cons.2 ⟨fun y hy => ?_, ih (popH_hp h0 hp)⟩
  have hy2 : y ∈ h := (popH_perm h0).mem_iff.1 (List.mem_cons_of_mem _ ((allH_perm _).mem_iff.1 hy))
  obtain ⟨k, hk, rfl⟩ := List.mem_iff_getElem.1 hy2
  rw [popH_first h0]
  have := hp_min hp k hk
  rwa [getElem!_pos h k hk] at this
theorem leI_antisymm {a b : It} (ha : a.ok) (hb : b.ok) (ca : a.canon = a) (cb : b.canon = b) (h1 : leI a b) (h2 : leI b a) : a = b := by
 have : cmpI a b = 0 := by
  have e1 := (cmpI_ge a b).2 h2
  have e2 := (cmpI_ge b a).2 h1
  rw [cmpI_swap] at e2
  omega
 have := (cmpI_zero ha hb).1 this
 rwa [ca, cb] at this
theorem ordered_unique {l m : List It} (hl : ∀ x ∈ l, x.ok ∧ x.canon = x) (h1 : l.Pairwise leI) (h2 : m.Pairwise leI) (hp : l.Perm m) : l = m := by
 refine List.Perm.eq_of_pairwise (le := leI) (fun a b ha hb e1 e2 => ?_) h1 h2 hp
 have hb' := hl b (hp.mem_iff.2 hb)
 have ha' := hl a ha
 exact leI_antisymm ha'.1 hb'.1 ha'.2 hb'.2 e1 e2
theorem allH_sort (l : List It) (hok : ∀ x ∈ l, x.ok) : allH (newH l) = sortI (l.map It.canon) := by
 refine ordered_unique (fun x hx => ?_) (allH_ordered _ (newH_hp l)) ((ordered_pw _).1 (sortI_ordered _)) ?_
 ·have := (newH_perm l).mem_iff.1 ((allH_perm _).mem_iff.1 hx)
  obtain ⟨y, hy, rfl⟩ := List.mem_map.1 this
  exact ⟨canon_okI (hok y hy), by simp [It.canon, canon_canon]⟩
 ·exact (allH_perm _).trans ((newH_perm l).trans (sortI_perm _).symm)
theorem c_Sorted (l : List It) (hl : l.length < 1000000000) (hok : ∀ x ∈ l, x.ok) (sg : List (List D)) :
    LL.call n_pile_Sorted [.l .z 2 (l.map eI)] sg sg.length = some (.l .o 2 ((sortI (l.map It.canon)).map eI), sg, sg.length) := by
 rw [c_pile_Sorted l hl hok sg, allH_sort l hok]
end Go.AM

namespace Go.AM
structure Vl where
 k : Int
 is : List It
 n : Int
 deriving DecidableEq
def eVl (K : K) (v : Vl) : D := .a [.i .i64 v.k, .l K 2 (v.is.map eI), .i .i64 v.n]
def eVr (K : K) (v : Vl) : D := .a [.i .i64 v.k, .l K 2 (v.is.map eR), .i .i64 v.n]
def valI (x : Im) : Vl := ⟨x.k, if x.k = 1 then sortI (x.ls.flatten.map It.canon) else x.ls.flatten, x.cs.sum⟩
theorem isum_nn : ∀ l : List Int, (∀ n ∈ l, 0 ≤ n) → 0 ≤ l.sum
 | [], _ => by simp
 | x :: l, h => by
  have := isum_nn l (fun n hn => h n (by simp [hn]))
  have := h x (by simp)
  simp only [List.sum_cons]; omega
theorem c_image_Value (x : Im) (ho : x.ok) (hs : x.ls.length ≤ 1099511627776 ∧ x.cs.length ≤ 1099511627776) (hc : ∀ n ∈ x.cs, 0 ≤ n) (hsum : x.cs.sum ≤ 1152921504606846976) (hit : x.ls.flatten.length < 1000000000) (sg) :
    LL.call n_image_Image_Value [eIm x] sg sg.length = some (eVl .o (valI x), sg, sg.length) := by
 generalize hr : eVl .o (valI x) = r
 refine wp_call e_image_Image_Value rfl ?_
 simp [F_image_Image_Value, eIm]
 obtain ⟨is, his⟩ : ∃ is, is = (valI x).is := ⟨_, rfl⟩
 have hsk : ∀ i, 0 ≤ (x.cs.take i).sum ∧ (x.cs.take i).sum ≤ x.cs.sum := by
  intro i
  have h1 : 0 ≤ (x.cs.take i).sum := isum_nn _ (fun n hn => hc n (List.mem_of_mem_take hn))
  have h2 : 0 ≤ (x.cs.drop i).sum := isum_nn _ (fun n hn => hc n (List.mem_of_mem_drop hn))
  have h3 : (x.cs.take i).sum + (x.cs.drop i).sum = x.cs.sum := by rw [← List.sum_append, List.take_append_drop]
  omega
 obtain ⟨fl, hfl⟩ : ∃ fl : Nat → List It, ∀ i, fl i = (x.ls.take i).flatten := ⟨_, fun _ => rfl⟩
 have fl0 : fl 0 = [] := by rw [hfl]; rfl
 have fln : fl x.ls.length = x.ls.flatten := by rw [hfl, List.take_length]
 have fls : ∀ i (hi : i < x.ls.length), fl (i + 1) = fl i ++ x.ls[i] := by
  intro i hi
  rw [hfl, hfl, List.take_succ_eq_append_getElem hi, List.flatten_append, List.flatten_cons, List.flatten_nil, List.append_nil]
 have fll : ∀ i, (fl i).length ≤ x.ls.flatten.length := by
  intro i
  have e : x.ls.flatten = (x.ls.take i).flatten ++ (x.ls.drop i).flatten := by rw [← List.flatten_append, List.take_append_drop]
  rw [hfl, e]; simp
 have e0 : (.l .o 2 [] : D) = .l .o 2 ((fl 0).map eI) := by rw [fl0]; rfl
 refine wc_up x.ls.length (fun i => ⟨[(1, .q (.ptr 1 0)), (2, .q (.ptr 2 0)), (3, .q (.ptr 3 0)), (12, .v (.l .z 1 (x.ls.map (eL 2 eI)))), (13, .v (.i .i64 x.ls.length)), (14, .v (.i .i64 i))],
  [(1, [.i .i64 x.k, .i .i64 x.p, .i .u64 x.c, .l .z 1 (x.ls.map (eL 2 eI)), .l .z 1 (x.cs.map (.i .i64))]), (2, [.i .i64 0, .l .o 2 [], .i .i64 0]), (3, [.i .i64 x.k, if i = 0 then .l .o 2 [] else .l .o 2 ((fl i).map eI), .i .i64 0])], sg, sg.length⟩) (fun _ => True) ?_ ?_ 0 (by omega) trivial
 ·intro i hi _ ih
  have ih := ih trivial
  have w1 : IntKind.i64.wrap ((i : Int) + 1) = ((i + 1 : Nat) : Int) := by rw [wrap64 (by omega)]; omega
  have hlen := fll (i + 1)
  have e1 : (if i = 0 then .l .o 2 [] else .l .o 2 ((fl i).map eI) : D) = .l .o 2 ((fl i).map eI) := by
   split
   ·rename_i h; subst h; exact e0
   ·rfl
  rw [fls i hi] at ih hlen
  rw [List.length_append] at hlen
  simp only [e1]
  simp [hi, w1, eL]
  refine ⟨by omega, ?_⟩
  simpa using ih
 ·intro _
  have e1 : (if x.ls.length = 0 then .l .o 2 [] else .l .o 2 ((fl x.ls.length).map eI) : D) = .l .o 2 ((fl x.ls.length).map eI) := by
   split
   ·rename_i h; rw [h]; exact e0
   ·rfl
  simp only [e1]
  simp only [fln]
  obtain ⟨is0, his0⟩ : ∃ is0, is0 = x.ls.flatten := ⟨_, rfl⟩
  have S1 := c_Sorted is0 (by rw [his0]; exact hit) (fun y hy => by
      rw [his0] at hy
      obtain ⟨l, hl, hy⟩ := List.mem_flatten.1 hy
      exact ho.1 l hl y hy) sg
  rw [← his0]
  have L : ∀ js : List It, js = is → True := fun _ _ => trivial
  simp
  refine bq_i (fun c1 => ?_) (fun c1 => ?_) <;> (have c1' := c1) <;> simp at c1'
  ·have ei : sortI (is0.map It.canon) = is := by rw [his, his0]; simp [valI, c1']
   rw [ei] at S1
   simp [S1]
   refine wc_up x.cs.length (fun i => ⟨[(2, .q (.ptr 2 0)), (3, .q (.ptr 3 0)), (32, .v (.l .z 1 (x.cs.map (.i .i64)))), (33, .v (.i .i64 x.cs.length)), (34, .v (.i .i64 i))],
    [(2, [.i .i64 0, .l .o 2 [], .i .i64 0]), (3, [.i .i64 x.k, .l .o 2 (is.map eI), .i .i64 (x.cs.take i).sum])], sg, sg.length⟩) (fun _ => True) ?_ ?_ 0 (by omega) trivial
   ·intro i hi _ ih
    have ih := ih trivial
    have w1 : IntKind.i64.wrap ((i : Int) + 1) = ((i + 1 : Nat) : Int) := by rw [wrap64 (by omega)]; omega
    have hs1 := hsk (i + 1)
    have e2 : (x.cs.take (i + 1)).sum = (x.cs.take i).sum + x.cs[i] := by rw [List.take_succ_eq_append_getElem hi, List.sum_append]; simp
    rw [e2] at ih hs1
    have w2 : IntKind.i64.wrap ((x.cs.take i).sum + x.cs[i]) = (x.cs.take i).sum + x.cs[i] := wrap64 (by omega)
    simp [hi, w1, w2]
    simpa using ih
   ·intro _
    subst hr
    simp [List.take_length, eVl, his, valI]
  ·have ei : is0 = is := by rw [his, his0]; simp [valI, c1']
   rw [ei]
   simp
   refine wc_up x.cs.length (fun i => ⟨[(2, .q (.ptr 2 0)), (3, .q (.ptr 3 0)), (32, .v (.l .z 1 (x.cs.map (.i .i64)))), (33, .v (.i .i64 x.cs.length)), (34, .v (.i .i64 i))],
    [(2, [.i .i64 0, .l .o 2 [], .i .i64 0]), (3, [.i .i64 x.k, .l .o 2 (is.map eI), .i .i64 (x.cs.take i).sum])], sg, sg.length⟩) (fun _ => True) ?_ ?_ 0 (by omega) trivial
   ·intro i hi _ ih
    have ih := ih trivial
    have w1 : IntKind.i64.wrap ((i : Int) + 1) = ((i + 1 : Nat) : Int) := by rw [wrap64 (by omega)]; omega
    have hs1 := hsk (i + 1)
    have e2 : (x.cs.take (i + 1)).sum = (x.cs.take i).sum + x.cs[i] := by rw [List.take_succ_eq_append_getElem hi, List.sum_append]; simp
    rw [e2] at ih hs1
    have w2 : IntKind.i64.wrap ((x.cs.take i).sum + x.cs[i]) = (x.cs.take i).sum + x.cs[i] := wrap64 (by omega)
    simp [hi, w1, w2]
    simpa using ih
   ·intro _
    subst hr
    simp [List.take_length, eVl, his, valI]
end Go.AM

namespace Go.AM
def withI (x : It) : List It → List It
 | [] => [x]
 | y :: l => if cmpI x y < 0 then x :: y :: l else y :: withI x l
def withs (l : List It) (o : List It) : List It := l.foldl (fun o x => withI x o) o
theorem makeI_flat (x : Raw) (h : x.ok) : (makeI x).ls.flatten.length ≤ 960 := by
 have := makeI_sum x h
 rwa [← List.length_flatten] at this
end Go.AM

namespace Go.AM
structure Cl where
 v : Nat
 n : Int
 l : List It
 deriving DecidableEq, Inhabited
structure Mem where
 cs : List Cl
 ck : Nat
def eC (c : Cl) : D := .a [.i .u64 c.v, .i .i64 c.n, .l .o 2 (c.l.map eI)]
def eMem (m : Mem) : List D := [.l .x 3 (m.cs.map eC), .i .u64 m.ck]
def zC : Cl := ⟨0, 0, []⟩
def rdM (m : Mem) (i : Int) : Cl := if 0 ≤ i then (m.cs[i.toNat]?).getD zC else zC
def Cl.ok (c : Cl) : Prop := c.l.length ≤ 1000000
theorem c_cell_Value_Clone (n : Int) (l : List It) (h : l.length ≤ 1000000) (sg) : LL.call n_cell_Value_Clone [.a [.i .i64 n, .l .z 2 (l.map eI)]] sg sg.length = some (.a [.i .i64 n, .l .o 2 (l.map eI)], sg, sg.length) := by
 refine wp_call e_cell_Value_Clone rfl ?_
 simp [F_cell_Value_Clone]
 omega
theorem rdM_lt {m : Mem} {i : Int} (h0 : 0 ≤ i) (h : i.toNat < m.cs.length) : rdM m i = m.cs[i.toNat] := by simp [rdM, h0, h]
theorem rdM_out {m : Mem} {i : Int} (h : i < 0 ∨ (m.cs.length : Int) ≤ i) : rdM m i = zC := by
 unfold rdM
 split
 ·rw [List.getElem?_eq_none (by omega)]; rfl
 ·rfl
theorem c_cell_Memory_Read (m : Mem) (i : Int) (sg : List (List D)) (r : Nat) (hr : sg[r]? = some (eMem m)) (hm : ∀ c ∈ m.cs, c.ok) : LL.call n_cell_Memory_Read [.p r 0, .i .i64 i] sg sg.length = some (eC (rdM m i), sg, sg.length) := by
 refine wp_call e_cell_Memory_Read rfl ?_
 have hr' : sg[r]? = some [.l .x 3 (m.cs.map eC), .i .u64 m.ck] := hr
 by_cases h1 : i < 0
 ·simp [F_cell_Memory_Read, hr', h1, rdM_out (.inl h1), zC, eC]
 ·by_cases h2 : (m.cs.length : Int) ≤ i
  ·simp [F_cell_Memory_Read, hr', h1, h2, rdM_out (.inr h2), zC, eC]
  ·obtain ⟨k, rfl⟩ : ∃ k : Nat, i = k := ⟨i.toNat, by omega⟩
   have hk : k < m.cs.length := by omega
   have hC := c_cell_Value_Clone m.cs[k].n m.cs[k].l (hm _ (List.getElem_mem hk)) sg
   rw [rdM_lt (by omega) (by simpa using hk)]
   simp [F_cell_Memory_Read, hr', h1, h2, hk, eC, hC]
def padM (cs : List Cl) (i : Nat) : List Cl := cs ++ List.replicate (i + 1 - cs.length) zC
def wrB (m : Mem) (i : Int) (ver : Nat) : Bool := decide (0 ≤ i ∧ i < 1000 ∧ (rdM m i).v = ver)
def putM (m : Mem) (i : Nat) (n : Int) (l : List It) : Mem := ⟨(padM m.cs i).set i ⟨m.ck + 1, n, l⟩, m.ck + 1⟩
def wrM (m : Mem) (i : Int) (ver : Nat) (n : Int) (l : List It) : Mem := if wrB m i ver then putM m i.toNat n l else m
theorem nr_eC (n : Nat) (c : Cl) : D.nr n (eC c) = true := by simp [eC]
theorem nrs_eC (n : Nat) : ∀ l : List Cl, D.nrs n (l.map eC) = true
 | [] => rfl
 | c :: l => by simp only [List.map_cons, D.nrs, nr_eC, nrs_eC n l, Bool.and_self]
theorem nrs_eCr (n : Nat) (c : Cl) : ∀ j, D.nrs n (List.replicate j (eC c)) = true
 | 0 => rfl
 | j + 1 => by simp only [List.replicate_succ, D.nrs, nr_eC, nrs_eCr n c j, Bool.and_self]
theorem ex_fr (a : List (Nat × R)) : ∃ X : Nat → List (Nat × R), X 0 = a ∧ ∀ k, X (k + 1) = [] := ⟨fun k => if k = 0 then a else [], by simp, by simp⟩
theorem set_same {α : Type} {l : List α} {r : Nat} {a : α} (h : l[r]? = some a) : l.set r a = l := by
 apply List.ext_getElem?
 intro i
 rw [List.getElem?_set]
 split
 ·rename_i e; subst e
  split
  ·exact h.symm
  ·rename_i h2; rw [List.getElem?_eq_none (by omega)] at h; cases h
 ·rfl
theorem take_set {α : Type} (l : List α) (r : Nat) (a : α) : List.take l.length (l.set r a) = l.set r a := List.take_of_length_le (by simp)
theorem get_lt {α : Type} {l : List α} {r : Nat} {a : α} (h : l[r]? = some a) : r < l.length := by
 rcases Nat.lt_or_ge r l.length with h' | h'
 ·exact h'
 ·rw [List.getElem?_eq_none h'] at h; cases h
theorem wc_upe {B : C} {Q : Rs → Prop} {s : St} (n : Nat) (st : Nat → St) (hs : s = st 0)
    (h : ∀ i, i < n → @WC (.loop B) (st (i + 1)) ⟨Q⟩ trivial → @WC B (st i) ⟨fun r => @SqQ (.loop B) ⟨Q⟩ r trivial⟩ trivial)
    (he : @WC B (st n) ⟨fun r => @SqQ (.loop B) ⟨Q⟩ r trivial⟩ trivial) : @WC (.loop B) s ⟨Q⟩ trivial := by
 rw [hs]
 exact wc_up n st (fun _ => True) (fun i hi _ ih => h i hi (ih trivial)) (fun _ => he) 0 (by omega) trivial
theorem c_cell_Memory_Write (m : Mem) (i : Int) (ver : Nat) (n : Int) (l : List It) (sg : List (List D)) (r : Nat) (hr : sg[r]? = some (eMem m)) (hm : ∀ c ∈ m.cs, c.ok) (hl : l.length ≤ 1000000) (hc : m.ck < 1000000000) (hlen : m.cs.length ≤ 1000) :
    LL.call n_cell_Memory_Write [.p r 0, .i .i64 i, .i .u64 ver, .a [.i .i64 n, .l .z 2 (l.map eI)]] sg sg.length = some (.b (wrB m i ver), sg.set r (eMem (wrM m i ver n l)), sg.length) := by
 refine wp_call e_cell_Memory_Write rfl ?_
 have hr' : sg[r]? = some [.l .x 3 (m.cs.map eC), .i .u64 m.ck] := hr
 have hlt := get_lt hr
 have hss := set_same hr
 have hg : ∀ a, (sg.set r a)[r]? = some a := fun a => List.getElem?_set_self hlt
 have hR := c_cell_Memory_Read m i sg r hr hm
 have hX := ex_fr [(22, R.v (D.b false))]
 by_cases h1 : i < 0
 ·have hb : wrB m i ver = false := by simp [wrB]; omega
  simp [F_cell_Memory_Write, h1, hb, wrM, hss]
 ·by_cases h2 : (1000 : Int) ≤ i
  ·have hb : wrB m i ver = false := by simp [wrB]; omega
   simp [F_cell_Memory_Write, h1, h2, hb, wrM, hss]
  ·by_cases h3 : (rdM m i).v = ver
   ·have hb : wrB m i ver = true := by simp [wrB, h3]; omega
    obtain ⟨X, hX0, hXs⟩ := hX
    simp [F_cell_Memory_Write, h1, h2, hb, wrM, hR, h3, eC]
    obtain ⟨k, rfl⟩ : ∃ k : Nat, i = k := ⟨i.toNat, by omega⟩
    refine wc_upe (k + 1 - m.cs.length) (fun j => ⟨[(0, R.v (D.p r 0)), (1, R.v (D.i IntKind.i64 k)), (7, R.q (Q.ptr 7 0))] ++ X j, [(7, [D.i IntKind.i64 n, D.l K.z 2 (List.map eI l)])], sg.set r [D.l K.x 3 ((m.cs ++ List.replicate j zC).map eC), D.i IntKind.u64 ↑m.ck], sg.length⟩) ?_ ?_ ?_
    ·simp [hX0]; simpa [eMem] using hss.symm
    ·intro j hj ih
     rw [hXs] at ih
     have hb1 : ((m.cs.length : Int) + (j : Int)) ≤ (k : Int) := by omega
     have hb2 : m.cs.length + j ≤ k := by omega
     have ec : [eC zC] = [.a [.i .u64 0, .i .i64 0, .l .o 2 []]] := rfl
     rw [List.replicate_succ'] at ih
     simp at ih
     rw [ec] at ih
     simp [hg, hb1, hb2, nrs_eC, nrs_eCr]
     exact ⟨by omega, ih⟩
    ·have hb1 : ¬ ((m.cs.length : Int) + ((k + 1 - m.cs.length : Nat) : Int)) ≤ (k : Int) := by omega
     have hC : callpv LL n_cell_Value_Clone [.a [.i .i64 n, .l .z 2 (l.map eI)]] = some (.a [.i .i64 n, .l .o 2 (l.map eI)]) := callpv_of (by simp) (c_cell_Value_Clone n l hl [])
     have hp : List.map eC m.cs ++ List.replicate (k + 1 - m.cs.length) (eC zC) = (padM m.cs k).map eC := by simp [padM]
     have hpl : k < (padM m.cs k).length := by simp [padM]; omega
     obtain ⟨c, hcc⟩ : ∃ c, (padM m.cs k)[k] = c := ⟨_, rfl⟩
     have he : eC c = .a [.i .u64 c.v, .i .i64 c.n, .l .o 2 (c.l.map eI)] := rfl
     have w1 : IntKind.u64.wrap ((m.ck : Int) + 1) = (m.ck : Int) + 1 := wrapu64 (by omega)
     have hset : ((padM m.cs k).map eC).set k (.a [.i .u64 ((m.ck : Int) + 1), .i .i64 n, .l .o 2 (l.map eI)]) = ((padM m.cs k).set k ⟨m.ck + 1, n, l⟩).map eC := by rw [List.map_set]; simp [eC]
     simp [hg, hb1, hC, hp, hcc, he, w1, hset, hpl, Nat.not_le.2 hpl, eMem, putM, take_set, -List.map_set]
     rw [hb]
     exact ⟨rfl, rfl⟩
   ·have hb : wrB m i ver = false := by simp [wrB, h3]
    have h3' : (((rdM m i).v : Int) != ver) = true := by simp; omega
    simp [F_cell_Memory_Write, h1, h2, hb, wrM, hR, h3, h3', eC, hss]
theorem c_cell_Memory_Force (m : Mem) (i : Int) (n : Int) (l : List It) (sg : List (List D)) (r : Nat) (hr : sg[r]? = some (eMem m)) (hm : ∀ c ∈ m.cs, c.ok) (hl : l.length ≤ 1000000) (hc : m.ck < 1000000000) (hlen : m.cs.length ≤ 1000) :
    LL.call n_cell_Memory_Force [.p r 0, .i .i64 i, .a [.i .i64 n, .l .z 2 (l.map eI)]] sg sg.length = some (.b (wrB m i (rdM m i).v), sg.set r (eMem (wrM m i (rdM m i).v n l)), sg.length) := by
 refine wp_call e_cell_Memory_Force rfl ?_
 have hR := c_cell_Memory_Read m i sg r hr hm
 have hW := c_cell_Memory_Write m i (rdM m i).v n l sg r hr hm hl hc hlen
 simp [F_cell_Memory_Force, hR, hW, eC, take_set]
theorem c_cell_Memory_Len (m : Mem) (sg : List (List D)) (r : Nat) (hr : sg[r]? = some (eMem m)) : LL.call n_cell_Memory_Len [.p r 0] sg sg.length = some (.i .i64 m.cs.length, sg, sg.length) := by
 refine wp_call e_cell_Memory_Len rfl ?_
 simp [F_cell_Memory_Len, hr, eMem]
theorem c_cell_New (sg : List (List D)) : LL.call n_cell_New [] sg sg.length = some (.p sg.length 0, sg ++ [eMem ⟨[], 0⟩], sg.length) := by
 refine wp_call e_cell_New rfl ?_
 simp [F_cell_New, eMem]
end Go.AM

namespace Go.AM
end Go.AM

namespace Go.AM
structure Pt where
 at_ : Int
 n : Int
 l : List It
def ePt (p : Pt) : D := .a [.i .i64 p.at_, .i .i64 p.n, .l .z 2 (p.l.map eR)]
instance : Flat ePt := ⟨fun _ => rfl, fun p => by simp [ePt], fun n p => by simp [ePt]⟩
def Pt.ok (p : Pt) : Prop := 0 ≤ p.at_ ∧ p.at_ < 1000 ∧ p.l.length ≤ 1000000
def rdP : List Pt → Nat → Int → Cl → Cl
 | [], _, _, c => c
 | p :: ps, k, i, c => rdP ps (k + 1) i (if p.at_ = i then ⟨k + 1, p.n, p.l⟩ else c)
def memOf (ps : List Pt) : Mem := ps.foldl (fun m p => putM m p.at_.toNat p.n p.l) ⟨[], 0⟩
def lenP (ps : List Pt) : Int := ps.foldl (fun n p => max n (p.at_ + 1)) 0
theorem wc_listi {α β : Type} {B : C} {Q : Rs → Prop} {s : St} (l : List α) (st : Nat → β → St) (P : Nat → List α → β → Prop) (b : β) (hs : s = st 0 b) (hb : P 0 l b)
    (h : ∀ i x r b (hi : i < l.length), l[i] = x → P i (x :: r) b → (∀ b', P (i + 1) r b' → @WC (.loop B) (st (i + 1) b') ⟨Q⟩ trivial) → @WC B (st i b) ⟨fun r => @SqQ (.loop B) ⟨Q⟩ r trivial⟩ trivial)
    (he : ∀ b, P l.length [] b → @WC B (st l.length b) ⟨fun r => @SqQ (.loop B) ⟨Q⟩ r trivial⟩ trivial) : @WC (.loop B) s ⟨Q⟩ trivial := by
 rw [hs]
 refine wc_ind (fun a : Nat × β => st a.1 a.2) (fun a => l.length - a.1) (fun a => a.1 ≤ l.length ∧ P a.1 (l.drop a.1) a.2) ?_ (0, b) ⟨by simp, by simpa using hb⟩
 rintro ⟨i, b⟩ ⟨h1, h2⟩ ih
 simp only at h1 h2 ih ⊢
 rcases Nat.lt_or_eq_of_le h1 with h3 | h3
 ·rw [List.drop_eq_getElem_cons h3] at h2
  exact h i l[i] _ b h3 rfl h2 (fun b' hb' => ih (i + 1, b') (by simp; omega) ⟨h3, hb'⟩)
 ·subst h3; rw [List.drop_length] at h2; exact he b h2
theorem padM_len (cs : List Cl) (i : Nat) : (padM cs i).length = max cs.length (i + 1) := by simp [padM]; omega
theorem padM_get (cs : List Cl) (i j : Nat) : ((padM cs i)[j]?).getD zC = (cs[j]?).getD zC := by
 unfold padM
 rw [List.getElem?_append]
 split
 ·rfl
 ·rename_i h
  rw [List.getElem?_eq_none (l := cs) (by omega), List.getElem?_replicate]
  split <;> rfl
theorem rdM_putM (m : Mem) (a : Nat) (n : Int) (l : List It) (i : Int) : rdM (putM m a n l) i = if (a : Int) = i then ⟨m.ck + 1, n, l⟩ else rdM m i := by
 have hl := padM_len m.cs a
 unfold rdM putM
 by_cases h0 : 0 ≤ i
 ·simp only [if_pos h0]
  rw [List.getElem?_set]
  by_cases h : (a : Int) = i
  ·rw [if_pos h, if_pos (by omega), if_pos (by omega)]; rfl
  ·rw [if_neg h, if_neg (by omega), padM_get]
 ·simp only [if_neg h0]
  rw [if_neg (by omega)]
theorem mem_ck : ∀ (ps : List Pt) (m : Mem), (ps.foldl (fun m p => putM m p.at_.toNat p.n p.l) m).ck = m.ck + ps.length
 | [], m => by simp
 | p :: ps, m => by simp only [List.foldl_cons, mem_ck ps, List.length_cons]; simp only [putM]; omega
theorem mem_rd : ∀ (ps : List Pt) (m : Mem) (i : Int), (∀ p ∈ ps, p.ok) → rdM (ps.foldl (fun m p => putM m p.at_.toNat p.n p.l) m) i = rdP ps m.ck i (rdM m i)
 | [], m, i, h => rfl
 | p :: ps, m, i, h => by
  have h1 := (h p (by simp)).1
  rw [List.foldl_cons, mem_rd ps _ i (fun q hq => h q (by simp [hq])), rdM_putM, rdP]
  rw [show ((p.at_.toNat : Nat) : Int) = p.at_ by omega]
  rfl
theorem mem_len : ∀ (ps : List Pt) (m : Mem), (∀ p ∈ ps, p.ok) → ((ps.foldl (fun m p => putM m p.at_.toNat p.n p.l) m).cs.length : Int) = ps.foldl (fun n p => max n (p.at_ + 1)) (m.cs.length : Int)
 | [], m, h => rfl
 | p :: ps, m, h => by
  have h1 := (h p (by simp)).1
  rw [List.foldl_cons, mem_len ps _ (fun q hq => h q (by simp [hq])), List.foldl_cons]
  congr 1
  simp only [putM, List.length_set, padM_len]
  omega
theorem mem_ok : ∀ (ps : List Pt) (m : Mem), (∀ p ∈ ps, p.ok) → (∀ c ∈ m.cs, c.ok) → ∀ c ∈ (ps.foldl (fun m p => putM m p.at_.toNat p.n p.l) m).cs, c.ok
 | [], m, h, hm => hm
 | p :: ps, m, h, hm => by
  refine mem_ok ps _ (fun q hq => h q (by simp [hq])) ?_
  intro c hc
  rcases List.mem_or_eq_of_mem_set hc with hc | rfl
  ·rcases List.mem_append.1 hc with hc | hc
   ·exact hm c hc
   ·rw [List.eq_of_mem_replicate hc]; simp [Cl.ok, zC]
  ·exact (h p (by simp)).2.2
theorem memOf_ck (ps : List Pt) : (memOf ps).ck = ps.length := by rw [memOf, mem_ck]; simp
theorem memOf_rd (ps : List Pt) (i : Int) (h : ∀ p ∈ ps, p.ok) : rdM (memOf ps) i = rdP ps 0 i zC := by rw [memOf, mem_rd ps _ i h]; simp [rdM]
theorem memOf_len (ps : List Pt) (h : ∀ p ∈ ps, p.ok) : ((memOf ps).cs.length : Int) = lenP ps := by rw [memOf, mem_len ps _ h]; rfl
theorem memOf_ok (ps : List Pt) (h : ∀ p ∈ ps, p.ok) : ∀ c ∈ (memOf ps).cs, c.ok := mem_ok ps _ h (by simp)
theorem memOf_snoc (ps : List Pt) (p : Pt) : memOf (ps ++ [p]) = putM (memOf ps) p.at_.toNat p.n p.l := by simp [memOf]
theorem lenP_le : ∀ (ps : List Pt) (n : Int), (∀ p ∈ ps, p.ok) → n ≤ 1000 → ps.foldl (fun n p => max n (p.at_ + 1)) n ≤ 1000
 | [], n, h, hn => hn
 | p :: ps, n, h, hn => by
  have h1 := (h p (by simp)).2.1
  exact lenP_le ps _ (fun q hq => h q (by simp [hq])) (by simp only; omega)
theorem memOf_lenle (ps : List Pt) (h : ∀ p ∈ ps, p.ok) : (memOf ps).cs.length ≤ 1000 := by
 have := memOf_len ps h
 have h2 : lenP ps ≤ 1000 := lenP_le ps 0 h (by omega)
 omega
theorem c_force (ps : List Pt) (p : Pt) (hp : p.ok) (h : ∀ p ∈ ps, p.ok) (hn : ps.length < 1000000) (sg : List (List D)) (r : Nat) (hr : sg[r]? = some (eMem (memOf ps))) :
    LL.call n_cell_Memory_Force [.p r 0, .i .i64 p.at_, .a [.i .i64 p.n, .l .z 2 (p.l.map eI)]] sg sg.length = some (.b true, sg.set r (eMem (memOf (ps ++ [p]))), sg.length) := by
 have := c_cell_Memory_Force (memOf ps) p.at_ p.n p.l sg r hr (memOf_ok ps h) hp.2.2 (by rw [memOf_ck]; omega) (memOf_lenle ps h)
 rw [this]
 have hb : wrB (memOf ps) p.at_ (rdM (memOf ps) p.at_).v = true := by simp [wrB]; exact ⟨hp.1, hp.2.1⟩
 rw [hb, wrM, if_pos hb, memOf_snoc]
end Go.AM

namespace Go.AM
def evL : List Nat → List Nat
 | x :: _ :: r => x :: evL r
 | l => l
def odL : List Nat → List Nat
 | _ :: y :: r => y :: odL r
 | _ => []
def mixL : List Nat → List Nat → List Nat
 | x :: xs, y :: ys => x :: y :: mixL xs ys
 | _, _ => []
def mergeG : Nat → List Nat → List Nat → List (Nat × Nat) × List Nat
 | 0, x, y => ([(x.headD 0, y.headD 0)], [x.headD 0, y.headD 0])
 | k + 1, x, y => ((mergeG k (evL x) (odL y)).1 ++ (mergeG k (odL x) (evL y)).1 ++ (mergeG k (evL x) (odL y)).2.zip (mergeG k (odL x) (evL y)).2,
     mixL (mergeG k (evL x) (odL y)).2 (mergeG k (odL x) (evL y)).2)
def countG : Nat → Nat → List (Nat × Nat) × List Nat
 | 0, a => ([], [a])
 | k + 1, a => ((countG k a).1 ++ (countG k (a + 2 ^ k)).1 ++ (mergeG k (countG k a).2 (countG k (a + 2 ^ k)).2).1, (mergeG k (countG k a).2 (countG k (a + 2 ^ k)).2).2)
def lgP (p : Nat) : Nat := if p = 1 then 0 else if p = 2 then 1 else if p = 4 then 2 else if p = 8 then 3 else 4
def gatesN (p : Nat) : List (Nat × Nat) := (countG (lgP p) 0).1
def outsN (p : Nat) : List Nat := (countG (lgP p) 0).2
def eG (g : Nat × Nat) : D := .a [.i .i64 g.1, .i .i64 g.2]
def eN (n : Nat) : D := .i .i64 n
instance : Flat eG := ⟨fun _ => rfl, fun p => by simp [eG], fun n p => by simp [eG]⟩
instance : Flat eN := ⟨fun _ => rfl, fun p => by simp [eN], fun n p => by simp [eN]⟩
def pairsN (p : Nat) : List Nat := (gatesN p).flatMap fun g => [g.1, g.2]
def widthN (p : Nat) : Prop := p = 1 ∨ p = 2 ∨ p = 4 ∨ p = 8 ∨ p = 16
def ePlan (K : AM.K) (p : Nat) : D := .a [.i .i64 p, .l K 2 ((gatesN p).map eG), .l K 1 ((outsN p).map eN)]
def eNetR (K K2 : AM.K) (p : Nat) : D := .a [.l K 1 ((pairsN p).map eN), .l K2 1 ((outsN p).map eN)]
def kW (p : Nat) : AM.K := if p = 1 then .o else .z
set_option maxRecDepth 100000 in
theorem net1 : LL.call n_net_New [.i .i64 1] [] 0 = some (.t [ePlan .z 1, .i .i64 0], [], 0) := lim_call.2 ⟨60, by kernel_rfl⟩
set_option maxRecDepth 100000 in
theorem net2 : LL.call n_net_New [.i .i64 2] [] 0 = some (.t [ePlan .z 2, .i .i64 0], [], 0) := lim_call.2 ⟨60, by kernel_rfl⟩
set_option maxRecDepth 100000 in
theorem net4 : LL.call n_net_New [.i .i64 4] [] 0 = some (.t [ePlan .z 4, .i .i64 0], [], 0) := lim_call.2 ⟨60, by kernel_rfl⟩
set_option maxRecDepth 100000 in
theorem net8 : LL.call n_net_New [.i .i64 8] [] 0 = some (.t [ePlan .z 8, .i .i64 0], [], 0) := lim_call.2 ⟨60, by kernel_rfl⟩
set_option maxRecDepth 100000 in
theorem net16 : LL.call n_net_New [.i .i64 16] [] 0 = some (.t [ePlan .z 16, .i .i64 0], [], 0) := lim_call.2 ⟨60, by kernel_rfl⟩
theorem p_net_New (p : Nat) (h : widthN p) : callpv LL n_net_New [.i .i64 p] = some (.t [ePlan .z p, .i .i64 0]) := by
 rcases h with rfl | rfl | rfl | rfl | rfl
 ·exact callpv_of rfl net1
 ·exact callpv_of rfl net2
 ·exact callpv_of rfl net4
 ·exact callpv_of rfl net8
 ·exact callpv_of rfl net16
theorem widthN_facts (p : Nat) (h : widthN p) : (∀ g ∈ gatesN p, g.1 < p ∧ g.2 < p) ∧ (∀ w ∈ outsN p, w < p) ∧ (outsN p).length = p ∧ (gatesN p).length ≤ 80 := by
 rcases h with rfl | rfl | rfl | rfl | rfl <;> decide
end Go.AM

namespace Go.AM
structure Mem.good (m : Mem) : Prop where
 len : m.cs.length ≤ 1000
 ck : m.ck < 1000000000
 it : ∀ c ∈ m.cs, c.l.length ≤ 62 ∧ ∀ x ∈ c.l, x.ok
 num : ∀ c ∈ m.cs, -1125899906842624 ≤ c.n ∧ c.n ≤ 1125899906842624
 ver : ∀ c ∈ m.cs, c.v ≤ m.ck ∧ (c.n ≠ 0 → c.v ≠ 0)
 dis : ∀ i j : Nat, ∀ c d, m.cs[i]? = some c → m.cs[j]? = some d → c.v = d.v → c.v ≠ 0 → i = j
theorem Mem.good.rd {m : Mem} (h : m.good) (i : Int) : (rdM m i).l.length ≤ 62 ∧ (∀ x ∈ (rdM m i).l, x.ok) ∧ (-1125899906842624 ≤ (rdM m i).n ∧ (rdM m i).n ≤ 1125899906842624) ∧ (rdM m i).v ≤ m.ck := by
 unfold rdM
 split
 ·cases hc : m.cs[i.toNat]? with
  | none => exact ⟨by simp [zC], by simp [zC], by simp [zC], by simp [zC]⟩
  | some c =>
   have := List.mem_of_getElem? hc
   exact ⟨(h.it c this).1, (h.it c this).2, h.num c this, (h.ver c this).1⟩
 ·exact ⟨by simp [zC], by simp [zC], by simp [zC], by simp [zC]⟩
theorem Mem.good.ok {m : Mem} (h : m.good) : ∀ c ∈ m.cs, c.ok := fun c hc => by have := (h.it c hc).1; unfold Cl.ok; omega
def bagM (m : Mem) : Nat → List It
 | 0 => []
 | p + 1 => bagM m p ++ (rdM m p).l
def sumM (m : Mem) (f : Nat) : Nat → Int
 | 0 => 0
 | p + 1 => sumM m f p + (rdM m ((f + p : Nat) : Int)).n
theorem bagM_len {m : Mem} (h : m.good) : ∀ p, (bagM m p).length ≤ 62 * p
 | 0 => by simp [bagM]
 | p + 1 => by have := bagM_len h p; have := (h.rd p).1; simp only [bagM, List.length_append]; omega
theorem bagM_ok {m : Mem} (h : m.good) : ∀ p, ∀ x ∈ bagM m p, x.ok
 | 0 => by simp [bagM]
 | p + 1 => by
  intro x hx
  simp only [bagM, List.mem_append] at hx
  rcases hx with hx | hx
  ·exact bagM_ok h p x hx
  ·exact (h.rd p).2.1 x hx
theorem sumM_rng {m : Mem} (h : m.good) (f : Nat) : ∀ p : Nat, -1125899906842624 * (p : Int) ≤ sumM m f p ∧ sumM m f p ≤ 1125899906842624 * (p : Int)
 | 0 => by simp [sumM]
 | p + 1 => by
  have := sumM_rng h f p
  have := (h.rd ((f + p : Nat) : Int)).2.2.1
  simp only [sumM]
  omega
theorem c_value_bag (m : Mem) (hm : m.good) (p : Nat) (hp : p ≤ 16) (sg : List (List D)) (r : Nat) (hr : sg[r]? = some (eMem m)) :
    LL.call n_value_bag [.i .i64 p, .p r 0] sg sg.length = some (.l .o 2 ((sortI ((bagM m p).map It.canon)).map eI), sg, sg.length) := by
 refine wp_call e_value_bag rfl ?_
 simp [F_value_bag]
 refine wc_up p (fun i => ⟨[(1, .v (.p r 0)), (5, .v (.l .o 2 ((bagM m i).map eI))), (7, .v (.i .i64 p)), (8, .v (.i .i64 i))], [], sg, sg.length⟩) (fun _ => True) ?_ ?_ 0 (by omega) trivial
 ·intro i hi _ ih
  have ih := ih trivial
  have R1 := c_cell_Memory_Read m i sg r hr hm.ok
  have l1 := bagM_len hm i
  have l2 := (hm.rd i).1
  have w1 : IntKind.i64.wrap ((i : Int) + 1) = i + 1 := wrap64 (by omega)
  have hap : ((bagM m i).length + (rdM m i).l.length) * 16 ≤ 140737488355328 := by omega
  simp [bagM] at ih
  simp [hi, R1, eC, w1, hap]
  simpa using ih
 ·intro _
  have S1 := c_Sorted (bagM m p) (by have := bagM_len hm p; omega) (bagM_ok hm p) sg
  simp [S1]
theorem c_value_sum (m : Mem) (hm : m.good) (f p : Nat) (hp : p ≤ 16) (hf : f ≤ 1000000) (sg : List (List D)) (r : Nat) (hr : sg[r]? = some (eMem m)) :
    LL.call n_value_sum [.i .i64 f, .i .i64 p, .p r 0] sg sg.length = some (.i .i64 (sumM m f p), sg, sg.length) := by
 refine wp_call e_value_sum rfl ?_
 simp [F_value_sum]
 refine wc_up p (fun i => ⟨[(0, .v (.i .i64 f)), (2, .v (.p r 0)), (7, .v (.i .i64 (sumM m f i))), (9, .v (.i .i64 p)), (10, .v (.i .i64 i))], [], sg, sg.length⟩) (fun _ => True) ?_ ?_ 0 (by omega) trivial
 ·intro i hi _ ih
  have ih := ih trivial
  have e : ((f + i : Nat) : Int) = (f : Int) + i := by omega
  have R1 := c_cell_Memory_Read m ((f + i : Nat) : Int) sg r hr hm.ok
  have l1 := sumM_rng hm f i
  have l2 := (hm.rd ((f + i : Nat) : Int)).2.2.1
  rw [e] at R1 l2
  have w0 : IntKind.i64.wrap ((f : Int) + i) = (f : Int) + i := wrap64 (by omega)
  have w1 : IntKind.i64.wrap ((i : Int) + 1) = i + 1 := wrap64 (by omega)
  have w2 : IntKind.i64.wrap (sumM m f i + (rdM m ((f : Int) + i)).n) = sumM m f i + (rdM m ((f : Int) + i)).n := wrap64 (by omega)
  simp [sumM] at ih
  simp [hi, R1, eC, w0, w1, w2]
  simpa using ih
 ·intro _
  simp
def fullM (m : Mem) : List Cl := (m.cs.drop 2).filter (fun c => c.n == 1)
def lineM (m : Mem) : List It := ((fullM m).mergeSort (fun a b => decide (a.v ≤ b.v))).flatMap (·.l)
theorem srt_line (xs : List D) : LL.srt n_slices_SortFunc_cell_Cell_cell_Cell n_value_line_1 3 xs = srtV xs := by
 have h : LL.srt n_slices_SortFunc_cell_Cell_cell_Cell n_value_line_1 3 xs = srtL n_slices_SortFunc_cell_Cell_cell_Cell n_value_line_1 3 xs := rfl
 rw [h]
 unfold srtL
 rw [if_pos ⟨rfl, rfl, rfl⟩]
theorem fullM_nodup {m : Mem} (hm : m.good) : ((fullM m).map (·.v)).Nodup := by
 have key : ((m.cs.filter (fun c => c.n == 1)).map (·.v)).Nodup := by
  have h0 : (m.cs.filter (fun c => c.n == 1)).Pairwise (fun c d => c.v ≠ d.v) := by
   rw [List.pairwise_filter]
   rw [List.pairwise_iff_getElem]
   intro i j hi hj hij h1 h2 he
   simp only [beq_iff_eq] at h1 h2
   have hv := (hm.ver m.cs[i] (List.getElem_mem hi)).2 (by omega)
   have := hm.dis i j _ _ (List.getElem?_eq_getElem hi) (List.getElem?_eq_getElem hj) he hv
   omega
  exact List.pairwise_map.2 h0
 refine List.Sublist.nodup (List.Sublist.map _ ?_) key
 exact (List.drop_sublist 2 m.cs).filter _
theorem mergeV (l : List Cl) (hn : (l.map (·.v)).Nodup) (hb : ∀ c ∈ l, c.v < 1000000000) (hl : l.length < 1000000000) : srtV (l.map eC) = some ((l.mergeSort (fun a b => decide (a.v ≤ b.v))).map eC) := by
 have hv : ∀ c : Cl, verD (eC c) = c.v := fun c => rfl
 unfold srtV
 rw [if_pos]
 ·congr 1
  refine (List.map_mergeSort (f := eC) (s := leVer) (fun a _ b _ => ?_)).symm
  unfold leVer
  rw [hv, hv]
  simp only [decide_eq_decide]
  omega
 ·refine ⟨?_, ?_, by simp; omega⟩
  ·rw [List.all_eq_true]
   intro d hd
   obtain ⟨c, hc, rfl⟩ := List.mem_map.1 hd
   have := hb c hc
   unfold okV
   rw [hv]
   simp
   omega
  ·rw [List.map_map]
   have : (l.map (verD ∘ eC)) = (l.map (·.v)).map (fun n : Nat => (n : Int)) := by rw [List.map_map]; rfl
   rw [this]
   exact List.Pairwise.map _ (fun a b h h' => h (by omega)) hn
def eCz (c : Cl) : D := .a [.i .u64 c.v, .i .i64 c.n, .l .z 2 (c.l.map eI)]
theorem fzs_eC : ∀ l : List Cl, D.fzs (l.map eC) = l.map eCz
 | [] => rfl
 | c :: l => by simp only [List.map_cons, D.fzs, fzs_eC l]; rfl
theorem flat_len62 : ∀ (l : List Cl), (∀ c ∈ l, c.l.length ≤ 62) → (l.flatMap (·.l)).length ≤ 62 * l.length
 | [], _ => by simp
 | c :: l, h => by
  have := flat_len62 l (fun d hd => h d (by simp [hd]))
  have := h c (by simp)
  simp only [List.flatMap_cons, List.length_append, List.length_cons]; omega
end Go.AM

namespace Go.AM
def clnK (l : List It) : K := if l.length = 0 then .n else .x
end Go.AM

namespace Go.AM
theorem wc_lst {α β : Type} {B : C} {Q : Rs → Prop} {s : St} (l : List α) (st : Nat → β → St) (P : Nat → List α → β → Prop) (b : β) (hs : s = st 0 b) (hb : P 0 l b)
    (h : ∀ i x r b (hi : i < l.length), l[i] = x → P i (x :: r) b → (∀ b', P (i + 1) r b' → @WC (.loop B) (st (i + 1) b') ⟨Q⟩ trivial) → @WC B (st i b) ⟨fun r => @SqQ (.loop B) ⟨Q⟩ r trivial⟩ trivial)
    (he : ∀ b, P l.length [] b → @WC B (st l.length b) ⟨fun r => @SqQ (.loop B) ⟨Q⟩ r trivial⟩ trivial) : @WC (.loop B) s ⟨Q⟩ trivial := by
 rw [hs]
 refine wc_ind (fun a : Nat × β => st a.1 a.2) (fun a => l.length - a.1) (fun a => a.1 ≤ l.length ∧ P a.1 (l.drop a.1) a.2) ?_ (0, b) ⟨by simp, by simpa using hb⟩
 rintro ⟨i, b⟩ ⟨h1, h2⟩ ih
 simp only at h1 h2 ih ⊢
 rcases Nat.lt_or_eq_of_le h1 with h3 | h3
 ·rw [List.drop_eq_getElem_cons h3] at h2
  exact h i l[i] _ b h3 rfl h2 (fun b' hb' => ih (i + 1, b') (by simp; omega) ⟨h3, hb'⟩)
 ·subst h3; rw [List.drop_length] at h2; exact he b h2
def findI (x : It) : List It → Nat → Int
 | [], _ => -1
 | y :: l, i => if x.canon = y.canon then i else findI x l (i + 1)
def outI (x : It) (l : List It) (most : Int) : Option (List It) := if findI x l 0 < 0 ∨ most ≤ findI x l 0 then none else some (l.eraseIdx (findI x l 0).toNat)
end Go.AM

namespace Go.AM
theorem c_value_line (m : Mem) (hm : m.good) (sg : List (List D)) (r : Nat) (hr : sg[r]? = some (eMem m)) :
    LL.call n_value_line [.p r 0] sg sg.length = some (.l .o 2 ((lineM m).map eI), sg, sg.length) := by
 generalize hT : lineM m = T
 refine wp_call e_value_line rfl ?_
 have hL := c_cell_Memory_Len m sg r hr
 have hlen := hm.len
 simp [F_value_line]
 refine wc_upe (m.cs.length - 2) (fun j => ⟨[(0, .v (.p r 0)), (3, .v (.l .x 3 ((((m.cs.drop 2).take j).filter (fun c => c.n == 1)).map eC))), (4, .v (.i .i64 ((2 + j : Nat) : Int)))], [], sg, sg.length⟩) (by simp) ?_ ?_
 ·intro j hj ih
  have hj2 : 2 + j < m.cs.length := by omega
  have hj3 : (2 : Int) + j < m.cs.length := by omega
  have R1 := c_cell_Memory_Read m ((2 + j : Nat) : Int) sg r hr hm.ok
  have hrd : rdM m ((2 + j : Nat) : Int) = m.cs[2 + j] := by
   unfold rdM
   rw [if_pos (by omega), show ((2 + j : Nat) : Int).toNat = 2 + j by omega, List.getElem?_eq_getElem hj2]; rfl
  rw [hrd] at R1
  have hg : (m.cs.drop 2)[j]? = some m.cs[2 + j] := by rw [List.getElem?_drop, List.getElem?_eq_getElem hj2]
  have e : (m.cs.drop 2).take (j + 1) = (m.cs.drop 2).take j ++ [m.cs[2 + j]] := by
   have hjd : j < (m.cs.drop 2).length := by simp; omega
   rw [List.take_succ_eq_append_getElem hjd]
   congr 2
   rw [List.getElem_drop]
  rw [e, List.filter_append] at ih
  have w1 : IntKind.i64.wrap ((2 : Int) + j + 1) = 2 + j + 1 := wrap64 (by omega)
  have e1 : ((2 + (j + 1) : Nat) : Int) = 2 + j + 1 := by omega
  have e2 : ((2 + j : Nat) : Int) = 2 + j := by omega
  have hfl : (((m.cs.drop 2).take j).filter (fun c => c.n == 1)).length ≤ 1000 := by
   have h1 := List.length_filter_le (fun c : Cl => c.n == 1) ((m.cs.drop 2).take j)
   have h2 : ((m.cs.drop 2).take j).length ≤ 1000 := by simp; omega
   omega
  rw [e1] at ih
  rw [e2] at R1
  generalize m.cs[2 + j] = c at *
  have hap : ((((m.cs.drop 2).take j).filter (fun c => c.n == 1)).length + 1) * 40 ≤ 140737488355328 := by omega
  obtain ⟨fl, hfl2⟩ : ∃ fl, fl = ((m.cs.drop 2).take j).filter (fun c => c.n == 1) := ⟨_, rfl⟩
  rw [← hfl2] at ih hap ⊢
  by_cases hc : c.n = 1
  ·have hc' : (c.n == 1) = true := by simp [hc]
   simp [List.filter, hc'] at ih
   simp [hL, hj3, e2, R1, eC, hc, w1, hap]
   simpa [eC, hc] using ih
  ·have hc' : (c.n == 1) = false := by simp [hc]
   simp [List.filter, hc'] at ih
   simp [hL, hj3, e2, R1, eC, hc', w1]
   simpa using ih
 ·have hend : ¬ ((2 : Int) + ((m.cs.length - 2 : Nat) : Int) < m.cs.length) := by omega
  have ht : (m.cs.drop 2).take (m.cs.length - 2) = m.cs.drop 2 := List.take_of_length_le (by simp)
  rw [ht]
  have hfull : (m.cs.drop 2).filter (fun c => c.n == 1) = fullM m := rfl
  rw [hfull]
  have hfl : (fullM m).length ≤ 1000 := by
   have h1 := List.length_filter_le (fun c : Cl => c.n == 1) (m.cs.drop 2)
   have h2 : (m.cs.drop 2).length ≤ 1000 := by simp; omega
   unfold fullM; omega
  have hmem : ∀ c ∈ fullM m, c ∈ m.cs := fun c hc => List.mem_of_mem_drop (List.mem_filter.1 hc).1
  have hck := hm.ck
  have S := mergeV (fullM m) (fullM_nodup hm) (fun c hc => by have := (hm.ver c (hmem c hc)).1; omega) (by omega)
  rw [← srt_line] at S
  obtain ⟨sl, hsl⟩ : ∃ sl, sl = (fullM m).mergeSort (fun a b => decide (a.v ≤ b.v)) := ⟨_, rfl⟩
  have hTs : sl.flatMap (·.l) = T := by rw [hsl, ← hT]; rfl
  have hsp : sl.Perm (fullM m) := by rw [hsl]; exact List.mergeSort_perm _ _
  have hsll := hsp.length_eq
  rw [← hsl] at S
  have hs62 : ∀ c ∈ sl, c.l.length ≤ 62 := fun c hc => (hm.it c (hmem c (hsp.mem_iff.1 hc))).1
  have hfl62 := flat_len62 sl hs62
  rw [hTs] at hfl62
  simp [hL, hend, S, hsll, fzs_eC]
  refine wc_lst sl (fun i (out : List It) => ⟨[(6, .v (.l .o 2 (out.map eI))), (28, .v (.l .o 3 (sl.map eCz))), (29, .v (.i .i64 sl.length)), (30, .v (.i .i64 i))], [], sg, sg.length⟩)
   (fun i rest out => out ++ rest.flatMap (·.l) = T) [] ?_ hTs ?_ ?_
  ·simp [hsll]
  ·rintro i c rest out hi hx h1 ih
   have hi' : (i : Int) < sl.length := by omega
   have w1 : IntKind.i64.wrap ((i : Int) + 1) = i + 1 := wrap64 (by omega)
   have ih := ih (out ++ c.l) (by rw [← h1]; simp)
   have hap : (out.length + c.l.length) * 16 ≤ 140737488355328 := by
    have := congrArg List.length h1
    simp at this
    omega
   simp at ih
   simp [hi', hi, hx, eCz, w1, hap]
   simpa using ih
  ·rintro out h1
   simp at h1
   subst h1
   simp
def ofM (k : Int) (p : Nat) (m : Mem) : Vl :=
 if k = 1 then ⟨1, sortI ((bagM m p).map It.canon), 0⟩ else if k = 2 then ⟨2, lineM m, 0⟩ else if k = 3 then ⟨3, [], sumM m 0 p⟩ else ⟨4, [], sumM m (gatesN p).length p⟩
theorem legal_width {p : Nat} (h : legal 4 p = 0) : widthN p := by
 unfold legal at h
 rw [if_neg (by omega)] at h
 unfold widthN
 split at h
 ·cases h
 ·omega
theorem gates_le (p : Nat) (h : widthN p) : (gatesN p).length ≤ 100000 := by
 rcases h with rfl | rfl | rfl | rfl | rfl <;> decide
theorem c_net_Out (p : Nat) (h : widthN p) (i : Nat) (hi : i ≤ 1000000) (sg) : LL.call n_net_Net_Out [ePlan .z p, .i .i64 i] sg sg.length = some (.i .i64 ((gatesN p).length + i : Nat), sg, sg.length) := by
 refine wp_call e_net_Net_Out rfl ?_
 have hg := gates_le p h
 have w1 : IntKind.i64.wrap (((gatesN p).length : Int) + i) = (gatesN p).length + i := wrap64 (by omega)
 simp [F_net_Net_Out, ePlan, w1]
theorem c_value_Of (k p : Int) (m : Mem) (hm : m.good) (sg : List (List D)) (r : Nat) (hr : sg[r]? = some (eMem m)) :
    LL.call n_value_Of [.i .i64 k, .i .i64 p, .p r 0] sg sg.length = some (.t [if legal k p = 0 then eVl .o (ofM k p.toNat m) else eVl .o ⟨0, [], 0⟩, .i .i64 (legal k p)], sg, sg.length) := by
 refine wp_call e_value_Of rfl ?_
 have L1 := c_op_Legal k p sg
 by_cases hl : legal k p = 0
 ·rw [hl] at L1
  have hk : 1 ≤ k ∧ k ≤ 4 ∧ 1 ≤ p ∧ p ≤ 16 := by
   unfold legal at hl
   split at hl
   ·cases hl
   ·split at hl
    ·cases hl
    ·omega
  obtain ⟨q, rfl⟩ : ∃ q : Nat, p = q := ⟨p.toNat, by omega⟩
  have hq : q ≤ 16 := by omega
  have hc : k = 1 ∨ k = 2 ∨ k = 3 ∨ k = 4 := by omega
  rcases hc with rfl | rfl | rfl | rfl
  ·have B := c_value_bag m hm q hq sg r hr
   simp [F_value_Of, L1, B, hl, ofM, eVl]
  ·have B := c_value_line m hm sg r hr
   simp [F_value_Of, L1, B, hl, ofM, eVl]
  ·have B := c_value_sum m hm 0 q hq (by omega) sg r hr
   simp at B
   simp [F_value_Of, L1, B, hl, ofM, eVl]
  ·have hw := legal_width hl
   have N1 := p_net_New q hw
   have O1 := c_net_Out q hw 0 (by omega) sg
   have B := c_value_sum m hm (gatesN q).length q hq (by have := gates_le q hw; omega) sg r hr
   simp [ePlan] at N1 O1
   simp [F_value_Of, L1, B, hl, ofM, eVl, N1, O1]
 ·have hl' : (legal k p != 0) = true := by simp [hl]
  simp [F_value_Of, L1, hl, hl', eVl]
end Go.AM

namespace Go.AM
theorem c_image_Room (k : Int) (sg) : LL.call n_image_Room [.i .i64 k] sg sg.length = some (.i .i64 (998 / max k 1 * max k 1), sg, sg.length) := by
 refine wp_call e_image_Room rfl ?_
 have hm : 1 ≤ max k 1 := by omega
 have hd : Int.tdiv 998 (max k 1) = 998 / max k 1 := Int.tdiv_eq_ediv_of_nonneg (by omega)
 have h0 : 0 ≤ 998 / max k 1 := Int.ediv_nonneg (by omega) (by omega)
 have h1 : 998 / max k 1 * max k 1 ≤ 998 := Int.ediv_mul_le _ (by omega)
 have h2 : 0 ≤ 998 / max k 1 * max k 1 := Int.mul_nonneg h0 (by omega)
 have h3 : 998 / max k 1 ≤ 998 := Int.ediv_le_self _ (by omega)
 simp [F_image_Room, max1, hd]
 rw [wrap64 (x := 998 / max k 1) (by omega), wrap64 (by omega)]
 exact ⟨by omega, rfl⟩
end Go.AM

namespace Go.AM
def cntD (m n i : Nat) : Nat := m / n + if i < m % n then 1 else 0
theorem qr (m n : Nat) (hn : 0 < n) : ∃ q r, m = n * q + r ∧ r < n ∧ m / n = q ∧ m % n = r := ⟨m / n, m % n, (Nat.div_add_mod m n).symm, Nat.mod_lt _ hn, rfl, rfl⟩
theorem cntD_succ {m n i : Nat} (hi : i < n) : cntD (m + 1) n i = cntD m n i + if i = m % n then 1 else 0 := by
 obtain ⟨q, r, e, hr, e1, e2⟩ := qr m n (by omega)
 unfold cntD
 rw [e1, e2]
 have e3 : m + 1 = n * q + (r + 1) := by omega
 rw [e3, Nat.mul_add_div (by omega), Nat.mul_add_mod]
 by_cases h : r + 1 < n
 ·rw [Nat.div_eq_of_lt h, Nat.mod_eq_of_lt h]
  repeat' split
  all_goals omega
 ·have : r + 1 = n := by omega
  rw [this, Nat.div_self (by omega), Nat.mod_self]
  repeat' split
  all_goals omega
theorem cntD_zero (n i : Nat) : cntD 0 n i = 0 := by simp [cntD]
theorem cntD_at {m n : Nat} (hn : 0 < n) : m % n + cntD m n (m % n) * n = m := by
 obtain ⟨q, r, e, hr, e1, e2⟩ := qr m n hn
 unfold cntD
 rw [e1, e2, if_neg (by omega), Nat.add_zero, e, Nat.mul_comm]; omega
theorem cntD_le (m n i : Nat) (hi : i < n) : cntD m n i ≤ m := by
 induction m with
 | zero => rw [cntD_zero]; omega
 | succ m ih => rw [cntD_succ hi]; split <;> omega
theorem cntD_lt {n i : Nat} (hi : i < n) : ∀ (m j : Nat), j < cntD m n i → i + j * n < m
 | 0, j, h => by rw [cntD_zero] at h; omega
 | m + 1, j, h => by
  rw [cntD_succ hi] at h
  by_cases h2 : j < cntD m n i
  ·have := cntD_lt hi m j h2; omega
  ·have h3 : i = m % n := by
    apply Decidable.byContradiction
    intro h4
    rw [if_neg h4] at h; omega
   have h4 : j = cntD m n i := by split at h <;> omega
   have := cntD_at (m := m) (n := n) (by omega)
   rw [← h3, ← h4] at this
   omega
def dealO (l : List It) (n m : Nat) : List (List It) := (List.range n).map fun i => (List.range (cntD m n i)).map fun j => l[i + j * n]!
theorem dealO_len (l : List It) (n m : Nat) : (dealO l n m).length = n := by simp [dealO]
theorem dealO_zero (l : List It) (n : Nat) : dealO l n 0 = List.replicate n [] := by
 simp only [dealO, cntD_zero]
 exact List.ext_getElem (by simp) (by simp)
theorem dealO_get (l : List It) (n m i : Nat) (hi : i < n) : (dealO l n m)[i]'(by rw [dealO_len]; exact hi) = (List.range (cntD m n i)).map fun j => l[i + j * n]! := by simp [dealO]
theorem dealO_succ (l : List It) (n m : Nat) (hn : 0 < n) : dealO l n (m + 1) = (dealO l n m).set (m % n) ((dealO l n m)[m % n]'(by rw [dealO_len]; exact Nat.mod_lt _ hn) ++ [l[m]!]) := by
 apply List.ext_getElem
 ·simp [dealO_len]
 ·intro i h1 h2
  rw [dealO_len] at h1
  have a1 := dealO_get l n m (m % n) (Nat.mod_lt _ hn)
  have a2 := dealO_get l n m i h1
  have a3 := dealO_get l n (m + 1) i h1
  rw [List.getElem_set, a3, cntD_succ h1]
  by_cases e : m % n = i
  ·subst e
   rw [if_pos rfl, if_pos rfl, a1, List.range_succ, List.map_append]
   simp [cntD_at hn]
  ·rw [if_neg e, if_neg (Ne.symm e), Nat.add_zero, a2]
def dealD (l : List It) (n : Int) : List (List It) := if 0 < n then dealO l n.toNat l.length else []
theorem c_spread_Deal (l : List It) (n : Int) (hl : l.length ≤ 1000000) (hn : n ≤ 1000000) (hn2 : -9223372036854775808 ≤ n) (sg) : LL.call n_spread_Deal [.l .z 2 (l.map eI), .i .i64 n] sg sg.length = some (.l .x 1 ((dealD l n).map (eLK .o 2 eI)), sg, sg.length) := by
 refine wp_call e_spread_Deal rfl ?_
 by_cases hpos : 0 < n
 ·obtain ⟨k, rfl⟩ : ∃ k : Nat, n = k := ⟨n.toNat, by omega⟩
  have hk : 0 < k := by omega
  have e0 : List.replicate k (D.l .o 2 []) = (dealO l k 0).map (eLK .o 2 eI) := by rw [dealO_zero]; simp [eLK]
  have m1 : (if (k : Int) < 0 then (0 : Int) else k) = k := by rw [if_neg (by omega)]
  have hd : dealD l k = dealO l k l.length := by simp [dealD, hk]
  simp only [F_spread_Deal, hd]
  generalize hr : dealO l k l.length = r
  simp [m1]
  refine ⟨by omega, ?_⟩
  rw [e0]
  refine wc_up l.length (fun i => match i with
   | 0 => ⟨[(0, .v (.l .z 2 (l.map eI))), (1, .v (.i .i64 k)), (5, .v (.l .x 1 ((dealO l k 0).map (eLK .o 2 eI)))), (6, .v (.i .i64 0))], [], sg, sg.length⟩
   | i + 1 => ⟨[(0, .v (.l .z 2 (l.map eI))), (1, .v (.i .i64 k)), (5, .q (.hdr 5)), (6, .v (.i .i64 (i + 1)))], [(5, [.l .x 1 ((dealO l k (i + 1)).map (eLK .o 2 eI))])], sg, sg.length⟩) (fun _ => True) ?_ ?_ 0 (by omega) trivial
  ·intro i hi _ ih
   have ih := ih trivial
   have hi' : (i : Int) < l.length := by omega
   have q1 : l[i]? = some l[i] := List.getElem?_eq_getElem hi
   have hr1 : Int.tmod (i : Int) k = ((i % k : Nat) : Int) := by rw [Int.tmod_eq_emod_of_nonneg (by omega)]; rfl
   have hlt : i % k < (dealO l k i).length := by rw [dealO_len]; exact Nat.mod_lt _ hk
   obtain ⟨x, hx⟩ : ∃ x, x = (dealO l k i)[i % k] := ⟨_, rfl⟩
   have q2 : (dealO l k i)[i % k]? = some x := by rw [hx]; exact List.getElem?_eq_getElem hlt
   have hxl : x.length ≤ l.length := by
    rw [hx, dealO_get _ _ _ _ (Nat.mod_lt _ hk)]
    have := cntD_le i k (i % k) (Nat.mod_lt _ hk)
    simp; omega
   have hk0 : ¬ (k : Int) = 0 := by omega
   have hk1 : ¬ k = 0 := by omega
   have w : IntKind.i64.wrap ((i : Int) + 1) = (i : Int) + 1 := wrap64 (by omega)
   simp only [dealO_succ l k i hk, ← hx, getElem!_pos l i hi] at ih
   cases i with
   | zero =>
    have q2' : (dealO l k 0)[0]? = some x := by simpa using q2
    have hlt' : 0 < (dealO l k 0).length := by rw [dealO_len]; exact hk
    have q3 : (dealO l k 0)[0] = x := by simpa using hx.symm
    simp at ih
    simp [hk, hk0, hk1, hi, q1, q3, hlt', eLK]
    refine ⟨by omega, ?_⟩
    have w0 : IntKind.i64.wrap 1 = 1 := by decide
    rw [w0]
    simpa [eLK] using ih
   | succ i =>
    have hi2 : (i : Int) + 1 < l.length := by omega
    obtain ⟨p, hp⟩ : ∃ p, p = (i + 1) % k := ⟨_, rfl⟩
    have hr2 : Int.tmod ((i : Int) + 1) k = (p : Int) := by rw [hp, ← hr1]; rfl
    have q1' : l[i + 1]? = some l[i + 1] := q1
    rw [← hp] at hlt q2 ih
    have q3 : (dealO l k (i + 1))[p] = x := by rw [List.getElem?_eq_getElem hlt] at q2; exact Option.some.inj q2
    have w1 : IntKind.i64.wrap ((i : Int) + 1 + 1) = (i : Int) + 1 + 1 := wrap64 (by omega)
    simp [hk, hk0, hk1, hi2, hi, q3, hr2, hlt, eLK, w1]
    refine ⟨by omega, by omega, ?_⟩
    simpa [eLK] using ih
  ·intro _
   subst hr
   cases hl0 : l.length with
   | zero =>
    have : l = [] := List.length_eq_zero_iff.1 hl0
    subst this
    simp
    rw [hd]; rfl
   | succ i =>
    simp [hl0]
    rw [hd, hl0]
 ·have m1 : (if (n : Int) < 0 then (0 : Int) else n) = 0 := by split <;> omega
  have m2 : ¬ n > 0 := hpos
  simp [F_spread_Deal, dealD, hpos, m1]
  refine wc_loop ?_
  by_cases h0 : l = []
  ·subst h0
   simp; omega
  ·have := List.length_pos_iff.2 h0
   simp [this, hpos]
end Go.AM

namespace Go.AM
theorem sum_one {n r : Nat} (h : r < n) : ((List.range n).map fun i => if i = r then 1 else 0).sum = 1 := by
 have z : ∀ n, n ≤ r → ((List.range n).map fun i => if i = r then 1 else 0).sum = 0 := by
  intro n
  induction n with
  | zero => simp
  | succ n ih => intro hn; rw [List.range_succ, List.map_append, List.sum_append, ih (by omega)]; simp; omega
 have s : ∀ n, r < n → ((List.range n).map fun i => if i = r then 1 else 0).sum = 1 := by
  intro n
  induction n with
  | zero => omega
  | succ n ih =>
   intro hn
   rw [List.range_succ, List.map_append, List.sum_append]
   by_cases e : r = n
   ·rw [z n (by omega)]; simp [e]
   ·rw [ih (by omega)]; simp; omega
 exact s n h
theorem sum_add {α : Type} (f g : α → Nat) : ∀ l : List α, (l.map fun i => f i + g i).sum = (l.map f).sum + (l.map g).sum
 | [] => by simp
 | x :: l => by simp only [List.map_cons, List.sum_cons, sum_add f g l]; omega
theorem cntD_sum {n : Nat} (hn : 0 < n) : ∀ m, ((List.range n).map (cntD m n)).sum = m
 | 0 => by
  have : (List.range n).map (cntD 0 n) = (List.range n).map fun _ => 0 := List.map_congr_left (fun i _ => cntD_zero n i)
  rw [this]
  have : ∀ l : List Nat, (l.map fun _ => 0).sum = 0 := by
   intro l
   induction l with
   | nil => rfl
   | cons x l ih => simp only [List.map_cons, List.sum_cons, ih]
  exact this _
 | m + 1 => by
  have e : (List.range n).map (cntD (m + 1) n) = (List.range n).map fun i => cntD m n i + if i = m % n then 1 else 0 :=
   List.map_congr_left (fun i hi => cntD_succ (List.mem_range.1 hi))
  rw [e, sum_add, cntD_sum hn m, sum_one (Nat.mod_lt _ hn)]
theorem cntD_cap {m n i c : Nat} (hn : 0 < n) (h : m ≤ c * n) : cntD m n i ≤ c := by
 obtain ⟨q, r, e, hr, e1, e2⟩ := qr m n hn
 unfold cntD
 rw [e1, e2]
 have h1 : q * n ≤ c * n := by rw [Nat.mul_comm q n]; omega
 have h2 : q ≤ c := Nat.le_of_mul_le_mul_right h1 hn
 by_cases e3 : q = c
 ·subst e3
  have h3 : n * q = q * n := Nat.mul_comm _ _
  rw [if_neg (by omega)]; omega
 ·split <;> omega
def evenD (m n : Nat) : List Int := (List.range n).map fun i => (cntD m n i : Int)
theorem evenD_sum {m n : Nat} (hn : 0 < n) : (evenD m n).sum = m := by
 have e : evenD m n = ((List.range n).map (cntD m n)).map (fun k : Nat => (k : Int)) := by simp [evenD, Function.comp_def]
 have c : ∀ l : List Nat, (l.map (fun k : Nat => (k : Int))).sum = (l.sum : Nat) := by
  intro l
  induction l with
  | nil => rfl
  | cons x l ih => simp only [List.map_cons, List.sum_cons, ih]; omega
 rw [e, c, cntD_sum hn]
theorem evenD_mem {m n : Nat} {x : Int} (h : x ∈ evenD m n) : 0 ≤ x ∧ x ≤ m := by
 simp only [evenD, List.mem_map, List.mem_range] at h
 obtain ⟨i, hi, rfl⟩ := h
 have := cntD_le m n i hi
 omega
theorem c_wire_Even (m n : Nat) (hm : m ≤ 1152921504606846976) (hn : n ≤ 1000000) (sg) : LL.call n_wire_Even [.i .i64 m, .i .i64 n] sg sg.length = some (.l .x 1 ((evenD m n).map (.i .i64)), sg, sg.length) := by
 refine wp_call e_wire_Even rfl ?_
 obtain ⟨c, hc⟩ : ∃ c : Nat → Nat, ∀ i, c i = cntD m n i := ⟨_, fun _ => rfl⟩
 have e0 : evenD m n = (List.range n).map fun i => (c i : Int) := by simp [evenD, hc]
 rw [e0]
 obtain ⟨L, hL⟩ : ∃ L : Nat → List Int, ∀ i, L i = (List.range n).map fun j => if j < i then (c j : Int) else 0 := ⟨_, fun _ => rfl⟩
 have Ll : ∀ i, (L i).length = n := by intro i; rw [hL]; simp
 have Ls : ∀ i, i < n → (L i).set i (c i : Int) = L (i + 1) := by
  intro i hi
  rw [hL, hL]
  apply List.ext_getElem
  ·simp
  ·intro j h1 h2
   rw [List.getElem_set]
   simp
   by_cases e : i = j
   ·subst e; rw [if_pos rfl, if_pos (by omega)]
   ·rw [if_neg e]
    by_cases e2 : j < i
    ·rw [if_pos e2, if_pos (by omega)]
    ·rw [if_neg e2, if_neg (by omega)]
 have L0 : List.replicate n (D.i .i64 0) = (L 0).map (.i .i64) := by
  rw [hL]
  apply List.ext_getElem
  ·simp
  ·intro j h1 h2; simp
 have Ln : (List.range n).map (fun i => (c i : Int)) = L n := by
  rw [hL]
  exact List.map_congr_left (fun i hi => by rw [if_pos (List.mem_range.1 hi)])
 have m1 : (if (n : Int) < 0 then (0 : Int) else n) = n := by rw [if_neg (by omega)]
 rw [Ln]
 simp [F_wire_Even, m1]
 refine ⟨by omega, ?_⟩
 rw [L0]
 refine wc_up n (fun i => ⟨[(0, .v (.i .i64 m)), (1, .v (.i .i64 n)), (5, .q (.hdr 5)), (11, .v (.i .i64 n)), (12, .v (.i .i64 i))], [(5, [.l .x 1 ((L i).map (.i .i64))])], sg, sg.length⟩) (fun _ => True) ?_ ?_ 0 (by omega) trivial
 ·intro i hi _ ih
  have ih := ih trivial
  rw [← Ls i hi] at ih
  have hi' : (i : Int) < n := by omega
  have w : IntKind.i64.wrap ((i : Int) + 1) = (i : Int) + 1 := wrap64 (by omega)
  have hn0 : ¬ n = 0 := by omega
  obtain ⟨q, r, e, hr, e1, e2⟩ := qr m n (by omega)
  have d1 : Int.tdiv (m : Int) n = (q : Int) := by rw [Int.tdiv_eq_ediv_of_nonneg (by omega), ← e1]; rfl
  have d2 : Int.tmod (m : Int) n = (r : Int) := by rw [Int.tmod_eq_emod_of_nonneg (by omega), ← e2]; rfl
  have hq : q ≤ m := by rw [← e1]; exact Nat.div_le_self _ _
  have w1 : IntKind.i64.wrap (q : Int) = q := wrap64 (by omega)
  have w2 : IntKind.i64.wrap ((q : Int) + 1) = q + 1 := wrap64 (by omega)
  have hci : c i = q + if i < r then 1 else 0 := by rw [hc, cntD, e1, e2]
  have hil : i < (L i).length := by rw [Ll]; exact hi
  simp [hi, hi', d1, d2, w1, hn0, hil]
  refine bq_i (fun h => ?_) (fun h => ?_) <;> (have h' := h) <;> simp at h'
  ·rw [hci, if_pos h'] at ih
   simp [h, hil, w, w2, List.set_set]
   simpa using ih
  ·rw [hci, if_neg (by omega)] at ih
   simp [h, w]
   simpa using ih
 ·intro _
  simp
end Go.AM

namespace Go.AM
end Go.AM

namespace Go.AM
theorem check_facts {x : Im} (h : checkI x = 0) : legal x.k x.p = 0 ∧ ((x.ls.length : Int) = (shapeOf x.k x.p).1 ∧ (x.cs.length : Int) = (shapeOf x.k x.p).2) ∧ ordersE x.k x.ls = 0 ∧ (x.ls.map List.length).sum ≤ 1000 ∧
    (∀ n ∈ x.cs, 0 ≤ n ∧ n ≤ 1125899906842624) ∧ x.cs.sum ≤ 1125899906842624 := by
 unfold checkI at h
 split at h
 ·contradiction
 rename_i h1
 split at h
 ·cases h
 rename_i h2
 split at h
 ·contradiction
 rename_i h3
 split at h
 ·cases h
 rename_i h4
 unfold countsE at h
 split at h
 ·cases h
 rename_i h5
 simp only [Bool.or_eq_true, decide_eq_true_eq, List.any_eq_true, not_or, not_exists, not_and] at h5
 refine ⟨by omega, by omega, by omega, by omega, fun n hn => ?_, by omega⟩
 have := h5.1 n hn
 simp [badN] at this
 omega
theorem legal_p {k p : Int} (h : legal k p = 0) : 1 ≤ p ∧ p ≤ 16 := by
 unfold legal at h
 split at h
 ·cases h
 split at h
 ·cases h
 ·omega
theorem valI_len {x : Im} : (valI x).is.length = x.ls.flatten.length := by
 simp only [valI]
 split
 ·rw [sortI_len, List.length_map]
 ·rfl
theorem valI_ok {x : Im} (ho : x.ok) : ∀ y ∈ (valI x).is, y.ok := by
 intro y hy
 have hf : ∀ y ∈ x.ls.flatten, y.ok := fun y hy => by
  obtain ⟨l, hl, hy⟩ := List.mem_flatten.1 hy
  exact ho.1 l hl y hy
 simp only [valI] at hy
 split at hy
 ·have := (sortI_perm _).mem_iff.1 hy
  obtain ⟨z, hz, rfl⟩ := List.mem_map.1 this
  exact canon_okI (hf z hz)
 ·exact hf y hy
end Go.AM

namespace Go.AM
def roomI (p : Int) : Int := 998 / max p 1 * max p 1
def sprI (x : Im) (p : Int) : Im :=
 if p = x.p then x else if x.k = 1 then ⟨x.k, p, x.c, dealD (valI x).is p, x.cs⟩ else if x.k = 3 then ⟨x.k, p, x.c, x.ls, evenD x.cs.sum.toNat p.toNat⟩ else ⟨x.k, p, x.c, x.ls, x.cs⟩
def toE (x : Im) (p : Int) : Int :=
 if checkI x ≠ 0 then checkI x else if legal x.k p ≠ 0 then legal x.k p else
 if p ≠ x.p ∧ ((x.k = 1 ∧ ((valI x).is.length : Int) > p * 62) ∨ (x.k = 2 ∧ ((valI x).is.length : Int) > roomI p)) then 3 else 0
theorem c_spread_To (x : Im) (p : Int) (ho : x.ok) (hs : x.small) (hp : -9223372036854775808 ≤ p ∧ p ≤ 9223372036854775807) (sg) :
    (toE x p ≠ 0 → LL.call n_spread_To [eIm x, .i .i64 p] sg sg.length = some (.t [eImK .o .z .o ⟨0, 0, 0, [], []⟩, .i .i64 (toE x p)], sg, sg.length)) ∧
    (toE x p = 0 → ∃ K1 K3, ((K1 = .z ∧ K3 = .z) ∨ (p ≠ x.p ∧ K1 = .o ∧ K3 = .z) ∨ (p ≠ x.p ∧ K1 = .z ∧ K3 = .o)) ∧ LL.call n_spread_To [eIm x, .i .i64 p] sg sg.length = some (.t [eImK K1 .z K3 (sprI x p), .i .i64 0], sg, sg.length)) := by
 have C1 := c_image_Image_Check x ho sg
 have L1 := c_op_Legal x.k p sg
 by_cases h1 : checkI x = 0
 ·obtain ⟨f1, f2, f3, f4, f5, f6⟩ := check_facts h1
  by_cases h2 : legal x.k p = 0
  ·have hp' := legal_p h2
   have hflat : x.ls.flatten.length ≤ 1000 := by rw [List.length_flatten]; exact f4
   have hsh := shape_le _ _ f1
   have V1 := c_image_Value x ho ⟨hs.1, hs.2.1⟩ (fun n hn => (f5 n hn).1) (by omega) (by omega) sg
   have hvl := valI_len (x := x)
   have hn0 : 0 ≤ x.cs.sum := isum_nn _ (fun n hn => (f5 n hn).1)
   have D1 := c_spread_Deal (valI x).is p (by omega) (by omega) hp.1 sg
   have E1 := c_wire_Even x.cs.sum.toNat p.toNat (by omega) (by omega) sg
   have R1 := c_image_Room p sg
   have hcast1 : ((x.cs.sum.toNat : Nat) : Int) = x.cs.sum := by omega
   have hcast2 : ((p.toNat : Nat) : Int) = p := by omega
   rw [hcast1, hcast2] at E1
   have hvk : (valI x).k = x.k := rfl
   have hvn : (valI x).n = x.cs.sum := rfl
   rw [h1] at C1
   rw [h2] at L1
   have ee : (eLK .z 2 eI : List It → D) = eL 2 eI := rfl
   have hR : 998 / max p 1 * max p 1 = roomI p := rfl
   rw [hR] at R1
   have w62 : IntKind.i64.wrap (p * 62) = p * 62 := wrap64 (by omega)
   simp [eIm] at C1
   simp [eIm, eVl, hvk, hvn] at V1
   try simp at D1
   try simp at E1
   have hk := legal_k f1
   by_cases h3 : p = x.p
   ·subst h3
    refine ⟨fun h => absurd ?_ h, fun _ => ⟨.z, .z, .inl ⟨rfl, rfl⟩, ?_⟩⟩
    ·simp [toE, h1, h2]
    ·refine wp_call e_spread_To rfl ?_
     simp [F_spread_To, eIm, C1, L1, V1, sprI, eImK, ee]
   ·have hb3 : (p == x.p) = false := by simp [h3]
    have hk4 : x.k = 1 ∨ x.k = 2 ∨ x.k = 3 ∨ x.k = 4 := by omega
    by_cases h4 : (x.k = 1 ∧ ((valI x).is.length : Int) > p * 62) ∨ (x.k = 2 ∧ ((valI x).is.length : Int) > roomI p)
    ·have hE : toE x p = 3 := by simp only [toE, h1, h2]; rw [if_neg (by simp), if_neg (by simp), if_pos ⟨h3, h4⟩]
     refine ⟨fun _ => ?_, fun h => by rw [hE] at h; cases h⟩
     rw [hE]
     refine wp_call e_spread_To rfl ?_
     rcases h4 with ⟨k1, k2⟩ | ⟨k1, k2⟩
     ·have k2' : p * 62 < ((valI x).is.length : Int) := k2
      simp [k1] at C1 L1 V1 ⊢
      simp [F_spread_To, eIm, C1, L1, V1, h3, hb3, k1, w62, k2', eImK, ee]
     ·have k2' : roomI p < ((valI x).is.length : Int) := k2
      simp [k1] at C1 L1 V1 ⊢
      simp [F_spread_To, eIm, C1, L1, V1, h3, hb3, k1, R1, k2', eImK, ee]
    ·have hE : toE x p = 0 := by simp only [toE, h1, h2]; rw [if_neg (by simp), if_neg (by simp), if_neg (fun h => h4 h.2)]
     refine ⟨fun h => absurd hE h, fun _ => ?_⟩
     have h5 : x.k = 1 → ¬ p * 62 < ((valI x).is.length : Int) := fun a b => h4 (.inl ⟨a, b⟩)
     have h6 : x.k = 2 → ¬ roomI p < ((valI x).is.length : Int) := fun a b => h4 (.inr ⟨a, b⟩)
     rcases hk4 with k1 | k1 | k1 | k1
     ·refine ⟨.o, .z, .inr (.inl ⟨h3, rfl, rfl⟩), ?_⟩
      refine wp_call e_spread_To rfl ?_
      have h5 := h5 k1
      simp [k1] at C1 L1 V1 ⊢
      simp [F_spread_To, eIm, C1, L1, V1, D1, h3, hb3, k1, w62, h5, sprI, eImK, ee]
     ·refine ⟨.z, .z, .inl ⟨rfl, rfl⟩, ?_⟩
      refine wp_call e_spread_To rfl ?_
      have h6 := h6 k1
      simp [k1] at C1 L1 V1 ⊢
      simp [F_spread_To, eIm, C1, L1, V1, R1, h3, hb3, k1, h6, sprI, eImK, ee]
     ·refine ⟨.z, .o, .inr (.inr ⟨h3, rfl, rfl⟩), ?_⟩
      refine wp_call e_spread_To rfl ?_
      simp [k1] at C1 L1 V1 ⊢
      simp [F_spread_To, eIm, C1, L1, V1, E1, h3, hb3, k1, sprI, eImK, ee]
     ·refine ⟨.z, .z, .inl ⟨rfl, rfl⟩, ?_⟩
      refine wp_call e_spread_To rfl ?_
      simp [k1] at C1 L1 V1 ⊢
      simp [F_spread_To, eIm, C1, L1, V1, h3, hb3, k1, sprI, eImK, ee]
  ·have hE : toE x p = legal x.k p := by simp [toE, h1, h2]
   refine ⟨fun _ => ?_, fun h => absurd (by rw [← hE]; exact h) h2⟩
   refine wp_call e_spread_To rfl ?_
   rw [hE]
   rw [h1] at C1
   simp [eIm] at C1
   have hb : (legal x.k p != 0) = true := by simp [h2]
   simp [F_spread_To, eIm, C1, L1, eImK, hb]
 ·have hE : toE x p = checkI x := by simp [toE, h1]
  refine ⟨fun _ => ?_, fun h => absurd (by rw [← hE]; exact h) h1⟩
  refine wp_call e_spread_To rfl ?_
  rw [hE]
  simp [eIm] at C1
  have hb : (checkI x != 0) = true := by simp [h1]
  simp [F_spread_To, eIm, C1, eImK, hb]
end Go.AM

namespace Go.AM
theorem dealO_lens (l : List It) (n m : Nat) : (dealO l n m).map List.length = (List.range n).map (cntD m n) := by
 rw [dealO, List.map_map]
 exact List.map_congr_left (fun i _ => by simp)
theorem dealO_mem {l : List It} {n m : Nat} (hm : m ≤ l.length) {c : List It} (h : c ∈ dealO l n m) : ∃ i, i < n ∧ c = (List.range (cntD m n i)).map (fun j => l[i + j * n]!) := by
 simp only [dealO, List.mem_map, List.mem_range] at h
 obtain ⟨i, hi, rfl⟩ := h
 exact ⟨i, hi, rfl⟩
theorem col_mem {l : List It} {n m i : Nat} (hm : m ≤ l.length) (hi : i < n) {y : It} (h : y ∈ (List.range (cntD m n i)).map (fun j => l[i + j * n]!)) : y ∈ l := by
 simp only [List.mem_map, List.mem_range] at h
 obtain ⟨j, hj, rfl⟩ := h
 have := cntD_lt hi m j hj
 rw [getElem!_pos l _ (by omega)]
 exact List.getElem_mem _
theorem col_ordered {l : List It} {n m i : Nat} (hm : m ≤ l.length) (hi : i < n) (h : l.Pairwise leI) : ((List.range (cntD m n i)).map (fun j => l[i + j * n]!)).Pairwise leI := by
 rw [List.pairwise_iff_getElem]
 intro a b ha hb hab
 simp only [List.length_map, List.length_range] at ha hb
 simp only [List.getElem_map, List.getElem_range]
 have h1 := cntD_lt hi m a ha
 have h2 := cntD_lt hi m b hb
 rw [getElem!_pos l _ (by omega), getElem!_pos l _ (by omega)]
 refine List.pairwise_iff_getElem.1 h _ _ _ _ ?_
 have : a * n < b * n := Nat.mul_lt_mul_of_pos_right hab (by omega)
 omega
theorem valI_ordered {x : Im} (hk : x.k = 1) : (valI x).is.Pairwise leI := by
 have : (valI x).is = sortI (x.ls.flatten.map It.canon) := by simp [valI, hk]
 rw [this]
 exact (ordered_pw _).1 (sortI_ordered _)
end Go.AM

namespace Go.AM
theorem spr_facts {x : Im} {p : Int} (ho : x.ok) (hs : x.small) (hE : toE x p = 0) : (sprI x p).ok ∧ (sprI x p).small ∧ checkI (sprI x p) = 0 := by
 have h1 : checkI x = 0 := by
  apply Decidable.byContradiction
  intro h
  rw [toE, if_pos h] at hE; exact h hE
 have h2 : legal x.k p = 0 := by
  apply Decidable.byContradiction
  intro h
  rw [toE, if_neg (by simp [h1]), if_pos h] at hE; exact h hE
 obtain ⟨f1, f2, f3, f4, f5, f6⟩ := check_facts h1
 have hp := legal_p h2
 have hk := legal_k f1
 by_cases h3 : p = x.p
 ·have : sprI x p = x := by simp [sprI, h3]
  rw [this]; exact ⟨ho, hs, h1⟩
 have hflat : x.ls.flatten.length ≤ 1000 := by rw [List.length_flatten]; exact f4
 by_cases k1 : x.k = 1
 ·obtain ⟨n, hn⟩ : ∃ n : Nat, p = n := ⟨p.toNat, by omega⟩
  subst hn
  have hn0 : 0 < n := by omega
  obtain ⟨is, his⟩ : ∃ is, is = (valI x).is := ⟨_, rfl⟩
  have e : sprI x n = ⟨x.k, n, x.c, dealO is n is.length, x.cs⟩ := by
   simp only [sprI]
   rw [if_neg h3, if_pos k1, ← his]
   unfold dealD
   rw [if_pos (by omega)]; rfl
  have hlen : is.length = x.ls.flatten.length := by rw [his, valI_len]
  have hcap : is.length ≤ 62 * n := by
   rw [toE, if_neg (by simp [h1]), if_neg (by simp [h2])] at hE
   apply Decidable.byContradiction
   intro h
   rw [if_pos ⟨h3, .inl ⟨k1, by rw [← his]; omega⟩⟩] at hE
   cases hE
  have hisok : ∀ y ∈ is, y.ok := by rw [his]; exact valI_ok ho
  have hord : is.Pairwise leI := by rw [his]; exact valI_ordered k1
  have hcs : x.cs = [] := by
   have : (x.cs.length : Int) = 0 := by rw [f2.2, k1]; rfl
   exact List.length_eq_zero_iff.1 (by omega)
  have hcol : ∀ c ∈ dealO is n is.length, c.length ≤ 62 ∧ (∀ y ∈ c, y.ok) ∧ ordered c = true := by
   intro c hc
   obtain ⟨i, hi, rfl⟩ := dealO_mem (Nat.le_refl _) hc
   refine ⟨?_, fun y hy => hisok y (col_mem (Nat.le_refl _) hi hy), (ordered_pw _).2 (col_ordered (Nat.le_refl _) hi hord)⟩
   have := cntD_cap (i := i) hn0 hcap
   simpa using this
  have hsum : ((dealO is n is.length).map List.length).sum = is.length := by rw [dealO_lens, cntD_sum hn0]
  rw [e]
  refine ⟨⟨fun l hl y hy => (hcol l hl).2.1 y hy, ho.2.1, by rw [hsum]; omega⟩, ⟨by rw [dealO_len]; omega, hs.2.1, fun l hl => by have := (hcol l hl).1; omega⟩, ?_⟩
  have hz : ordersE x.k (dealO is n is.length) = 0 := ordersE_zero _ _ (fun l hl => by
   have := hcol l hl
   simp [orderE, k1, this.2.2]; omega)
  have hc0 : countsE x.cs = 0 := by rw [hcs]; rfl
  simp only [checkI, h2, hz, hc0, hsum, dealO_len]
  rw [if_neg (by simp), if_neg ?_, if_neg (by simp), if_neg (by omega)]
  rw [k1, hcs]; simp [shapeOf]
 ·by_cases k3 : x.k = 3
  ·obtain ⟨n, hn⟩ : ∃ n : Nat, p = n := ⟨p.toNat, by omega⟩
   subst hn
   have hn0 : 0 < n := by omega
   have hs0 : 0 ≤ x.cs.sum := isum_nn _ (fun n hn => (f5 n hn).1)
   obtain ⟨m, hm⟩ : ∃ m : Nat, x.cs.sum = m := ⟨x.cs.sum.toNat, by omega⟩
   have e : sprI x n = ⟨x.k, n, x.c, x.ls, evenD m n⟩ := by
    simp only [sprI]
    rw [if_neg h3, if_neg k1, if_pos k3, hm]; rfl
   have hls : x.ls = [] := by
    have : (x.ls.length : Int) = 0 := by rw [f2.1, k3]; rfl
    exact List.length_eq_zero_iff.1 (by omega)
   have hel : (evenD m n).length = n := by simp [evenD]
   rw [e]
   refine ⟨⟨ho.1, fun y hy => by have := evenD_mem hy; omega, ho.2.2⟩, ⟨hs.1, by simp only [hel]; omega, hs.2.2⟩, ?_⟩
   have hc0 : countsE (evenD m n) = 0 := by
    unfold countsE
    rw [if_neg]
    simp only [Bool.or_eq_true, decide_eq_true_eq, List.any_eq_true]
    rintro (⟨y, hy, hb⟩ | hb)
    ·have := evenD_mem hy; simp [badN] at hb; omega
    ·rw [evenD_sum hn0] at hb; omega
   simp only [checkI, h2, f3, hc0, hel]
   rw [if_neg (by simp), if_neg ?_, if_neg (by simp), if_neg (by omega)]
   rw [k3, hls]; simp [shapeOf]
  ·have e : sprI x p = ⟨x.k, p, x.c, x.ls, x.cs⟩ := by
    simp only [sprI]
    rw [if_neg h3, if_neg k1, if_neg k3]
   have hsh : shapeOf x.k p = shapeOf x.k x.p := by
    have : x.k = 2 ∨ x.k = 4 := by omega
    rcases this with k | k <;> simp [shapeOf, k]
   rw [e]
   refine ⟨ho, hs, ?_⟩
   have hc := h1
   simp only [checkI, f1, f3] at hc
   rw [if_neg (by simp), if_neg (by omega), if_neg (by simp), if_neg (by omega)] at hc
   simp only [checkI, h2, f3, hsh, hc]
   rw [if_neg (by simp), if_neg (by omega), if_neg (by simp), if_neg (by omega)]
def mnI (x : Im) : Im := { x with ls := [(x.ls.flatten ++ (List.range 998).map fun i : Nat => (⟨0, (i : Int)⟩ : It)).take 998] }
end Go.AM

namespace Go.AM
theorem w_cpy (OO : Or) (m : TypeId → String → Option FuncId) (s : St) (d : Option Nat) (Q : R → St → Ac → Prop) (sz : Nat) (x y : X) : @W1 (evO OO m (.cpy sz x y) s d) ⟨Q⟩ trivial ↔ @O1 _ (rx x s) ⟨fun p => @O1 _ (rxv y p.2) ⟨fun q => match q.1 with
    | .l _ sz' ys => @O1 _ (hpl p.1) ⟨fun h => match q.2.at h.1 with
     | some (.l .x sz'' xs) => (sz' = sz ∧ sz'' = sz) ∧ Q (.v (.i .i64 (min ys.length xs.length))) { q.2.setAt h.1 (.l .x sz (ys.take xs.length ++ xs.drop ys.length)) with lo := q.2.loAt (.l .z sz ys) h.1 } h.1.we
     | _ => False⟩ trivial
    | _ => False⟩ trivial⟩ trivial := by
 simp only [evO]
 cases rx x s with
 | none => simp [w1_none, o1_none]
 | some p =>
  obtain ⟨r, s1⟩ := p
  simp only [o1_some]
  cases h2 : rxv y s1 with
  | none => simp [w1_none, o1_none, h2]
  | some q =>
   obtain ⟨v, s2⟩ := q
   simp only [o1_some, h2]
   cases v <;> simp only [w1_none]
   rename_i k sz' ys
   cases h3 : hpl r with
   | none => simp [w1_none, o1_none, h3]
   | some h =>
    obtain ⟨pl, ac⟩ := h
    simp only [o1_some, h3]
    cases h4 : s2.at pl with
    | none => simp [w1_none, h4]
    | some e =>
     cases e <;> (try simp only [h4, w1_none])
     rename_i k2 sz2 xs
     cases k2 <;> simp only [h4, w1_none]
     by_cases h5 : sz' = sz ∧ sz2 = sz
     ·rw [if_pos h5, w1_some]; simp [h5]
     ·rw [if_neg h5, w1_none]; simp [h5]
attribute [simp ↓] w_cpy
attribute [simp] hpl
def passN : List (Nat × Nat) → List Int → List Int × List Int
 | [], now => ([], now)
 | g :: gs, now => (((now[g.1]?).getD 0 + (now[g.2]?).getD 0) :: (passN gs ((now.set g.1 (((now[g.1]?).getD 0 + (now[g.2]?).getD 0) - ((now[g.1]?).getD 0 + (now[g.2]?).getD 0) / 2)).set g.2 (((now[g.1]?).getD 0 + (now[g.2]?).getD 0) / 2))).1,
     (passN gs ((now.set g.1 (((now[g.1]?).getD 0 + (now[g.2]?).getD 0) - ((now[g.1]?).getD 0 + (now[g.2]?).getD 0) / 2)).set g.2 (((now[g.1]?).getD 0 + (now[g.2]?).getD 0) / 2))).2)
theorem isum_set : ∀ (l : List Int) (i : Nat) (v : Int) (h : i < l.length), (l.set i v).sum = l.sum - l[i] + v
 | x :: l, 0, v, h => by simp only [List.set_cons_zero, List.sum_cons, List.getElem_cons_zero]; omega
 | x :: l, i + 1, v, h => by
  have := isum_set l i v (by simpa using h)
  simp only [List.set_cons_succ, List.sum_cons, List.getElem_cons_succ, this]; omega
theorem isum_get : ∀ (l : List Int) (i : Nat) (h : i < l.length), (∀ n ∈ l, 0 ≤ n) → l[i] ≤ l.sum
 | x :: l, 0, h, h0 => by
  have := isum_nn l (fun n hn => h0 n (by simp [hn]))
  simp only [List.getElem_cons_zero, List.sum_cons]; omega
 | x :: l, i + 1, h, h0 => by
  have := isum_get l i (by simpa using h) (fun n hn => h0 n (by simp [hn]))
  have := h0 x (by simp)
  simp only [List.getElem_cons_succ, List.sum_cons]; omega
theorem isum_get2 (l : List Int) (i j : Nat) (hi : i < l.length) (hj : j < l.length) (hij : i ≠ j) (h0 : ∀ n ∈ l, 0 ≤ n) : l[i] + l[j] ≤ l.sum := by
 have h1 := isum_set l i 0 hi
 have h2 := isum_get (l.set i 0) j (by simpa using hj) (fun n hn => by
  rcases List.mem_or_eq_of_mem_set hn with h | rfl
  ·exact h0 n h
  ·omega)
 rw [List.getElem_set_ne hij] at h2
 omega
def gateN (now : List Int) (a b : Nat) : List Int := (now.set a (((now[a]?).getD 0 + (now[b]?).getD 0) - ((now[a]?).getD 0 + (now[b]?).getD 0) / 2)).set b (((now[a]?).getD 0 + (now[b]?).getD 0) / 2)
theorem gateN_facts (now : List Int) (a b : Nat) (ha : a < now.length) (hb : b < now.length) (hab : a ≠ b) (h0 : ∀ n ∈ now, 0 ≤ n) :
    (gateN now a b).length = now.length ∧ (∀ n ∈ gateN now a b, 0 ≤ n) ∧ (gateN now a b).sum = now.sum := by
 have h1 := h0 now[a] (List.getElem_mem ha)
 have h2 := h0 now[b] (List.getElem_mem hb)
 simp only [gateN, List.getElem?_eq_getElem ha, List.getElem?_eq_getElem hb, Option.getD_some]
 refine ⟨by simp, ?_, ?_⟩
 ·intro n hn
  rcases List.mem_or_eq_of_mem_set hn with h | rfl
  ·rcases List.mem_or_eq_of_mem_set h with h | rfl
   ·exact h0 n h
   ·omega
  ·omega
 ·rw [isum_set _ _ _ (by simpa using hb), isum_set _ _ _ ha, List.getElem_set_ne hab]
  omega
theorem c_wire_Plan_Pass (p : Nat) (hp : widthN p) (now : List Int) (hl : now.length = p) (h0 : ∀ n ∈ now, 0 ≤ n) (hs : now.sum ≤ 1125899906842624) (sg) :
    LL.call n_wire_Plan_Pass [ePlan .z p, .l .z 1 (now.map (.i .i64))] sg sg.length = some (.t [.l .o 1 ((passN (gatesN p) now).1.map (.i .i64)), .l .o 1 ((outsN p).map fun w => .i .i64 (((passN (gatesN p) now).2[w]?).getD 0))], sg, sg.length) := by
 generalize hr : passN (gatesN p) now = r
 obtain ⟨f1, f2, f3, f4⟩ := widthN_facts p hp
 refine wp_call e_wire_Plan_Pass rfl ?_
 have hp8 : (↑p : Int) ≤ 9223372036854775807 ∧ p * 8 ≤ 140737488355328 := by rcases hp with rfl | rfl | rfl | rfl | rfl <;> omega
 simp [F_wire_Plan_Pass, ePlan, hl, hp8]
 have f5 : ∀ g ∈ gatesN p, g.1 ≠ g.2 := by rcases hp with rfl | rfl | rfl | rfl | rfl <;> decide
 obtain ⟨S, hS⟩ : ∃ S, S = now.sum := ⟨_, rfl⟩
 have htk : List.take p (List.map (D.i IntKind.i64) now) = now.map (D.i IntKind.i64) := List.take_of_length_le (by simp [hl])
 rw [htk]
 refine wc_listi (gatesN p) (fun j (b : List Int × List Int) => ⟨[(2, R.q (Q.ptr 2 0)), (6, R.q (Q.hdr 6)), (7, R.v (D.l K.o 1 (b.1.map (D.i .i64)))), (8, R.v (D.l K.o 1 [])),
         (21, R.v (D.l K.z 2 (List.map eG (gatesN p)))), (22, R.v (D.i IntKind.i64 ↑(gatesN p).length)), (23, R.v (D.i IntKind.i64 j))],
  [(2, [D.i IntKind.i64 ↑p, D.l K.z 2 (List.map eG (gatesN p)), D.l K.z 1 (List.map eN (outsN p))]), (6, [D.l K.x 1 (b.2.map (D.i IntKind.i64))])], sg, sg.length⟩)
  (fun j l b => (b.1 ++ (passN l b.2).1, (passN l b.2).2) = r ∧ b.2.length = p ∧ (∀ n ∈ b.2, 0 ≤ n) ∧ b.2.sum = S ∧ b.1.length = j) ([], now) (by simp) ⟨by simp [hr], hl, h0, hS.symm, rfl⟩ ?_ ?_
 ·rintro j g rest ⟨ds, nw⟩ hj hg ⟨hP, hl', h0', hs', hdl⟩ ih
  have hgm : g ∈ gatesN p := hg ▸ List.getElem_mem hj
  obtain ⟨g1, g2⟩ := f1 g hgm
  have g3 := f5 g hgm
  obtain ⟨a, b⟩ := g
  simp only at g1 g2 g3 hl' h0' hs' hdl
  have ha : a < nw.length := by omega
  have hb : b < nw.length := by omega
  have hj' : (j : Int) < (gatesN p).length := by omega
  have w1 : IntKind.i64.wrap ((j : Int) + 1) = (j : Int) + 1 := wrap64 (by omega)
  have n1 := h0' nw[a] (List.getElem_mem ha)
  have n2 := h0' nw[b] (List.getElem_mem hb)
  have n3 := isum_get2 nw a b ha hb g3 h0'
  have hgf := gateN_facts nw a b ha hb g3 h0'
  obtain ⟨n, hn⟩ : ∃ n, n = nw[a] + nw[b] := ⟨_, rfl⟩
  have w2 : IntKind.i64.wrap (nw[a] + nw[b]) = n := by rw [hn]; exact wrap64 (by omega)
  have hd : Int.tdiv n 2 = n / 2 := Int.tdiv_eq_ediv_of_nonneg (by omega)
  have w3 : IntKind.i64.wrap (n / 2) = n / 2 := wrap64 (by omega)
  have w4 : IntKind.i64.wrap (n - n / 2) = n - n / 2 := wrap64 (by omega)
  have ih := ih (ds ++ [n], gateN nw a b) ⟨by rw [← hP]; simp [passN, gateN, ha, hb, hn], by simp only; omega, hgf.2.1, by simp only; omega, by simp [hdl]⟩
  have hgn : (gateN nw a b).map (D.i IntKind.i64) = ((nw.map (D.i IntKind.i64)).set a (.i .i64 (n - n / 2))).set b (.i .i64 (n / 2)) := by
   simp [gateN, ha, hb, hn, List.map_set]
  simp [hgn] at ih
  have hg2 : ∀ (x : D) (h : b < ((nw.map (D.i .i64)).set a x).length), ((nw.map (D.i .i64)).set a x)[b] = .i .i64 nw[b] := fun x h => by rw [List.getElem_set_ne g3]; simp
  simp [hj, hj', hg, eG, ha, hb, w1, w2, hd, w3, w4, hg2]
  exact ⟨by omega, ih⟩
 ·rintro ⟨ds, nw⟩ ⟨hP, hl', h0', hs', hdl⟩
  have hr2 : r = (ds, nw) := by rw [← hP]; simp [passN]
  subst hr2
  simp
  obtain ⟨f, hf⟩ : ∃ f : Nat → D, ∀ w, f w = .i .i64 ((nw[w]?).getD 0) := ⟨_, fun _ => rfl⟩
  have hff : (fun w => D.i IntKind.i64 ((nw[w]?).getD 0)) = f := funext fun w => (hf w).symm
  rw [hff]
  refine wc_listi (outsN p) (fun j (b : List D) => ⟨[(6, R.q (Q.hdr 6)), (7, R.v (D.l K.o 1 (List.map (D.i IntKind.i64) ds))), (8, R.v (D.l K.o 1 b)),
        (58, R.v (D.l K.z 1 (List.map eN (outsN p)))), (59, R.v (D.i IntKind.i64 ↑(outsN p).length)), (60, R.v (D.i IntKind.i64 j))], [(6, [D.l K.x 1 (List.map (D.i IntKind.i64) nw)])], sg, sg.length⟩)
   (fun j l b => b ++ l.map f = (outsN p).map f ∧ b.length = j) [] (by simp) ⟨by simp, rfl⟩ ?_ ?_
  ·rintro j w rest b hj hw ⟨hb1, hb2⟩ ih
   have hwm : w < nw.length := by rw [hl']; exact f2 w (hw ▸ List.getElem_mem hj)
   have hj' : (j : Int) < (outsN p).length := by omega
   have w1 : IntKind.i64.wrap ((j : Int) + 1) = (j : Int) + 1 := wrap64 (by omega)
   have ih := ih (b ++ [f w]) ⟨by simpa using hb1, by simp [hb2]⟩
   have hfw : f w = .i .i64 nw[w] := by rw [hf]; simp [hwm]
   rw [hfw] at ih
   simp [hj, hj', hw, eN, w1, hwm]
   refine ⟨by omega, ?_⟩
   simpa using ih
  ·rintro b ⟨hb1, hb2⟩
   simp at hb1
   simp [hb1]
end Go.AM

namespace Go.AM
end Go.AM

namespace Go.AM
def numsP (l : List Int) : List Pt := l.mapIdx fun i n => ⟨i, n, []⟩
def slotsP (l : List It) : List Pt := l.mapIdx fun i x => ⟨(i : Int) + 2, 1, [x]⟩
def fifoP (p : Int) (l : List It) : List Pt := slotsP l ++ if l.length = 0 then [] else [⟨1, ((l.length : Int) - 1) / p, []⟩]
def tokP (p : Nat) (n : Int) : List Pt := numsP ((passN (gatesN p) (evenD n.toNat p)).1 ++ (outsN p).map fun w => ((passN (gatesN p) (evenD n.toNat p)).2[w]?).getD 0)
def layP (x : Im) : List Pt :=
 if x.k = 1 then x.ls.mapIdx fun i l => ⟨i, 0, l⟩ else if x.k = 2 then fifoP x.p (x.ls.headD []) else if x.k = 3 then numsP x.cs else tokP x.p.toNat (x.cs.headD 0)
theorem mapIdx_snoc {α β : Type} (f : Nat → α → β) (l : List α) (j : Nat) (h : j < l.length) : (l.take (j + 1)).mapIdx f = (l.take j).mapIdx f ++ [f j l[j]] := by
 rw [List.take_succ_eq_append_getElem h, List.mapIdx_append]
 simp only [List.mapIdx_cons, List.mapIdx_nil, List.length_take, Nat.min_eq_left (Nat.le_of_lt h), Nat.zero_add]
theorem slotsP_snoc (l : List It) (j : Nat) (h : j < l.length) : slotsP (l.take (j + 1)) = slotsP (l.take j) ++ [⟨(j : Int) + 2, 1, [l[j]]⟩] := by
 unfold slotsP
 rw [mapIdx_snoc _ l j h]
theorem slotsP_all (l : List It) : slotsP (l.take l.length) = slotsP l := by rw [List.take_length]
theorem slotsP_ok (l : List It) (h : l.length ≤ 998) : ∀ q ∈ slotsP l, q.ok := by
 intro q hq
 simp only [slotsP, List.mem_mapIdx] at hq
 obtain ⟨i, hi, rfl⟩ := hq
 simp [Pt.ok]; omega
theorem slotsP_len (l : List It) : (slotsP l).length = l.length := by simp [slotsP]
theorem c_kfifo_New (k : Int) (hk : 1 ≤ k ∧ k ≤ 16) (sg) : LL.call n_kfifo_New [.i .i64 k] sg sg.length = some (.t [.a [.i .i64 k], .i .i64 0], sg, sg.length) := by
 have L := c_op_Legal 2 k sg
 have hl : legal 2 k = 0 := by simp [legal]; omega
 rw [hl] at L
 refine wp_call e_kfifo_New rfl ?_
 simp [F_kfifo_New, L]
theorem c_kfifo_Queue_Slot (k s j : Int) (hk : 1 ≤ k ∧ k ≤ 16) (hs : 0 ≤ s ∧ s ≤ 1000000000) (hj : 0 ≤ j ∧ j ≤ 1000000000) (sg) : LL.call n_kfifo_Queue_Slot [.a [.i .i64 k], .i .i64 s, .i .i64 j] sg sg.length = some (.i .i64 (2 + s * k + j), sg, sg.length) := by
 refine wp_call e_kfifo_Queue_Slot rfl ?_
 have h1 : s * k ≤ 1000000000 * 16 := Int.mul_le_mul hs.2 hk.2 (by omega) (by omega)
 have h2 : 0 ≤ s * k := Int.mul_nonneg hs.1 (by omega)
 have w1 : IntKind.i64.wrap (s * k) = s * k := wrap64 (by omega)
 have w2 : IntKind.i64.wrap (2 + s * k) = 2 + s * k := wrap64 (by omega)
 have w3 : IntKind.i64.wrap (2 + s * k + j) = 2 + s * k + j := wrap64 (by omega)
 simp [F_kfifo_Queue_Slot, w1, w2, w3]
theorem c_spread_fifo (x : Im) (l : List It) (hx : x.ls = [l]) (hp : 1 ≤ x.p ∧ x.p ≤ 16) (hl : l.length ≤ 998) (sg : List (List D)) (r : Nat) (hr : sg[r]? = some (eMem (memOf []))) :
    LL.call n_spread_fifo [.p r 0, eIm x] sg sg.length = some (.t [], sg.set r (eMem (memOf (fifoP x.p l))), sg.length) := by
 refine wp_call e_spread_fifo rfl ?_
 have N1 := c_kfifo_New x.p hp sg
 have hlt := get_lt hr
 simp [F_spread_fifo, eIm, N1, hx]
 have hss := set_same hr
 have hg : ∀ a, (sg.set r a)[r]? = some a := fun a => List.getElem?_set_self hlt
 refine wc_listi l (fun j (b : Unit) => ⟨[(0, R.v (D.p r 0)), (3, R.q (Q.ptr 3 0)), (4, R.q (Q.ptr 4 0)), (18, R.v (D.l K.z 2 (List.map eI l))), (19, R.v (D.i IntKind.i64 ↑l.length)), (20, R.v (D.i IntKind.i64 j))],
     [(3, [D.i IntKind.i64 x.k, D.i IntKind.i64 x.p, D.i IntKind.u64 x.c, D.l K.z 1 [D.l K.z 2 (List.map eI l)], D.l K.z 1 (List.map (D.i IntKind.i64) x.cs)]), (4, [D.i IntKind.i64 x.p])],
     sg.set r (eMem (memOf (slotsP (l.take j)))), sg.length⟩) (fun j r b => True) () ?hs trivial ?_ ?_
 case hs => simp; simpa [slotsP] using hss.symm
 ·rintro j y rest _ hj hy _ ih
  have ih := ih () trivial
  have hj' : (j : Int) < l.length := by omega
  have w1 : IntKind.i64.wrap ((j : Int) + 1) = (j : Int) + 1 := wrap64 (by omega)
  have hd : Int.tdiv (j : Int) x.p = j / x.p := Int.tdiv_eq_ediv_of_nonneg (by omega)
  have hm : Int.tmod (j : Int) x.p = j % x.p := Int.tmod_eq_emod_of_nonneg (by omega)
  have hd0 : 0 ≤ (j : Int) / x.p := Int.ediv_nonneg (by omega) (by omega)
  have hd1 : (j : Int) / x.p ≤ j := Int.ediv_le_self _ (by omega)
  have hm0 := Int.emod_nonneg (j : Int) (show x.p ≠ 0 by omega)
  have hm1 := Int.emod_lt_of_pos (j : Int) (show 0 < x.p by omega)
  have hdm := Int.mul_ediv_add_emod (j : Int) x.p
  have w2 : IntKind.i64.wrap ((j : Int) / x.p) = j / x.p := wrap64 (by omega)
  have S1 := c_kfifo_Queue_Slot x.p (j / x.p) (j % x.p) hp (by omega) (by omega) (sg.set r (eMem (memOf (slotsP (l.take j)))))
  have hq : 2 + (j : Int) / x.p * x.p + j % x.p = (j : Int) + 2 := by rw [Int.mul_comm]; omega
  rw [hq] at S1
  have hx0 : (x.p == 0) = false := by simp; omega
  have hx0' : ¬ x.p = 0 := by omega
  rw [slotsP_snoc l j hj, hy] at ih
  have F1 := c_force (slotsP (l.take j)) ⟨(j : Int) + 2, 1, [y]⟩ (by simp [Pt.ok]; omega) (slotsP_ok _ (by simp; omega)) (by rw [slotsP_len]; simp; omega) (sg.set r (eMem (memOf (slotsP (l.take j))))) r (hg _)
  simp at S1 F1
  simp [hj, hj', hy, eI, w1, hd, hm, w2, hx0', S1, F1]
  simpa using ih
 ·rintro _ _
  by_cases h0 : l.length = 0
  ·have hf : fifoP x.p l = slotsP l := by rw [fifoP, if_pos h0, List.append_nil]
   have h0' : ¬ 0 < l.length := by omega
   simp [slotsP_all, hf, h0']
   exact take_set _ _ _
  ·have h0' : 0 < l.length := by omega
   have w1 : IntKind.i64.wrap ((l.length : Int) - 1) = (l.length : Int) - 1 := wrap64 (by omega)
   have hd : Int.tdiv ((l.length : Int) - 1) x.p = ((l.length : Int) - 1) / x.p := Int.tdiv_eq_ediv_of_nonneg (by omega)
   have hd0 : 0 ≤ ((l.length : Int) - 1) / x.p := Int.ediv_nonneg (by omega) (by omega)
   have hd1 : ((l.length : Int) - 1) / x.p ≤ (l.length : Int) - 1 := Int.ediv_le_self _ (by omega)
   have w2 : IntKind.i64.wrap (((l.length : Int) - 1) / x.p) = ((l.length : Int) - 1) / x.p := wrap64 (by omega)
   have hx0' : ¬ x.p = 0 := by omega
   have hf : fifoP x.p l = slotsP l ++ [⟨1, ((l.length : Int) - 1) / x.p, []⟩] := by rw [fifoP, if_neg h0]
   have F1 := c_force (slotsP l) ⟨1, ((l.length : Int) - 1) / x.p, []⟩ (by simp [Pt.ok]) (slotsP_ok _ hl) (by rw [slotsP_len]; omega) (sg.set r (eMem (memOf (slotsP l)))) r (hg _)
   simp at F1
   simp [slotsP_all, hf, h0', w1, hd, w2, hx0', F1]
   exact take_set _ _ _
theorem numsP_ok (l : List Int) (h : l.length ≤ 1000) : ∀ q ∈ numsP l, q.ok := by
 intro q hq
 simp only [numsP, List.mem_mapIdx] at hq
 obtain ⟨i, hi, rfl⟩ := hq
 simp [Pt.ok]; omega
theorem numsP_len (l : List Int) : (numsP l).length = l.length := by simp [numsP]
theorem numsP_snoc (l : List Int) (j : Nat) (h : j < l.length) : numsP (l.take (j + 1)) = numsP (l.take j) ++ [⟨j, l[j], []⟩] := by
 unfold numsP
 rw [mapIdx_snoc _ l j h]
theorem widthN_of {p : Int} (h : legal 4 p = 0) : widthN p.toNat ∧ ((p.toNat : Nat) : Int) = p := by
 unfold legal at h
 split at h
 ·cases h
 ·split at h
  ·cases h
  ·rename_i h1
   unfold widthN
   omega
theorem pass_len : ∀ (gs : List (Nat × Nat)) (now : List Int), (passN gs now).1.length = gs.length
 | [], now => rfl
 | g :: gs, now => by simp [passN, pass_len gs]
theorem c_spread_tokens (x : Im) (n : Int) (hx : x.cs = [n]) (hp : legal 4 x.p = 0) (hn : 0 ≤ n ∧ n ≤ 1125899906842624) (sg : List (List D)) (r : Nat) (hr : sg[r]? = some (eMem (memOf []))) :
    LL.call n_spread_tokens [.p r 0, eIm x] sg sg.length = some (.t [], sg.set r (eMem (memOf (tokP x.p.toNat n))), sg.length) := by
 refine wp_call e_spread_tokens rfl ?_
 obtain ⟨hw, hpp⟩ := widthN_of hp
 obtain ⟨p, hpe⟩ : ∃ p, p = x.p.toNat := ⟨_, rfl⟩
 rw [← hpe] at hw hpp ⊢
 have hp16 : 1 ≤ p ∧ p ≤ 16 := by have := hw; unfold widthN at this; omega
 have N1 := p_net_New p hw
 have E1 := c_wire_Even n.toNat p (by omega) (by omega) sg
 have hnn : ((n.toNat : Nat) : Int) = n := by omega
 have hel : (evenD n.toNat p).length = p := by simp [evenD]
 have hes : (evenD n.toNat p).sum = n := by rw [evenD_sum (by omega)]; omega
 have P1 := c_wire_Plan_Pass p hw (evenD n.toNat p) hel (fun y hy => (evenD_mem hy).1) (by omega) sg
 obtain ⟨f1, f2, f3, f4⟩ := widthN_facts p hw
 have hlt := get_lt hr
 have hss := set_same hr
 have hg : ∀ a, (sg.set r a)[r]? = some a := fun a => List.getElem?_set_self hlt
 have hgl := pass_len (gatesN p) (evenD n.toNat p)
 rw [tokP]
 generalize passN (gatesN p) (evenD n.toNat p) = ps at *
 obtain ⟨ws, hws⟩ : ∃ ws, ws = (outsN p).map fun w => ((ps.2[w]?).getD 0) := ⟨_, rfl⟩
 have hws2 : ((outsN p).map fun w => D.i IntKind.i64 ((ps.2[w]?).getD 0)) = ws.map (.i .i64) := by rw [hws, List.map_map]; rfl
 have hwl : ws.length = p := by rw [hws]; simp [f3]
 rw [hws2] at P1
 rw [← hws]
 obtain ⟨ns, hns⟩ : ∃ ns, ns = ps.1 ++ ws := ⟨_, rfl⟩
 have hns2 : List.map (D.i IntKind.i64) ps.1 ++ List.map (D.i IntKind.i64) ws = ns.map (.i .i64) := by rw [hns, List.map_append]
 rw [← hns]
 have hnl : ns.length = ps.1.length + ws.length := by rw [hns]; simp
 have hbb : (ps.1.length + ws.length) * 8 ≤ 140737488355328 := by omega
 rw [hnn] at E1
 simp [ePlan] at E1 P1 N1
 rw [hpp] at N1 E1 P1
 simp [F_spread_tokens, eIm, N1, hx, E1, P1, hns2, hbb]
 refine wc_listi ns (fun j (b : Unit) => ⟨[(0, R.v (D.p r 0)), (31, R.v (D.l K.o 1 (ns.map (.i .i64)))), (32, R.v (D.i IntKind.i64 ns.length)), (33, R.v (D.i IntKind.i64 j))], [], sg.set r (eMem (memOf (numsP (ns.take j)))), sg.length⟩) (fun j r b => True) () ?hs trivial ?_ ?_
 case hs => simp [hnl]; simpa [numsP] using hss.symm
 ·rintro j y rest _ hj hy _ ih
  have ih := ih () trivial
  have hj' : (j : Int) < ns.length := by omega
  have w1 : IntKind.i64.wrap ((j : Int) + 1) = (j : Int) + 1 := wrap64 (by omega)
  rw [numsP_snoc ns j hj, hy] at ih
  have F1 := c_force (numsP (ns.take j)) ⟨(j : Int), y, []⟩ (by simp [Pt.ok]; omega) (numsP_ok _ (by simp; omega)) (by rw [numsP_len]; simp; omega) (sg.set r (eMem (memOf (numsP (ns.take j))))) r (hg _)
  simp at F1
  simp [hj, hj', hy, w1, F1]
  simpa using ih
 ·rintro _ _
  simp
  exact take_set _ _ _
theorem layMul_ok (ls : List (List It)) (h : ls.length ≤ 16) (hl : ∀ l ∈ ls, l.length ≤ 1000) : ∀ q ∈ (ls.mapIdx fun i l => (⟨i, 0, l⟩ : Pt)), q.ok := by
 intro q hq
 simp only [List.mem_mapIdx] at hq
 obtain ⟨i, hi, rfl⟩ := hq
 have := hl _ (List.getElem_mem hi)
 simp [Pt.ok]; omega
def layE (x : Im) : Int := if checkI x ≠ 0 then checkI x else if x.k = 2 ∧ ((x.ls.headD []).length : Int) > roomI x.p then 3 else 0
theorem roomI_le (p : Int) (h : 1 ≤ p) : roomI p ≤ 998 := by
 unfold roomI
 exact Int.ediv_mul_le _ (by omega)
theorem get_last {α : Type} (l : List α) (a : α) : (l ++ [a])[l.length]? = some a := by simp
theorem c_spread_Lay (x : Im) (ho : x.ok) (hs : x.small) (hso : x.k = 1 → ∀ l ∈ x.ls, sortI (l.map It.canon) = l) (sg : List (List D)) :
    LL.call n_spread_Lay [eIm x] sg sg.length = some (if layE x = 0 then (.t [.p sg.length 0, .i .i64 0], sg ++ [eMem (memOf (layP x))], sg.length) else (.t [.nilp, .i .i64 (layE x)], sg, sg.length)) := by
 have C1 := c_image_Image_Check x ho sg
 have R1 := c_image_Room x.p sg
 have hR : 998 / max x.p 1 * max x.p 1 = roomI x.p := rfl
 rw [hR] at R1
 by_cases h1 : checkI x = 0
 ·obtain ⟨f1, f2, f3, f4, f5, f6⟩ := check_facts h1
  have hp := legal_p f1
  have hk := legal_k f1
  have N1 := c_cell_New sg
  have hflat : x.ls.flatten.length ≤ 1000 := by rw [List.length_flatten]; exact f4
  have hsh := shape_le _ _ f1
  rw [h1] at C1
  simp [eIm] at C1
  have hk4 : x.k = 1 ∨ x.k = 2 ∨ x.k = 3 ∨ x.k = 4 := by omega
  rcases hk4 with k1 | k1 | k1 | k1
  ·have hE : layE x = 0 := by simp [layE, h1, k1]
   rw [if_pos hE]
   refine wp_call e_spread_Lay rfl ?_
   simp [k1] at C1
   simp [F_spread_Lay, eIm, C1, k1, N1]
   have hL : layP x = x.ls.mapIdx fun i l => ⟨i, 0, l⟩ := by simp [layP, k1]
   have hcl : x.ls.length ≤ 16 := by have := f2.1; rw [k1] at this; simp [shapeOf] at this; omega
   have hll : ∀ l ∈ x.ls, l.length ≤ 1000 := fun l hl => by
    have := (List.sublist_flatten_of_mem hl).length_le
    omega
   have hg : ∀ a, (sg ++ [a])[sg.length]? = some a := get_last sg
   refine wc_listi x.ls (fun j (b : Unit) => ⟨[(5, R.v (D.p sg.length 0)), (39, R.v (D.l K.z 1 (x.ls.map (eL 2 eI)))), (40, R.v (D.i IntKind.i64 x.ls.length)), (41, R.v (D.i IntKind.i64 j))], [], sg ++ [eMem (memOf ((x.ls.take j).mapIdx fun i l => ⟨i, 0, l⟩))], sg.length⟩) (fun j r b => True) () ?hs trivial ?_ ?_
   case hs => simp; rfl
   ·rintro j y rest _ hj hy _ ih
    have ih := ih () trivial
    have hj' : (j : Int) < x.ls.length := by omega
    have w1 : IntKind.i64.wrap ((j : Int) + 1) = (j : Int) + 1 := wrap64 (by omega)
    have hym : y ∈ x.ls := hy ▸ List.getElem_mem hj
    have hyl := hll y hym
    rw [mapIdx_snoc _ x.ls j hj, hy] at ih
    have S1 := c_pile_Sorted y (by omega) (fun z hz => ho.1 y hym z hz) (sg ++ [eMem (memOf ((x.ls.take j).mapIdx fun i l => ⟨i, 0, l⟩))])
    rw [allH_sort y (fun z hz => ho.1 y hym z hz), hso k1 y hym] at S1
    have F1 := c_force ((x.ls.take j).mapIdx fun i l => ⟨i, 0, l⟩) ⟨(j : Int), 0, y⟩ (by simp [Pt.ok]; omega) (layMul_ok _ (by simp; omega) (fun l hl => hll l (List.mem_of_mem_take hl))) (by simp; omega) (sg ++ [eMem (memOf ((x.ls.take j).mapIdx fun i l => ⟨i, 0, l⟩))]) sg.length (hg _)
    simp at F1 S1
    simp [hj, hj', hy, eL, w1, S1, F1]
    simpa [eL] using ih
   ·rintro _ _
    simp [hL]
  ·have hl0 : ∃ l0, x.ls = [l0] := by
    have := f2.1
    rw [k1] at this
    simp [shapeOf] at this
    match h : x.ls, this with
    | [l0], _ => exact ⟨l0, rfl⟩
   obtain ⟨l0, hl0⟩ := hl0
   by_cases h3 : (l0.length : Int) > roomI x.p
   ·have hE : layE x = 3 := by simp [layE, h1, k1, hl0, h3]
    rw [hE, if_neg (by decide)]
    refine wp_call e_spread_Lay rfl ?_
    simp [k1, hl0] at C1
    have h3' : roomI x.p < l0.length := h3
    simp [F_spread_Lay, eIm, C1, k1, N1, hl0, R1, h3']
   ·have hE : layE x = 0 := by simp [layE, h1, k1, hl0]; omega
    rw [if_pos hE]
    refine wp_call e_spread_Lay rfl ?_
    simp [k1, hl0] at C1
    have h3' : ¬ roomI x.p < l0.length := h3
    have F1 := c_spread_fifo x l0 hl0 hp (by have := roomI_le x.p hp.1; omega) (sg ++ [eMem ⟨[], 0⟩]) sg.length (get_last _ _)
    have hL : layP x = fifoP x.p l0 := by simp [layP, k1, hl0]
    simp [eIm, k1, hl0] at F1
    simp [F_spread_Lay, eIm, C1, k1, N1, hl0, R1, h3', F1, hL]
  ·have hE : layE x = 0 := by simp [layE, h1, k1]
   rw [if_pos hE]
   refine wp_call e_spread_Lay rfl ?_
   simp [k1] at C1
   simp [F_spread_Lay, eIm, C1, k1, N1]
   have hL : layP x = numsP x.cs := by simp [layP, k1]
   have hcl : x.cs.length ≤ 16 := by have := f2.2; rw [k1] at this; simp [shapeOf] at this; omega
   have hg : ∀ a, (sg ++ [a])[sg.length]? = some a := get_last sg
   refine wc_listi x.cs (fun j (b : Unit) => ⟨[(5, R.v (D.p sg.length 0)), (61, R.v (D.l K.z 1 (x.cs.map (.i .i64)))), (62, R.v (D.i IntKind.i64 x.cs.length)), (63, R.v (D.i IntKind.i64 j))], [], sg ++ [eMem (memOf (numsP (x.cs.take j)))], sg.length⟩) (fun j r b => True) () ?hs trivial ?_ ?_
   case hs => simp [numsP]; rfl
   ·rintro j y rest _ hj hy _ ih
    have ih := ih () trivial
    have hj' : (j : Int) < x.cs.length := by omega
    have w1 : IntKind.i64.wrap ((j : Int) + 1) = (j : Int) + 1 := wrap64 (by omega)
    rw [numsP_snoc x.cs j hj, hy] at ih
    have F1 := c_force (numsP (x.cs.take j)) ⟨(j : Int), y, []⟩ (by simp [Pt.ok]; omega) (numsP_ok _ (by simp; omega)) (by rw [numsP_len]; simp; omega) (sg ++ [eMem (memOf (numsP (x.cs.take j)))]) sg.length (hg _)
    simp at F1
    simp [hj, hj', hy, w1, F1]
    simpa using ih
   ·rintro _ _
    simp [hL]
  ·have hE : layE x = 0 := by simp [layE, h1, k1]
   rw [if_pos hE]
   refine wp_call e_spread_Lay rfl ?_
   have hc0 : ∃ n0, x.cs = [n0] := by
    have := f2.2
    rw [k1] at this
    simp [shapeOf] at this
    match h : x.cs, this with
    | [n0], _ => exact ⟨n0, rfl⟩
   obtain ⟨n0, hc0⟩ := hc0
   have f50 := f5 n0 (by rw [hc0]; simp)
   simp [k1] at C1
   have T1 := c_spread_tokens x n0 hc0 (by rw [← k1]; exact f1) f50 (sg ++ [eMem ⟨[], 0⟩]) sg.length (get_last _ _)
   have hL : layP x = tokP x.p.toNat n0 := by simp [layP, k1, hc0]
   simp [eIm, k1, hc0] at T1 C1
   simp [F_spread_Lay, eIm, C1, k1, N1, hc0, T1, hL]
 ·have hE : layE x = checkI x := by simp [layE, h1]
  rw [hE, if_neg h1]
  refine wp_call e_spread_Lay rfl ?_
  simp [eIm] at C1
  have hb : (checkI x != 0) = true := by simp [h1]
  have hb' : (checkI x == 0) = false := by simp [h1]
  simp [F_spread_Lay, eIm, C1, h1, hb, hb']
end Go.AM

namespace Go.AM
end Go.AM

namespace Go.AM
def opA (k : Int) : Int := 2 * k - 1
def opN (k : Int) : Int := if k = 4 then 1 else 2
end Go.AM

namespace Go.AM
def aftV (v : Vl) (o : Int) (x : It) (ok : Bool) (ai : It) (param : Int) : Vl × Bool :=
 if ok = false then (v, decide (o ≤ 4)) else
 if o = 1 then (⟨v.k, sortI ((v.is ++ [x]).map It.canon), v.n⟩, true) else
 if o = 3 then (⟨v.k, v.is ++ [x.canon], v.n⟩, true) else
 if o = 2 then (match outI ai v.is v.is.length with | some l => (⟨v.k, l, v.n⟩, true) | none => (v, false)) else
 if o = 4 then (match outI ai v.is param with | some l => (⟨v.k, l, v.n⟩, true) | none => (v, false)) else
 if o = 5 then (⟨v.k, v.is, v.n + x.v⟩, true) else
 if o = 7 then (⟨v.k, v.is, v.n + 1⟩, true) else (v, true)
end Go.AM

namespace Go.AM
end Go.AM

namespace Go.AM
structure Rw where
 k : Int
 x : It
 a : Int
 b : Int
 deriving DecidableEq, Inhabited
def eRw (r : Rw) : D := .a [.i .i64 r.k, .i .u64 r.x.p, .i .i64 r.x.v, .i .i64 r.a, .i .i64 r.b]
def eOp (r : Rw) : D := .a [.i .i64 r.k, .f .f64 r.x.p, .i .i64 r.x.v, .i .i64 r.a, .i .i64 r.b]
instance : Flat eRw := ⟨fun _ => rfl, fun _ => rfl, fun _ _ => rfl⟩
instance : Flat eOp := ⟨fun _ => rfl, fun _ => rfl, fun _ _ => rfl⟩
def Rw.ok (r : Rw) : Prop := r.x.ok ∧ (-9223372036854775808 ≤ r.k ∧ r.k ≤ 9223372036854775807) ∧ (-9223372036854775808 ≤ r.a ∧ r.a ≤ 9223372036854775807) ∧ (-9223372036854775808 ≤ r.b ∧ r.b ≤ 9223372036854775807)
def into (d n : Int) : Int := if n < 1 then 0 else d % n
def ownO (kind : Int) (r : Rw) : Rw :=
 let k := opA kind + into r.k (opN kind)
 ⟨k, ⟨r.x.p, if k = 5 then r.x.v % 4294967296 else r.x.v⟩, r.a, r.b⟩
structure FrR where
 o : Rw
 pc : Int
 at_ : Int
 seen : Int
 seg : Int
 tot : Int
 em : Bool
 v0 : Nat
 v1 : Nat
 n0 : Int
 l0 : List It
 n1 : Int
 l1 : List It
 deriving DecidableEq, Inhabited
def eFrK (K0 K1 : K) (f : FrR) : D := .a [.i .i64 f.o.k, .i .u64 f.o.x.p, .i .i64 f.o.x.v, .i .i64 f.o.a, .i .i64 f.o.b, .i .i64 f.pc, .i .i64 f.at_, .i .i64 f.seen, .i .i64 f.seg, .i .i64 f.tot, .b f.em, .i .i64 f.v0, .i .i64 f.v1,
 .i .i64 f.n0, .l K0 2 (f.l0.map eR), .i .i64 f.n1, .l K1 2 (f.l1.map eR)]
def eFr : FrR → D := eFrK .z .z
def newF (o : Rw) : FrR := ⟨⟨o.k, o.x.canon, o.a, o.b⟩, 0, 0, 0, 0, 0, false, 0, 0, 0, [], 0, []⟩
structure An where
 ok : Bool
 x : It
 n : Int
 deriving DecidableEq, Inhabited
def eAn (a : An) : D := .a [.b a.ok, .f .f64 a.x.p, .i .i64 a.x.v, .i .i64 a.n]
def eAr (a : An) : D := .a [.b a.ok, .i .u64 a.x.p, .i .i64 a.x.v, .i .i64 a.n]
instance : Flat eAn := ⟨fun _ => rfl, fun _ => rfl, fun _ _ => rfl⟩
instance : Flat eAr := ⟨fun _ => rfl, fun _ => rfl, fun _ _ => rfl⟩
end Go.AM

namespace Go.AM
end Go.AM

namespace Go.AM
theorem c_VSame_1 (x y : It) (hx : x.ok) (hy : y.ok) (sg) : LL.call n_value_Value_Same_1 [eI x, eI y] sg sg.length = some (.b (decide (x.canon = y.canon)), sg, sg.length) := by
 refine wp_call e_value_Value_Same_1 rfl ?_
 have h1 := c_pile_Item_Cmp x y hx hy sg
 simp at h1
 simp [F_value_Value_Same_1, h1]
 have hz := cmpI_zero hx hy
 by_cases h : cmpI x y = 0
 ·simp [h, hz.1 h]
 ·have h2 : ¬ x.canon = y.canon := fun h' => h (hz.2 h')
  simp [h, h2]
theorem c_VEqual (a b : List It) (hoa : ∀ y ∈ a, y.ok) (hob : ∀ y ∈ b, y.ok) (ha : a.length ≤ 1099511627776) (sg) :
    LL.call n_slices_EqualFunc_pile_Item_pile_Item_pile_Item_pile_Item_1 [.l .z 2 (a.map eI), .l .z 2 (b.map eI), .fn n_value_Value_Same_1 []] sg sg.length = some (.b (decide (a.map It.canon = b.map It.canon)), sg, sg.length) := by
 refine wp_call e_slices_EqualFunc_pile_Item_pile_Item_pile_Item_pile_Item_1 rfl ?_
 by_cases hl : a.length = b.length
 ·have b0 : ((a.length : Int) != b.length) = false := by simp; omega
  have hiff := map_eq_iff It.canon It.canon a b hl
  simp [F_slices_EqualFunc_pile_Item_pile_Item_pile_Item_pile_Item_1, b0]
  refine wc_up a.length (fun i => ⟨[(1, .v (.l .z 2 (b.map eI))), (2, .v (.fn n_value_Value_Same_1 [])), (15, .v (.l .z 2 (a.map eI))), (16, .v (.i .i64 a.length)), (17, .v (.i .i64 i))], [], sg, sg.length⟩) (fun i => ∀ j, j < i → ∀ (h : j < a.length), a[j].canon = (b[j]'(hl ▸ h)).canon) ?_ ?_ 0 (by omega) (by omega)
  ·intro i hi hp ih
   have hib : i < b.length := by omega
   have hi' : (i : Int) < b.length := by omega
   have hi2 : (i : Int) < a.length := by omega
   have w1 : IntKind.i64.wrap ((i : Int) + 1) = i + 1 := wrap64 (by omega)
   have h1 := c_VSame_1 a[i] b[i] (hoa _ (List.getElem_mem _)) (hob _ (List.getElem_mem _)) sg
   simp at h1
   by_cases he : a[i].canon = b[i].canon
   ·simp only [he, decide_true] at h1
    simp [hi', hib, hi, hi2, h1]
    have := ih (fun j hj h => by
     by_cases e : j = i
     ·subst e; exact he
     ·exact hp j (by omega) h)
    simpa [w1] using this
   ·simp only [he, decide_false] at h1
    have : ¬ a.map It.canon = b.map It.canon := fun h => he (hiff.1 h i hi)
    simp [hi', hib, hi, hi2, h1]
    simp [this]
  ·intro hp
   have : a.map It.canon = b.map It.canon := hiff.2 (fun i h => hp i h h)
   simp
   simp [this]
 ·have b0 : ((a.length : Int) != b.length) = true := by simp; omega
  have : ¬ a.map It.canon = b.map It.canon := fun h => hl (by have := congrArg List.length h; simpa using this)
  simp [F_slices_EqualFunc_pile_Item_pile_Item_pile_Item_pile_Item_1, b0]
  simp [this]
end Go.AM

namespace Go.AM
def checkO (k o v : Int) : Int := if k < 1 ∨ 4 < k then 6 else if o < 2 * k - 1 ∨ (if k = 4 then 7 else 2 * k) < o then 6 else if o = 5 ∧ (v < 0 ∨ 4294967296 < v) then 4 else 0
def sameV (v w : Vl) : Prop := v.k = w.k ∧ v.n = w.n ∧ v.is.map It.canon = w.is.map It.canon
instance (v w : Vl) : Decidable (sameV v w) := by unfold sameV; infer_instance
theorem c_value_SameG (v w : Vl) (hv : ∀ y ∈ v.is, y.ok) (hw : ∀ y ∈ w.is, y.ok) (hl : v.is.length ≤ 1099511627776) (sg) : LL.call n_value_Value_Same [eVl .z v, eVl .z w] sg sg.length = some (.b (decide (sameV v w)), sg, sg.length) := by
 refine wp_call e_value_Value_Same rfl ?_
 have h1 := c_VEqual v.is w.is hv hw hl sg
 unfold sameV
 by_cases e1 : v.k = w.k
 ·by_cases e2 : v.n = w.n
  ·simp [F_value_Value_Same, eVl, h1, e1, e2]
  ·have b0 : (v.n == w.n) = false := by simp [e2]
   simp [F_value_Value_Same, eVl, h1, e1, e2, b0]
 ·have b0 : (v.k == w.k) = false := by simp [e1]
  simp [F_value_Value_Same, eVl, h1, e1, b0]
end Go.AM

namespace Go.AM
theorem good_nil : (⟨[], 0⟩ : Mem).good := ⟨by simp, by simp, by simp, by simp, by simp, by simp⟩
theorem good_put {M : Mem} (h : M.good) {i : Nat} (hi : i < 1000) {n : Int} (hn : -1125899906842624 ≤ n ∧ n ≤ 1125899906842624) {l : List It} (hl : l.length ≤ 62 ∧ ∀ x ∈ l, x.ok) (hc : M.ck + 1 < 1000000000) : (putM M i n l).good := by
 have hp : ∀ c ∈ padM M.cs i, c ∈ M.cs ∨ c = zC := by
  intro c hc
  unfold padM at hc
  rcases List.mem_append.1 hc with h | h
  ·exact .inl h
  ·exact .inr (List.eq_of_mem_replicate h)
 have hall : ∀ c ∈ (putM M i n l).cs, c = ⟨M.ck + 1, n, l⟩ ∨ c ∈ M.cs ∨ c = zC := by
  intro c hc
  rcases List.mem_or_eq_of_mem_set hc with hc | rfl
  ·exact .inr (hp c hc)
  ·exact .inl rfl
 refine ⟨?_, hc, ?_, ?_, ?_, ?_⟩
 ·have := h.len
  simp only [putM, List.length_set, padM_len]; omega
 ·intro c hc
  rcases hall c hc with rfl | h' | rfl
  ·exact hl
  ·exact h.it c h'
  ·simp [zC]
 ·intro c hc
  rcases hall c hc with rfl | h' | rfl
  ·exact hn
  ·exact h.num c h'
  ·simp [zC]
 ·intro c hc
  rcases hall c hc with rfl | h' | rfl
  ·exact ⟨Nat.le_refl _, fun _ => by simp⟩
  ·have := h.ver c h'
   exact ⟨by simp only [putM]; omega, this.2⟩
  ·simp [zC]
 ·intro a b c d ha hb hv h0
  simp only [putM, List.getElem?_set] at ha hb
  have low : ∀ (j : Nat) (e : Cl), (padM M.cs i)[j]? = some e → e.v ≤ M.ck ∧ (e.v ≠ 0 → M.cs[j]? = some e) := by
   intro j e he
   unfold padM at he
   rw [List.getElem?_append] at he
   split at he
   ·exact ⟨(h.ver e (List.mem_of_getElem? he)).1, fun _ => he⟩
   ·rw [List.getElem?_replicate] at he
    split at he
    ·injection he with he; subst he; exact ⟨by simp [zC], fun hh => absurd rfl hh⟩
    ·cases he
  by_cases ea : i = a
  ·by_cases eb : i = b
   ·omega
   ·rw [if_neg eb] at hb
    rw [if_pos ea] at ha
    split at ha
    ·injection ha with ha
     subst ha
     have := (low b d hb).1
     simp only at hv; omega
    ·cases ha
  ·rw [if_neg ea] at ha
   have l1 := low a c ha
   by_cases eb : i = b
   ·rw [if_pos eb] at hb
    split at hb
    ·injection hb with hb
     subst hb
     simp only at hv; omega
    ·cases hb
   ·rw [if_neg eb] at hb
    have l2 := low b d hb
    exact h.dis a b c d (l1.2 h0) (l2.2 (by omega)) hv h0
def Pt.fit (q : Pt) : Prop := q.ok ∧ (-1125899906842624 ≤ q.n ∧ q.n ≤ 1125899906842624) ∧ q.l.length ≤ 62 ∧ ∀ x ∈ q.l, x.ok
theorem good_memOf (ps : List Pt) (h : ∀ q ∈ ps, q.fit) (hn : ps.length < 100000000) : (memOf ps).good := by
 have : ∀ (ps : List Pt) (M : Mem), M.good → (∀ q ∈ ps, q.fit) → M.ck + ps.length < 1000000000 → (ps.foldl (fun m p => putM m p.at_.toNat p.n p.l) M).good := by
  intro ps
  induction ps with
  | nil => intro M h _ _; exact h
  | cons q ps ih =>
   intro M hM hq hl
   have q1 := hq q (by simp)
   simp only [List.length_cons] at hl
   exact ih _ (good_put hM (by have := q1.1.1; have := q1.1.2.1; omega) q1.2.1 q1.2.2 (by omega)) (fun r hr => hq r (by simp [hr])) (by simp only [putM]; omega)
 exact this ps ⟨[], 0⟩ good_nil h (by simp only; omega)
def mkP {α : Type} (g : α → Int) (h : α → List It) (b : Int) (l : List α) : List Pt := l.mapIdx fun i x => ⟨(i : Int) + b, g x, h x⟩
theorem mkP_cons {α : Type} (g : α → Int) (h : α → List It) (b : Int) (x : α) (l : List α) : mkP g h b (x :: l) = ⟨b, g x, h x⟩ :: mkP g h (b + 1) l := by
 unfold mkP
 rw [List.mapIdx_cons]
 congr 1
 ·simp
 ·congr 1
  funext i y
  simp only [Pt.mk.injEq, and_true]
  omega
theorem rdP_miss {α : Type} (g : α → Int) (h : α → List It) : ∀ (l : List α) (b : Int) (k : Nat) (i : Int) (c : Cl), (i < b ∨ b + l.length ≤ i) → rdP (mkP g h b l) k i c = c
 | [], b, k, i, c, _ => by simp [mkP, rdP]
 | x :: l, b, k, i, c, hi => by
  simp only [List.length_cons] at hi
  rw [mkP_cons, rdP, rdP_miss g h l (b + 1) (k + 1) i _ (by omega)]
  simp only
  rw [if_neg (by omega)]
theorem rdP_hit {α : Type} (g : α → Int) (h : α → List It) : ∀ (l : List α) (b : Int) (k : Nat) (c : Cl) (j : Nat) (hj : j < l.length), rdP (mkP g h b l) k ((j : Int) + b) c = ⟨k + j + 1, g l[j], h l[j]⟩
 | x :: l, b, k, c, 0, hj => by
  rw [mkP_cons, rdP, rdP_miss g h l (b + 1) (k + 1) _ _ (by omega)]
  simp
 | x :: l, b, k, c, j + 1, hj => by
  have ih := rdP_hit g h l (b + 1) (k + 1) c j (by simpa using hj)
  rw [mkP_cons, rdP]
  simp only
  rw [if_neg (by omega), show ((j + 1 : Nat) : Int) + b = (j : Int) + (b + 1) by omega, ih]
  simp only [List.getElem_cons_succ, Cl.mk.injEq, and_true]
  omega
theorem rdP_app : ∀ (a b : List Pt) (k : Nat) (i : Int) (c : Cl), rdP (a ++ b) k i c = rdP b (k + a.length) i (rdP a k i c)
 | [], b, k, i, c => rfl
 | x :: a, b, k, i, c => by
  rw [List.cons_append, rdP, rdP_app a b, rdP, List.length_cons]
  congr 1; omega
theorem numsP_mk (l : List Int) : numsP l = mkP id (fun _ => []) 0 l := by
 simp [numsP, mkP]
theorem slotsP_mk (l : List It) : slotsP l = mkP (fun _ => 1) (fun x => [x]) 2 l := rfl
theorem mulP_mk (ls : List (List It)) : (ls.mapIdx fun i l => (⟨i, 0, l⟩ : Pt)) = mkP (fun _ => 0) id 0 ls := by
 simp [mkP]
theorem bag_mul (ls : List (List It)) (hok : ∀ q ∈ mkP (fun _ => 0) id 0 ls, q.ok) : ∀ p, p ≤ ls.length → bagM (memOf (mkP (fun _ => 0) id 0 ls)) p = (ls.take p).flatten
 | 0, _ => by simp [bagM]
 | p + 1, hp => by
  rw [bagM, bag_mul ls hok p (by omega), memOf_rd _ _ hok]
  have := rdP_hit (fun _ => 0) id ls 0 0 zC p (by omega)
  simp only [Int.add_zero] at this
  rw [this, List.take_succ_eq_append_getElem (by omega), List.flatten_append, List.flatten_singleton]
  rfl
theorem sum_nums (ns : List Int) (hok : ∀ q ∈ numsP ns, q.ok) (f : Nat) : ∀ p, f + p ≤ ns.length → sumM (memOf (numsP ns)) f p = ((ns.drop f).take p).sum
 | 0, _ => by simp [sumM]
 | p + 1, hp => by
  have hd : p < (ns.drop f).length := by rw [List.length_drop]; omega
  rw [sumM, sum_nums ns hok f p (by omega), memOf_rd _ _ hok, numsP_mk]
  have := rdP_hit id (fun _ : Int => ([] : List It)) ns 0 0 zC (f + p) (by omega)
  simp only [Int.add_zero] at this
  rw [this, List.take_succ_eq_append_getElem hd]
  simp
theorem fold_le (N : Int) : ∀ (ps : List Pt) (n : Int), (∀ p ∈ ps, p.at_ + 1 ≤ N) → n ≤ N → ps.foldl (fun n p => max n (p.at_ + 1)) n ≤ N
 | [], n, h, hn => hn
 | p :: ps, n, h, hn => by
  have h1 := h p (by simp)
  exact fold_le N ps _ (fun q hq => h q (by simp [hq])) (by simp only; omega)
theorem sorted_merge : ∀ (l : List Cl), l.Pairwise (fun a b => decide (a.v ≤ b.v) = true) → l.mergeSort (fun a b => decide (a.v ≤ b.v)) = l := fun l h => List.mergeSort_of_pairwise h
theorem line_fifo (p : Int) (l : List It) (hok : ∀ q ∈ fifoP p l, q.ok) : lineM (memOf (fifoP p l)) = l := by
 by_cases h0 : l = []
 ·subst h0
  have e : memOf (fifoP p ([] : List It)) = ⟨[], 0⟩ := by simp [fifoP, slotsP, memOf]
  rw [e]
  simp [lineM, fullM]
 ·have hl0 : l.length ≠ 0 := fun h => h0 (List.length_eq_zero_iff.1 h)
  have hrd : ∀ j (hj : j < l.length), rdM (memOf (fifoP p l)) ((j + 2 : Nat) : Int) = ⟨j + 1, 1, [l[j]]⟩ := by
   intro j hj
   rw [memOf_rd _ _ hok, fifoP, if_neg hl0, rdP_app, slotsP_mk]
   have := rdP_hit (fun _ : It => 1) (fun x => [x]) l 2 0 zC j hj
   rw [show ((j + 2 : Nat) : Int) = (j : Int) + 2 by omega, this]
   simp only [rdP]
   rw [if_neg (by omega)]
   simp
  have hcl : (memOf (fifoP p l)).cs.length ≤ l.length + 2 := by
   have h1 := memOf_len _ hok
   have h2 : lenP (fifoP p l) ≤ l.length + 2 := fold_le _ _ _ (fun q hq => by
    rw [fifoP, if_neg hl0] at hq
    rcases List.mem_append.1 hq with hq | hq
    ·simp only [slotsP, List.mem_mapIdx] at hq
     obtain ⟨i, hi, rfl⟩ := hq
     simp only; omega
    ·simp at hq; subst hq; simp only; omega) (by omega)
   omega
  generalize memOf (fifoP p l) = M at *
  have hget : ∀ j (hj : j < l.length), (M.cs.drop 2)[j]? = some ⟨j + 1, 1, [l[j]]⟩ := by
   intro j hj
   have := hrd j hj
   unfold rdM at this
   rw [if_pos (by omega), show ((j + 2 : Nat) : Int).toNat = j + 2 by omega] at this
   rw [List.getElem?_drop, show 2 + j = j + 2 by omega]
   cases h : M.cs[j + 2]? with
   | none => rw [h] at this; simp [zC] at this
   | some c => rw [h] at this; simp at this; rw [this]
  have hdl : (M.cs.drop 2) = l.mapIdx fun i x => (⟨i + 1, 1, [x]⟩ : Cl) := by
   apply List.ext_getElem?
   intro j
   by_cases hj : j < l.length
   ·rw [hget j hj, List.getElem?_mapIdx, List.getElem?_eq_getElem hj]; rfl
   ·rw [List.getElem?_eq_none (by rw [List.length_drop]; omega), List.getElem?_eq_none (by simp; omega)]
  have hful : fullM M = l.mapIdx fun i x => (⟨i + 1, 1, [x]⟩ : Cl) := by
   unfold fullM
   rw [hdl, List.filter_eq_self.2]
   intro c hc
   simp only [List.mem_mapIdx] at hc
   obtain ⟨i, hi, rfl⟩ := hc
   rfl
  unfold lineM
  rw [hful, sorted_merge]
  ·have : ∀ (l : List It) (f : Nat → Nat), (l.mapIdx fun i x => (⟨f i, 1, [x]⟩ : Cl)).flatMap (·.l) = l := by
    intro l
    induction l with
    | nil => intro f; rfl
    | cons x l ih => intro f; rw [List.mapIdx_cons, List.flatMap_cons, ih (fun i => f (i + 1))]; rfl
   exact this l (fun i => i + 1)
  ·rw [List.pairwise_iff_getElem]
   intro i j hi hj hij
   simp
   omega
end Go.AM

namespace Go.AM
theorem isum_perm {a b : List Int} (h : a.Perm b) : a.sum = b.sum := by
 induction h with
 | nil => rfl
 | cons x _ ih => simp only [List.sum_cons, ih]
 | swap x y l => simp only [List.sum_cons]; omega
 | trans _ _ h1 h2 => exact h1.trans h2
theorem passN_facts : ∀ (gs : List (Nat × Nat)) (now : List Int), (∀ g ∈ gs, g.1 < now.length ∧ g.2 < now.length ∧ g.1 ≠ g.2) → (∀ n ∈ now, 0 ≤ n) →
    (passN gs now).2.length = now.length ∧ (∀ n ∈ (passN gs now).2, 0 ≤ n) ∧ (passN gs now).2.sum = now.sum ∧ ∀ n ∈ (passN gs now).1, 0 ≤ n ∧ n ≤ now.sum
 | [], now, _, h0 => ⟨rfl, h0, rfl, by simp [passN]⟩
 | g :: gs, now, hg, h0 => by
  have g0 := hg g (by simp)
  have F := gateN_facts now g.1 g.2 g0.1 g0.2.1 g0.2.2 h0
  have ih := passN_facts gs (gateN now g.1 g.2) (fun q hq => by have := hg q (by simp [hq]); rw [F.1]; exact this) F.2.1
  have e2 : (passN (g :: gs) now).2 = (passN gs (gateN now g.1 g.2)).2 := rfl
  have e1 : (passN (g :: gs) now).1 = (((now[g.1]?).getD 0 + (now[g.2]?).getD 0) :: (passN gs (gateN now g.1 g.2)).1) := rfl
  rw [e1, e2]
  refine ⟨by rw [ih.1, F.1], ih.2.1, by rw [ih.2.2.1, F.2.2], ?_⟩
  intro n hn
  rcases List.mem_cons.1 hn with rfl | hn
  ·have h1 := h0 now[g.1] (List.getElem_mem g0.1)
   have h2 := h0 now[g.2] (List.getElem_mem g0.2.1)
   have h3 := isum_get2 now g.1 g.2 g0.1 g0.2.1 g0.2.2 h0
   rw [List.getElem?_eq_getElem g0.1, List.getElem?_eq_getElem g0.2.1]
   simp only [Option.getD_some]
   omega
  ·have := ih.2.2.2 n hn
   rw [F.2.2] at this
   exact this
theorem widthN_more (p : Nat) (h : widthN p) : (∀ g ∈ gatesN p, g.1 ≠ g.2) ∧ (outsN p).isPerm (List.range p) = true := by
 rcases h with rfl | rfl | rfl | rfl | rfl <;> decide
theorem outs_sum (p : Nat) (h : widthN p) (now : List Int) (hl : now.length = p) : ((outsN p).map fun w => (now[w]?).getD 0).sum = now.sum := by
 have hp : (outsN p).Perm (List.range p) := List.isPerm_iff.1 (widthN_more p h).2
 rw [isum_perm (hp.map _)]
 congr 1
 apply List.ext_getElem
 ·simp [hl]
 ·intro i h1 h2
  simp [h2]
theorem ordersE_memK (k : Int) : ∀ (ls : List (List It)), ordersE k ls = 0 → ∀ l ∈ ls, orderE k l = 0
 | l :: r, h, m, hm => by
  unfold ordersE at h
  split at h
  ·contradiction
  ·rename_i h1
   rcases List.mem_cons.1 hm with rfl | hm
   ·exact Classical.byContradiction h1
   ·exact ordersE_memK k r h m hm
theorem lay_kept (w : Im) (ho : w.ok) (hc : checkI w = 0) (h2 : w.k = 2 → (w.ls.headD []).length ≤ 960) :
    layE w = 0 ∧ (memOf (layP w)).good ∧ ofM w.k w.p.toNat (memOf (layP w)) = valI w := by
 obtain ⟨f1, f2, f3, f4, f5, f6⟩ := check_facts hc
 have hp := legal_p f1
 have hk := legal_k f1
 have hk4 : w.k = 1 ∨ w.k = 2 ∨ w.k = 3 ∨ w.k = 4 := by omega
 rcases hk4 with k1 | k1 | k1 | k1
 ·have hL : layP w = mkP (fun _ => 0) id 0 w.ls := by simp [layP, k1, ← mulP_mk]
  have hll : (w.ls.length : Int) = w.p := by have := f2.1; rw [k1] at this; simpa [shapeOf] using this
  have hcs : w.cs = [] := by have := f2.2; rw [k1] at this; simp [shapeOf] at this; exact this
  have fit : ∀ q ∈ mkP (fun _ => 0) id 0 w.ls, q.fit := by
   intro q hq
   simp only [mkP, List.mem_mapIdx] at hq
   obtain ⟨i, hi, rfl⟩ := hq
   have hm : w.ls[i] ∈ w.ls := List.getElem_mem hi
   have := ordersE_memK _ _ f3 _ hm
   have h62 : w.ls[i].length ≤ 62 := by
    unfold orderE at this
    rw [if_pos k1] at this
    split at this
    ·cases this
    ·omega
   refine ⟨⟨by simp only; omega, by simp only; omega, by simp only [id_eq]; omega⟩, by simp, h62, fun x hx => ho.1 _ hm x hx⟩
  refine ⟨by simp [layE, hc, k1], ?_, ?_⟩
  ·rw [hL]
   exact good_memOf _ fit (by simp [mkP]; omega)
  ·rw [hL, ofM, if_pos k1, bag_mul _ (fun q hq => (fit q hq).1) _ (by omega), List.take_of_length_le (by omega)]
   simp [valI, k1, hcs]
 ·obtain ⟨l0, hl0⟩ : ∃ l0, w.ls = [l0] := by
   have := f2.1
   rw [k1] at this
   simp [shapeOf] at this
   match h : w.ls, this with
   | [l0], _ => exact ⟨l0, rfl⟩
  have h2 := h2 k1
  rw [hl0] at h2
  simp only [List.headD_cons] at h2
  have hcs : w.cs = [] := by have := f2.2; rw [k1] at this; simp [shapeOf] at this; exact this
  have hL : layP w = fifoP w.p l0 := by simp [layP, k1, hl0]
  have hr : (960 : Int) ≤ roomI w.p := by
   unfold roomI
   have hm : max w.p 1 = w.p := by omega
   rw [hm]
   have := Int.mul_ediv_add_emod 998 w.p
   have := Int.emod_lt_of_pos 998 (show 0 < w.p by omega)
   rw [Int.mul_comm]
   omega
  have fit : ∀ q ∈ fifoP w.p l0, q.fit := by
   intro q hq
   rcases List.mem_append.1 hq with hq | hq
   ·simp only [slotsP, List.mem_mapIdx] at hq
    obtain ⟨i, hi, rfl⟩ := hq
    exact ⟨⟨by simp only; omega, by simp only; omega, by simp⟩, by simp, by simp, fun x hx => by
     simp at hx; subst hx; exact ho.1 l0 (by rw [hl0]; simp) _ (List.getElem_mem hi)⟩
   ·split at hq
    ·cases hq
    ·simp at hq
     subst hq
     have d1 : ((l0.length : Int) - 1) / w.p ≤ (l0.length : Int) - 1 := Int.ediv_le_self _ (by omega)
     have d2 : 0 ≤ ((l0.length : Int) - 1) / w.p := Int.ediv_nonneg (by omega) (by omega)
     exact ⟨⟨by simp, by simp, by simp⟩, ⟨by simp only; omega, by simp only; omega⟩, by simp, by simp⟩
  refine ⟨?_, ?_, ?_⟩
  ·have : ¬ (l0.length : Int) > roomI w.p := by omega
   simp [layE, hc, k1, hl0, this]
  ·rw [hL]
   exact good_memOf _ fit (by unfold fifoP; rw [List.length_append, slotsP_len]; split <;> simp <;> omega)
  ·rw [hL, ofM, if_neg (by omega), if_pos k1, line_fifo _ _ (fun q hq => (fit q hq).1)]
   simp [valI, k1, hcs, hl0]
 ·have hL : layP w = numsP w.cs := by simp [layP, k1]
  have hll : (w.cs.length : Int) = w.p := by have := f2.2; rw [k1] at this; simpa [shapeOf] using this
  have hls : w.ls = [] := by have := f2.1; rw [k1] at this; simp [shapeOf] at this; exact this
  have fit : ∀ q ∈ numsP w.cs, q.fit := by
   intro q hq
   simp only [numsP, List.mem_mapIdx] at hq
   obtain ⟨i, hi, rfl⟩ := hq
   have := f5 _ (List.getElem_mem hi)
   exact ⟨⟨by simp only; omega, by simp only; omega, by simp⟩, ⟨by simp only; omega, by simp only; omega⟩, by simp, by simp⟩
  refine ⟨by simp [layE, hc, k1], ?_, ?_⟩
  ·rw [hL]
   exact good_memOf _ fit (by rw [numsP_len]; omega)
  ·rw [hL, ofM, if_neg (by omega), if_neg (by omega), if_pos k1, sum_nums _ (fun q hq => (fit q hq).1) 0 _ (by omega), List.drop_zero, List.take_of_length_le (by omega)]
   simp [valI, k1, hls]
 ·obtain ⟨n0, hn0⟩ : ∃ n0, w.cs = [n0] := by
   have := f2.2
   rw [k1] at this
   simp [shapeOf] at this
   match h : w.cs, this with
   | [n0], _ => exact ⟨n0, rfl⟩
  have hls : w.ls = [] := by have := f2.1; rw [k1] at this; simp [shapeOf] at this; exact this
  have hn := f5 n0 (by rw [hn0]; simp)
  rw [k1] at f1
  obtain ⟨hw, hpp⟩ := widthN_of f1
  obtain ⟨p, hpe⟩ : ∃ p, p = w.p.toNat := ⟨_, rfl⟩
  have hL : layP w = tokP p n0 := by simp [layP, k1, hn0, hpe]
  rw [← hpe] at hw hpp
  obtain ⟨g1, g2, g3, g4⟩ := widthN_facts p hw
  obtain ⟨g5, _⟩ := widthN_more p hw
  have hel : (evenD n0.toNat p).length = p := by simp [evenD]
  have hes : (evenD n0.toNat p).sum = n0 := by rw [evenD_sum (by omega)]; omega
  have F := passN_facts (gatesN p) (evenD n0.toNat p) (fun g hg => by rw [hel]; exact ⟨(g1 g hg).1, (g1 g hg).2, g5 g hg⟩) (fun y hy => (evenD_mem hy).1)
  have hgl := pass_len (gatesN p) (evenD n0.toNat p)
  rw [tokP] at hL
  generalize passN (gatesN p) (evenD n0.toNat p) = ps at *
  rw [hes, hel] at F
  have hos := outs_sum p hw ps.2 F.1
  obtain ⟨ws, hws⟩ : ∃ ws, ws = (outsN p).map fun w => ((ps.2[w]?).getD 0) := ⟨_, rfl⟩
  have hwl : ws.length = p := by rw [hws]; simp [g3]
  have hwm : ∀ n ∈ ws, 0 ≤ n ∧ n ≤ n0 := by
   intro n hn
   rw [hws] at hn
   simp only [List.mem_map] at hn
   obtain ⟨v, hv, rfl⟩ := hn
   have hv2 : v < ps.2.length := by rw [F.1]; exact g2 v hv
   rw [List.getElem?_eq_getElem hv2, Option.getD_some]
   have a := F.2.1 _ (List.getElem_mem hv2)
   have b := isum_get ps.2 v hv2 F.2.1
   rw [F.2.2.1] at b
   exact ⟨a, b⟩
  rw [← hws] at hos hL
  have hnm : ∀ n ∈ ps.1 ++ ws, 0 ≤ n ∧ n ≤ n0 := by
   intro n hn
   rcases List.mem_append.1 hn with h | h
   ·exact F.2.2.2 n h
   ·exact hwm n h
  have hlen : (ps.1 ++ ws).length ≤ 96 := by rw [List.length_append]; omega
  have fit : ∀ q ∈ numsP (ps.1 ++ ws), q.fit := by
   intro q hq
   simp only [numsP, List.mem_mapIdx] at hq
   obtain ⟨i, hi, rfl⟩ := hq
   have := hnm _ (List.getElem_mem hi)
   exact ⟨⟨by simp only; omega, by simp only; omega, by simp⟩, ⟨by simp only; omega, by simp only; omega⟩, by simp, by simp⟩
  refine ⟨by simp [layE, hc, k1], ?_, ?_⟩
  ·rw [hL]
   exact good_memOf _ fit (by rw [numsP_len]; omega)
  ·rw [hL, ofM, if_neg (by omega), if_neg (by omega), if_neg (by omega), ← hpe, sum_nums _ (fun q hq => (fit q hq).1) _ _ (by rw [List.length_append]; omega), ← hgl, List.drop_left, List.take_of_length_le (by omega), hos, F.2.2.1]
   simp [valI, k1, hls, hn0]
end Go.AM

namespace Go.AM
theorem set_flatK (x : It) : ∀ (L : List (List It)) (i : Nat) (h : i < L.length), (L.set i (L[i] ++ [x])).flatten.Perm (L.flatten ++ [x])
 | a :: L, 0, h => by
  simp only [List.set_cons_zero, List.flatten_cons, List.getElem_cons_zero, List.append_assoc]
  exact List.Perm.append_left a List.perm_append_comm
 | a :: L, i + 1, h => by
  have := set_flatK x L i (by simpa using h)
  simp only [List.set_cons_succ, List.flatten_cons, List.getElem_cons_succ, List.append_assoc]
  exact List.Perm.append_left a this
theorem dealO_permK (l : List It) {n : Nat} (hn : 0 < n) : ∀ m, m ≤ l.length → (dealO l n m).flatten.Perm (l.take m)
 | 0, _ => by
  have e : dealO l n 0 = List.replicate n [] := dealO_zero l n
  rw [e]
  simp
 | m + 1, h => by
  have ih := dealO_permK l hn m (by omega)
  rw [dealO_succ l n m hn, List.take_succ_eq_append_getElem (by omega), getElem!_pos l m (by omega)]
  exact (set_flatK _ _ _ _).trans (ih.append_right _)
theorem sort_fixK (l : List It) (hc : ∀ y ∈ l, y.ok ∧ y.canon = y) (ho : orderE 1 l = 0) : sortI (l.map It.canon) = l := by
 have hm : l.map It.canon = l := (List.map_congr_left (fun y hy => (hc y hy).2)).trans (List.map_id _)
 rw [hm]
 have h1 : ordered l = true := by
  unfold orderE at ho
  rw [if_pos rfl] at ho
  split at ho
  ·cases ho
  ·split at ho
   ·assumption
   ·cases ho
 exact (ordered_unique hc ((ordered_pw l).1 h1) ((ordered_pw _).1 (sortI_ordered l)) (sortI_perm l).symm).symm
theorem spr_kept (y : Im) (p : Int) (ho : y.ok) (hs : y.small) (yc : checkI y = 0) (yn : ∀ l ∈ y.ls, ∀ z ∈ l, z.canon = z) (hE : toE y p = 0) (h60 : y.ls.flatten.length ≤ 960) :
    (sprI y p).k = y.k ∧ (sprI y p).p = p ∧ valI (sprI y p) = valI y ∧ ((sprI y p).k = 1 → ∀ l ∈ (sprI y p).ls, sortI (l.map It.canon) = l) ∧ ((sprI y p).k = 2 → ((sprI y p).ls.headD []).length ≤ 960) := by
 obtain ⟨w1, w2, w3⟩ := spr_facts ho hs hE
 have hmem : ∀ l ∈ y.ls, ∀ z ∈ l, z.ok ∧ z.canon = z := fun l hl z hz => ⟨ho.1 l hl z hz, yn l hl z hz⟩
 obtain ⟨f1, f2, f3, f4, f5, f6⟩ := check_facts yc
 have hkk : (sprI y p).k = y.k := by unfold sprI; split <;> (try split) <;> (try split) <;> rfl
 have hpp : (sprI y p).p = p := by
  unfold sprI
  split
  ·rename_i h; exact h.symm
  ·split
   ·rfl
   ·split <;> rfl
 obtain ⟨is, his⟩ : ∃ is, is = (valI y).is := ⟨_, rfl⟩
 have hcan : y.k = 1 → ∀ z ∈ is, z.ok ∧ z.canon = z := by
  intro k1 z hz
  rw [his] at hz
  simp only [valI, k1, if_true] at hz
  have := (sortI_perm _).mem_iff.1 hz
  obtain ⟨x, hx, rfl⟩ := List.mem_map.1 this
  obtain ⟨l, hl, hxl⟩ := List.mem_flatten.1 hx
  have := hmem l hl x hxl
  exact ⟨canon_okI this.1, by simp [It.canon, canon_canon]⟩
 have hcl : (sprI y p).k = 1 → ∀ l ∈ (sprI y p).ls, ∀ z ∈ l, z.ok ∧ z.canon = z := by
  intro k1 l hl z hz
  rw [hkk] at k1
  unfold sprI at hl
  split at hl
  ·exact hmem l hl z hz
  ·simp only [dealD, ← his] at hl
   split at hl
   ·obtain ⟨i, hi, rfl⟩ := dealO_mem (Nat.le_refl _) hl
    exact hcan k1 z (col_mem (Nat.le_refl _) hi hz)
   ·cases hl
 have hlp : legal y.k p = 0 := by
  have := (check_facts w3).1
  rwa [hkk, hpp] at this
 have hp := legal_p hlp
 refine ⟨hkk, hpp, ?_, ?_, ?_⟩
 ·unfold sprI
  split
  ·rfl
  ·split
   ·rename_i h1 k1
    have hd : (dealD is p).flatten.Perm is := by
     unfold dealD
     rw [if_pos (by omega)]
     have := dealO_permK is (n := p.toNat) (by omega) is.length (Nat.le_refl _)
     rwa [List.take_length] at this
    have hmm : ((dealD is p).flatten.map It.canon).Perm is := by
     have e : is.map It.canon = is := (List.map_congr_left (fun z hz => (hcan k1 z hz).2)).trans (List.map_id _)
     have := hd.map It.canon
     rwa [e] at this
    have hsrt : sortI ((dealD is p).flatten.map It.canon) = is := by
     have hall : (sortI ((dealD is p).flatten.map It.canon)).Perm is := (sortI_perm _).trans hmm
     exact ordered_unique (fun z hz => hcan k1 z (hall.mem_iff.1 hz)) ((ordered_pw _).1 (sortI_ordered _)) (by rw [his]; exact valI_ordered k1) hall
    rw [← his]
    have e : valI ⟨y.k, p, y.c, dealD is p, y.cs⟩ = ⟨y.k, sortI ((dealD is p).flatten.map It.canon), y.cs.sum⟩ := by simp [valI, k1]
    rw [e, hsrt, his]
    simp [valI]
   ·split
    ·rename_i h1 h2 k3
     have hs0 : 0 ≤ y.cs.sum := isum_nn _ (fun n hn => (f5 n hn).1)
     have e : (evenD y.cs.sum.toNat p.toNat).sum = y.cs.sum := by rw [evenD_sum (by omega)]; omega
     simp [valI, e]
    ·rfl
 ·intro k1 l hl
  have := ordersE_memK _ _ (check_facts w3).2.2.1 l hl
  rw [k1] at this
  exact sort_fixK l (hcl k1 l hl) this
 ·intro k2
  have k2' := k2
  rw [hkk] at k2'
  have hle : y.ls.headD [] = [] ∨ y.ls.headD [] ∈ y.ls := by cases y.ls <;> simp
  have h9 : (y.ls.headD []).length ≤ 960 := by
   rcases hle with h | h
   ·rw [h]; simp
   ·have := (List.sublist_flatten_of_mem h).length_le; omega
  unfold sprI
  split
  ·exact h9
  ·rw [if_neg (by omega), if_neg (by omega)]; exact h9
end Go.AM

namespace Go.AM
theorem iav_p (s : St) (sz m g o : Nat) (n : Int) : iav s sz (some m) (.v (.p g o)) n = if n < 0 then none else if n < m then some (.v (.p g (o + n.toNat * sz)), .no) else none := rfl
attribute [simp] iav_p
def eMach (k : Int) (p : Nat) : D := if k = 1 then .ic t_multi_Multi (.a [.i .i64 p]) else if k = 2 then .ic t_kfifo_Queue (.a [.i .i64 p]) else if k = 3 then .ic t_tally_Tally (.a [.i .i64 p]) else .ic t_net_Net (ePlan .z p)
def eFp : Option Nat → D
 | none => .nilp
 | some r => .p r 0
structure Eng where
 k : Int
 p : Nat
 m : Nat
 th : List (Option Nat)
 cl : Bool
 st : Nat
 deriving DecidableEq
def eEng (e : Eng) : List D := .i .i64 e.k :: .i .i64 e.p :: .p e.m 0 :: eMach e.k e.p :: (e.th.map eFp ++ [.b e.cl, .i .i64 e.st])
def newE (k : Int) (p m : Nat) : Eng := ⟨k, p, m, [none, none, none, none, none, none], false, 0⟩
theorem six {α : Type} {l : List α} (h : l.length = 6) : ∃ a b c d e f, l = [a, b, c, d, e, f] := by
 match l, h with
 | [a, b, c, d, e, f], _ => exact ⟨a, b, c, d, e, f, rfl⟩
theorem c_multi_New (p : Int) (sg) : LL.call n_multi_New [.i .i64 p] sg sg.length = some (.t [.a [.i .i64 (if legal 1 p = 0 then p else 0)], .i .i64 (legal 1 p)], sg, sg.length) := by
 have L := c_op_Legal 1 p sg
 refine wp_call e_multi_New rfl ?_
 by_cases h : legal 1 p = 0
 ·simp [F_multi_New, L, h]
 ·have h' : (legal 1 p != 0) = true := by simp [h]
  simp [F_multi_New, L, h, h']
theorem c_kfifo_NewG (p : Int) (sg) : LL.call n_kfifo_New [.i .i64 p] sg sg.length = some (.t [.a [.i .i64 (if legal 2 p = 0 then p else 0)], .i .i64 (legal 2 p)], sg, sg.length) := by
 have L := c_op_Legal 2 p sg
 refine wp_call e_kfifo_New rfl ?_
 by_cases h : legal 2 p = 0
 ·simp [F_kfifo_New, L, h]
 ·have h' : (legal 2 p != 0) = true := by simp [h]
  simp [F_kfifo_New, L, h, h']
theorem c_tally_New (p : Int) (sg) : LL.call n_tally_New [.i .i64 p] sg sg.length = some (.t [.a [.i .i64 (if legal 3 p = 0 then p else 0)], .i .i64 (legal 3 p)], sg, sg.length) := by
 have L := c_op_Legal 3 p sg
 refine wp_call e_tally_New rfl ?_
 by_cases h : legal 3 p = 0
 ·simp [F_tally_New, L, h]
 ·have h' : (legal 3 p != 0) = true := by simp [h]
  simp [F_tally_New, L, h, h']
theorem c_wire_Make_no (p : Int) (h : legal 4 p ≠ 0) (sg) : LL.call n_wire_Make [.i .i64 p] sg sg.length = some (.t [.a [.i .i64 0, .l .o 2 [], .l .o 1 []], .i .i64 (legal 4 p)], sg, sg.length) := by
 have L := c_op_Legal 4 p sg
 refine wp_call e_wire_Make rfl ?_
 have h' : (legal 4 p != 0) = true := by simp [h]
 simp [F_wire_Make, L, h, h']
theorem c_net_New_no (p : Int) (h : legal 4 p ≠ 0) (sg) : LL.call n_net_New [.i .i64 p] sg sg.length = some (.t [.a [.i .i64 0, .l .z 2 [], .l .z 1 []], .i .i64 (legal 4 p)], sg, sg.length) := by
 have L := c_wire_Make_no p h sg
 refine wp_call e_net_New rfl ?_
 simp [F_net_New, L]
theorem c_engine_With (k p : Int) (m : Nat) (sg) : LL.call n_engine_With [.i .i64 k, .i .i64 p, .p m 0] sg sg.length =
    if legal k p = 0 then some (.t [.p sg.length 0, .i .i64 0], sg ++ [eEng (newE k p.toNat m)], sg.length) else some (.t [.nilp, .i .i64 (legal k p)], sg, sg.length) := by
 have hM : (∃ ty d, (legal k p = 0 → .ic ty d = eMach k p.toNat) ∧ LL.call n_engine_machine [.i .i64 k, .i .i64 p] sg sg.length = some (.t [.ic ty d, .i .i64 (legal k p)], sg, sg.length)) ∨
     (legal k p ≠ 0 ∧ LL.call n_engine_machine [.i .i64 k, .i .i64 p] sg sg.length = some (.t [.nili, .i .i64 (legal k p)], sg, sg.length)) := by
  by_cases hk : k < 1 ∨ 4 < k
  ·refine .inr ⟨fun h => ?_, wp_call e_engine_machine rfl ?_⟩
   ·unfold legal at h; rw [if_pos (by omega)] at h; cases h
   ·have h0 : legal k p = 6 := by unfold legal; rw [if_pos (by omega)]
    have h1 : (k == 1) = false := by simp; omega
    have h2 : (k == 2) = false := by simp; omega
    have h3 : (k == 3) = false := by simp; omega
    have h4 : (k == 4) = false := by simp; omega
    simp [F_engine_machine, h0, h1, h2, h3, h4]
  ·have hc : k = 1 ∨ k = 2 ∨ k = 3 ∨ k = 4 := by omega
   rcases hc with rfl | rfl | rfl | rfl
   ·refine .inl ⟨t_multi_Multi, .a [.i .i64 (if legal 1 p = 0 then p else 0)], fun h => ?_, wp_call e_engine_machine rfl ?_⟩
    ·have : (p.toNat : Int) = p := by unfold legal at h; split at h; cases h; split at h; cases h; omega
     simp [eMach, h, this]
    ·have N := c_multi_New p sg
     simp [F_engine_machine, N]
   ·refine .inl ⟨t_kfifo_Queue, .a [.i .i64 (if legal 2 p = 0 then p else 0)], fun h => ?_, wp_call e_engine_machine rfl ?_⟩
    ·have : (p.toNat : Int) = p := by unfold legal at h; split at h; cases h; split at h; cases h; omega
     simp [eMach, h, this]
    ·have N := c_kfifo_NewG p sg
     simp [F_engine_machine, N]
   ·refine .inl ⟨t_tally_Tally, .a [.i .i64 (if legal 3 p = 0 then p else 0)], fun h => ?_, wp_call e_engine_machine rfl ?_⟩
    ·have : (p.toNat : Int) = p := by unfold legal at h; split at h; cases h; split at h; cases h; omega
     simp [eMach, h, this]
    ·have N := c_tally_New p sg
     simp [F_engine_machine, N]
   ·by_cases h : legal 4 p = 0
    ·have e : (p.toNat : Int) = p := by unfold legal at h; split at h; cases h; split at h; cases h; omega
     have hw := legal_width (p := p.toNat) (by rw [e]; exact h)
     have N := p_net_New p.toNat hw
     rw [e] at N
     refine .inl ⟨t_net_Net, ePlan .z p.toNat, fun _ => by simp [eMach], wp_call e_engine_machine rfl ?_⟩
     simp [ePlan] at N
     simp [F_engine_machine, N, h, ePlan]
    ·have N : callpv LL n_net_New [.i .i64 p] = some (.t [.a [.i .i64 0, .l .z 2 [], .l .z 1 []], .i .i64 (legal 4 p)]) := callpv_of (by simp) (c_net_New_no p h [])
     refine .inl ⟨t_net_Net, .a [.i .i64 0, .l .z 2 [], .l .z 1 []], fun h' => absurd h' h, wp_call e_engine_machine rfl ?_⟩
     simp [F_engine_machine, N]
 rcases hM with ⟨ty, d, hd, M⟩ | ⟨h, M⟩
 ·by_cases h : legal k p = 0
  ·rw [if_pos h]
   have e : (p.toNat : Int) = p := by unfold legal at h; split at h; cases h; split at h; cases h; omega
   rw [h] at M
   refine wp_call e_engine_With rfl ?_
   simp [F_engine_With, M, eEng, newE, ← hd h, e, eFp]
  ·rw [if_neg h]
   have h' : (legal k p != 0) = true := by simp [h]
   refine wp_call e_engine_With rfl ?_
   simp [F_engine_With, M, h']
 ·rw [if_neg h]
  have h' : (legal k p != 0) = true := by simp [h]
  refine wp_call e_engine_With rfl ?_
  simp [F_engine_With, M, h']
section
variable (e : Eng) (sg : List (List D)) (r : Nat) (hr : sg[r]? = some (eEng e)) (h6 : e.th.length = 6)
include hr
theorem c_engine_Kind : LL.call n_engine_Engine_Kind [.p r 0] sg sg.length = some (.i .i64 e.k, sg, sg.length) := by
 refine wp_call e_engine_Engine_Kind rfl ?_
 simp [F_engine_Engine_Kind, hr, eEng]
theorem c_engine_Param : LL.call n_engine_Engine_Param [.p r 0] sg sg.length = some (.i .i64 e.p, sg, sg.length) := by
 refine wp_call e_engine_Engine_Param rfl ?_
 simp [F_engine_Engine_Param, hr, eEng]
include h6
end
theorem cps_eFp : ∀ l : List (Option Nat), D.cps (l.map eFp) = some (l.map eFp)
 | [] => rfl
 | none :: l => by simp only [List.map_cons, D.cps, cps_eFp l]; rfl
 | some _ :: l => by simp only [List.map_cons, D.cps, cps_eFp l]; rfl
def busyL : List (Option Nat) → Nat → List Nat
 | [], _ => []
 | none :: r, i => busyL r (i + 1)
 | some _ :: r, i => i :: busyL r (i + 1)
theorem c_engine_Busy (e : Eng) (h6 : e.th.length = 6) (sg : List (List D)) (r : Nat) (hr : sg[r]? = some (eEng e)) :
    LL.call n_engine_Engine_Busy [.p r 0] sg sg.length = some (.l .o 1 ((busyL e.th 0).map eN), sg, sg.length) := by
 generalize hT : busyL e.th 0 = T
 refine wp_call e_engine_Engine_Busy rfl ?_
 obtain ⟨k, p, m, th, cl, st⟩ := e
 obtain ⟨a, b, c, d, x, y, rfl⟩ := six h6
 have hcell : ∀ o : Option Nat, D.cp (eFp o) = some (eFp o) := fun o => by cases o <;> rfl
 simp [F_engine_Engine_Busy, hr, eEng, hcell]
 obtain ⟨l, hl⟩ : ∃ l, l = [a, b, c, d, x, y] := ⟨_, rfl⟩
 have hl6 : l.length = 6 := by rw [hl]; rfl
 simp only [← hl] at hT
 refine wc_lst l (fun i (out : List Nat) => ⟨[(3, .v (.l .o 1 (out.map eN))), (9, .v (.a (l.map eFp))), (10, .v (.i .i64 i))], [], sg, sg.length⟩) (fun i rest out => out ++ busyL rest i = T ∧ out.length ≤ i) [] ?_ ⟨hT, by simp⟩ ?_ ?_
 ·rw [hl]; simp
 ·rintro i o rest out hi hx1 ⟨h1, h2⟩ ih
  have hi6 : (i : Int) < 6 := by omega
  have hi5 : i < 6 := by omega
  have w1 : IntKind.i64.wrap ((i : Int) + 1) = i + 1 := wrap64 (by omega)
  have hd : List.take 1 (List.drop i (l.map eFp)) = [eFp o] := by
   rw [List.drop_eq_getElem_cons (by simpa using hi)]
   simp [hx1]
  have hle : i + 1 ≤ l.length := by omega
  cases o with
  | none =>
   have ih := ih out ⟨by simpa [busyL] using h1, by omega⟩
   simp [eFp] at hd
   simp at ih
   simp [hi6, hi5, hd, hle, w1, cps_eFp]
   simpa using ih
  | some q =>
   have ih := ih (out ++ [i]) ⟨by rw [← h1]; simp [busyL], by simp; omega⟩
   have hap : (out.length + 1) * 8 ≤ 140737488355328 := by omega
   simp [eFp] at hd
   simp [eN] at ih
   simp [hi6, hi5, hd, hle, w1, hap, cps_eFp]
   simpa [eN] using ih
 ·rintro out ⟨h1, h2⟩
  simp [busyL] at h1
  subst h1
  simp [hl6]
def eFrP (f : FrR) : List D := [.i .i64 f.o.k, .f .f64 f.o.x.p, .i .i64 f.o.x.v, .i .i64 f.o.a, .i .i64 f.o.b, .i .i64 f.pc, .i .i64 f.at_, .i .i64 f.seen, .i .i64 f.seg, .i .i64 f.tot, .b f.em,
 .i .u64 f.v0, .i .i64 f.n0, .l .o 2 (f.l0.map eI), .i .u64 f.v1, .i .i64 f.n1, .l .o 2 (f.l1.map eI)]
def begF (o : Rw) : FrR := ⟨o, 0, 0, 0, 0, 0, false, 0, 0, 0, [], 0, []⟩
def begE (e : Eng) (t : Int) (o : Rw) : Int := if t < 0 ∨ 6 ≤ t then 4 else if e.cl then 12 else if checkO e.k o.k o.x.v ≠ 0 then checkO e.k o.k o.x.v else if (e.th[t.toNat]?).join.isSome then 11 else 0
end Go.AM

namespace Go.AM
theorem c_law18_awake : LL.call n_c_law18_awake [] [] 0 = some (.b true, [], 0) := lim_call.2 ⟨40, by kernel_rfl⟩
end Go.AM

namespace Go.AM
theorem wf_i64 {n : Int} (h : (Lit.int .i64 n).wf = true) : -9223372036854775808 ≤ n ∧ n ≤ 9223372036854775807 := by
 simpa [Lit.wf, IntKind.min, IntKind.max, IntKind.signed, IntKind.bits] using h
theorem wf_u64 {n : Int} (h : (Lit.int .u64 n).wf = true) : 0 ≤ n ∧ n < 18446744073709551616 := by
 have : 0 ≤ n ∧ n ≤ 18446744073709551615 := by simpa [Lit.wf, IntKind.min, IntKind.max, IntKind.signed, IntKind.bits] using h
 omega
theorem fits_i {k : IntKind} {d : D} (h : Fits (.i k) [d]) : ∃ n, d = .i k n ∧ (Lit.int k n).wf = true := by
 cases h with | i k n h => exact ⟨n, rfl, h⟩
theorem fits_ints {k : IntKind} : ∀ xs : List D, (∀ x ∈ xs, Fits (.i k) x.cells) → (∀ x ∈ xs, ∃ c, x = c ∧ c.cells = [c]) → ∃ ns : List Int, xs = ns.map (.i k) ∧ ∀ n ∈ ns, (Lit.int k n).wf = true
 | [], _, _ => ⟨[], rfl, by simp⟩
 | x :: xs, h, hc => by
  obtain ⟨ns, e, hn⟩ := fits_ints xs (fun y hy => h y (by simp [hy])) (fun y hy => hc y (by simp [hy]))
  obtain ⟨c, rfl, h2⟩ := hc x (by simp)
  have := h x (by simp)
  rw [h2] at this
  obtain ⟨n, rfl, hw⟩ := fits_i this
  exact ⟨n :: ns, by simp [e], by simpa [hw] using hn⟩
theorem fits_l {k : IntKind} {d : D} (h : Fits (.l 1 false (.i k)) [d]) : ∃ ns : List Int, d = .l .z 1 (ns.map (.i k)) ∧ (∀ n ∈ ns, (Lit.int k n).wf = true) ∧ ns.length ≤ maxLen := by
 cases h with
 | l sz agg e xs hl hx ha =>
  obtain ⟨ns, e, hn⟩ := fits_ints xs hx (by simpa using ha)
  subst e
  exact ⟨ns, rfl, hn, by simpa using hl⟩
abbrev tItem : Ty := .st [.i .u64, .i .i64]
abbrev tRaw : Ty := .st [.i .i64, .i .i64, .i .u64, .l 2 true tItem, .l 1 false (.i .i64), .i .i64]
theorem fitss_cons1 {f : Ty} {fs : List Ty} {cs : List D} (h : Fitss (f :: fs) cs) (hf : ∀ c, Fits f c → ∃ d, c = [d]) : ∃ d r, cs = d :: r ∧ Fits f [d] ∧ Fitss fs r := by
 cases h with
 | cons h k => obtain ⟨d, rfl⟩ := hf _ h; exact ⟨d, _, rfl, h, k⟩
theorem one_i (k : IntKind) (c : List D) (h : Fits (.i k) c) : ∃ d, c = [d] := by cases h; exact ⟨_, rfl⟩
theorem one_l (sz : Nat) (a : Bool) (T : Ty) (c : List D) (h : Fits (.l sz a T) c) : ∃ d, c = [d] := by cases h; exact ⟨_, rfl⟩
theorem fitss_nil {cs : List D} (h : Fitss [] cs) : cs = [] := by cases h; rfl
theorem fits_item {cs : List D} (h : Fits tItem cs) : ∃ x : It, D.a cs = eR x ∧ x.ok := by
 cases h with
 | st h =>
  obtain ⟨d1, r, rfl, h1, h⟩ := fitss_cons1 h (one_i _)
  obtain ⟨d2, r, rfl, h2, h⟩ := fitss_cons1 h (one_i _)
  have := fitss_nil h; subst this
  obtain ⟨n1, rfl, w1⟩ := fits_i h1
  obtain ⟨n2, rfl, w2⟩ := fits_i h2
  have := wf_u64 w1
  have := wf_i64 w2
  refine ⟨⟨n1.toNat, n2⟩, ?_, ?_, ?_⟩
  ·have : ((n1.toNat : Nat) : Int) = n1 := by omega
   simp [this]
  ·simp; omega
  ·simpa using this
theorem fits_items : ∀ xs : List D, (∀ x ∈ xs, Fits tItem x.cells) → (∀ x ∈ xs, ∃ cs, x = .a cs) → ∃ ns : List It, xs = ns.map eR ∧ ∀ n ∈ ns, n.ok
 | [], _, _ => ⟨[], rfl, by simp⟩
 | x :: xs, h, hc => by
  obtain ⟨ns, e, hn⟩ := fits_items xs (fun y hy => h y (by simp [hy])) (fun y hy => hc y (by simp [hy]))
  obtain ⟨cs, rfl⟩ := hc x (by simp)
  obtain ⟨y, e2, hy⟩ := fits_item (h _ (by simp : D.a cs ∈ D.a cs :: xs))
  exact ⟨y :: ns, by rw [e, List.map_cons, ← e2]; rfl, by simpa [hy] using hn⟩
theorem fits_raw {cs : List D} (h : Fits tRaw cs) : ∃ x : Raw, D.a cs = eRaw x ∧ x.ok := by
 cases h with
 | st h =>
  obtain ⟨d1, r, rfl, h1, h⟩ := fitss_cons1 h (one_i _)
  obtain ⟨d2, r, rfl, h2, h⟩ := fitss_cons1 h (one_i _)
  obtain ⟨d3, r, rfl, h3, h⟩ := fitss_cons1 h (one_i _)
  obtain ⟨d4, r, rfl, h4, h⟩ := fitss_cons1 h (one_l _ _ _)
  obtain ⟨d5, r, rfl, h5, h⟩ := fitss_cons1 h (one_l _ _ _)
  obtain ⟨d6, r, rfl, h6, h⟩ := fitss_cons1 h (one_i _)
  have := fitss_nil h; subst this
  obtain ⟨n1, rfl, w1⟩ := fits_i h1
  obtain ⟨n2, rfl, w2⟩ := fits_i h2
  obtain ⟨n3, rfl, w3⟩ := fits_i h3
  obtain ⟨n5, rfl, w5, l5⟩ := fits_l h5
  obtain ⟨n6, rfl, w6⟩ := fits_i h6
  cases h4 with
  | l sz agg e xs hl hx ha =>
   obtain ⟨is, rfl, hi⟩ := fits_items xs hx (by simpa using ha)
   exact ⟨⟨n1, n2, n3, is, n5, n6⟩, rfl, hi, wf_u64 w3, wf_i64 w6⟩
end Go.AM

namespace Go.AM
def chkM (P : Program) (t : TypeId) (nm : String) (f : FuncId) : Bool := match P.info? t with
 | some i => match i.methods.find? (·.name == nm) with
  | some m => m.path.toList.isEmpty && (match m.func with
   | some (g, true) => (match P.underlying t with | some (.pointer _) => g == f && decide (f < Q0) | _ => false)
   | some (g, false) => (match P.underlying t with
    | some (.pointer e) => decide (Q0 ≤ f) && g == f - Q0 && aggT P e == some false && szT P e == some 1
    | some _ => g == f && decide (f < Q0)
    | none => false)
   | none => false)
  | none => false
 | none => false
theorem wrap_ok (ts : Array TypeId) (t : TypeId) (a : Addr) (s1 s2 : String) : Builtin.ssaWrapNilChk_ ts t #[.pointer (some a), strVal s1, strVal s2] = pure (.pointer (some a)) := rfl
theorem meth_one {P : Program} {t nm f} (h : chkM P t nm f = true) :
    (f < Q0 → ∀ v w, (method (P.types.size + Made.depth) t v nm).run P w = .ok (f, v) w) ∧
    (Q0 ≤ f → ∀ b off u w, World.cell? w ⟨b, off, none⟩ = some u → (method (P.types.size + Made.depth) t (.pointer (some ⟨b, off, none⟩)) nm).run P w = .ok (f - Q0, u) w) := by
 unfold chkM at h
 split at h
 ·rename_i i hi
  split at h
  ·rename_i m hm
   simp only [Bool.and_eq_true] at h
   obtain ⟨hp, h⟩ := h
   have hp' : m.path.toList = [] := List.isEmpty_iff.1 hp
   obtain ⟨n, hn⟩ : ∃ n, P.types.size + Made.depth = n + 1 := ⟨P.types.size + 99, rfl⟩
   rw [hn]
   split at h
   ·rename_i g hg
    split at h
    ·rename_i e hu
     simp only [Bool.and_eq_true, beq_iff_eq, decide_eq_true_eq] at h
     obtain ⟨rfl, hf⟩ := h
     refine ⟨fun _ v w => ?_, fun hq => absurd hf (Nat.not_lt.2 hq)⟩
     simp [method, typeInfo, hi, hm, hp', follow, hg, receiverAt, underlying, hu, Place.get]
    ·cases h
   ·rename_i g hg
    split at h
    ·rename_i e hu
     simp only [Bool.and_eq_true, beq_iff_eq, decide_eq_true_eq] at h
     obtain ⟨⟨⟨hf, hgf⟩, ha⟩, hs⟩ := h
     refine ⟨fun hq => absurd hq (Nat.not_lt.2 hf), fun _ b off u w hc => ?_⟩
     have hrun := run_load' (P := P) (w := w) (t := e) (b := b) (off := off) (us := [u]) ha hs (.inr rfl) rfl (fun j v hj => by
      cases j with
      | zero => simp at hj; subst hj; simpa using hc
      | succ j => simp at hj)
     simp only [Instr.loadAt, Instr.sureAddr] at hrun
     have hpe : m.path = #[] := by simpa using hp
     simp at hrun
     simp [method, typeInfo, hi, hm, hp', hpe, follow, hg, receiverAt, underlying, hu, Place.get, wrap_ok, asAddr, hrun, hgf]
    ·rename_i d hne hu
     simp only [Bool.and_eq_true, beq_iff_eq, decide_eq_true_eq] at h
     obtain ⟨rfl, hf⟩ := h
     refine ⟨fun _ v w => ?_, fun hq => absurd hf (Nat.not_lt.2 hq)⟩
     simp [method, typeInfo, hi, hm, hp', follow, hg, receiverAt, underlying, hu, Place.get]
    ·cases h
   ·cases h
  ·cases h
 ·cases h
theorem meth_all {P : Program} {T : List (TypeId × String × FuncId)} (h : T.all (fun p => chkM P p.1 p.2.1 p.2.2) = true) :
    MethOK P (fun t nm => (T.find? fun p => p.1 == t && p.2.1 == nm).map (·.2.2)) := by
 intro t nm f hf
 simp only [Option.map_eq_some_iff] at hf
 obtain ⟨⟨t', nm', f'⟩, h1, rfl⟩ := hf
 have h2 := List.find?_some h1
 simp only [Bool.and_eq_true, beq_iff_eq] at h2
 obtain ⟨rfl, rfl⟩ := h2
 exact meth_one (List.all_eq_true.1 h _ (List.mem_of_find?_eq_some h1))
end Go.AM

namespace Go.AM
open Go.Proofs
set_option maxRecDepth 100000
theorem fol : Try.prog.follows .mixedOrders = true := by kernel_rfl
theorem tab_ok : tab.all (fun p => chkFn Try.prog EE.fbits EE.frb (rid p.1) p.2) = true := by kernel_rfl
theorem look_in {α : Type} {k : Nat} {x : α} : ∀ {l : List (Nat × α)}, look k l = some x → (k, x) ∈ l
 | (j, y) :: r, h => by
  simp only [look] at h
  split at h
  ·rename_i e; cases h; subst e; simp
  ·exact List.mem_cons_of_mem _ (look_in h)
theorem libF : LibF Try.prog EE := fun _ _ _ h => nomatch h
theorem env_ok : EnvOK Try.prog EE := ⟨fun f af h => List.all_eq_true.1 tab_ok (f, af) (look_in h), libF, srtF⟩
theorem meth_ok : methL.all (fun p => chkM Try.prog p.1 p.2.1 p.2.2) = true := by kernel_rfl
theorem lib_ok : Lib Try.prog EE.fbits EE.frb EE.meth where
 bits := fun f h n w => by cases h; rfl
 frb := fun f h n w => by cases h; rfl
 meth := meth_all meth_ok
end Go.AM

namespace Go.AM
open Go.Proofs
theorem c_engine_Value (e : Eng) (M : Mem) (hM : M.good) (hl : legal e.k e.p = 0) (sg : List (List D)) (r : Nat) (hr : sg[r]? = some (eEng e)) (hm : sg[e.m]? = some (eMem M)) :
    LL.call n_engine_Engine_Value [.p r 0] sg sg.length = some (eVl .z (ofM e.k e.p M), sg, sg.length) := by
 have V := c_value_Of e.k e.p M hM sg e.m hm
 rw [if_pos hl, hl] at V
 have ht : ((e.p : Int)).toNat = e.p := by omega
 rw [ht] at V
 refine wp_call e_engine_Engine_Value rfl ?_
 simp [eEng] at hr
 simp [eVl] at V
 simp [F_engine_Engine_Value, hr, V, eVl]
theorem c_spread_Engine (y : Im) (p : Int) (ho : y.ok) (hs : y.small) (yc : checkI y = 0) (yn : ∀ l ∈ y.ls, ∀ z ∈ l, z.canon = z) (hp : -9223372036854775808 ≤ p ∧ p ≤ 9223372036854775807) (hE : toE y p = 0) (h60 : y.ls.flatten.length ≤ 960) (sg) :
    LL.call n_spread_Engine [eIm y, .i .i64 p] sg sg.length = some (.t [.p (sg.length + 1) 0, .i .i64 0], sg ++ [eMem (memOf (layP (sprI y p))), eEng (newE y.k p.toNat sg.length)], sg.length) := by
 obtain ⟨K1, K3, hK, T⟩ := (c_spread_To y p ho hs hp sg).2 hE
 obtain ⟨w1, w2, w3⟩ := spr_facts ho hs hE
 obtain ⟨k1, k2, k3, k4, k5⟩ := spr_kept y p ho hs yc yn hE h60
 obtain ⟨l1, l2, l3⟩ := lay_kept (sprI y p) w1 w3 k5
 have L := c_spread_Lay (sprI y p) w1 w2 k4 sg
 rw [if_pos l1] at L
 have hleg := (check_facts w3).1
 rw [k1, k2] at hleg
 have W := c_engine_With y.k p sg.length (sg ++ [eMem (memOf (layP (sprI y p)))])
 rw [if_pos hleg] at W
 obtain ⟨M, hM⟩ : ∃ M, M = eMem (memOf (layP (sprI y p))) := ⟨_, rfl⟩
 rw [← hM] at L W ⊢
 generalize sprI y p = w at *
 have ee : (eLK .z 2 eI : List It → D) = eL 2 eI := rfl
 refine wp_call e_spread_Engine rfl ?_
 simp [eIm, eImK, ee, k1, k2] at T L W
 rcases hK with ⟨rfl, rfl⟩ | ⟨_, rfl, rfl⟩ | ⟨_, rfl, rfl⟩ <;> simp [F_spread_Engine, eIm, T, L, W, ee]
set_option maxRecDepth 20000 in
set_option maxHeartbeats 4000000 in
theorem spreadKept (x : Raw) (p : Int) (hx : x.ok) (hp : -9223372036854775808 ≤ p ∧ p ≤ 9223372036854775807) : LL.call n_c_law18_SpreadKept [eRaw x, .i .i64 p] [] 0 = some (.b true, [], 0) := by
 have ha := c_law18_awake
 have m1 := c_law17_Make x hx []
 have m2 := c_law17_Make ⟨x.k, p, 0, [], [], 0⟩ ⟨by simp, by simp, by simp⟩ []
 have hw : ∀ x, eRaw x = .a [.i .i64 x.k, .i .i64 x.p, .i .u64 x.c, .l .z 2 (x.is.map eR), .l .z 1 (x.cs.map (.i .i64)), .i .i64 x.sp] := fun _ => rfl
 have ee : (eLK .z 2 eI : List It → D) = eL 2 eI := rfl
 have yo := makeI_ok x hx
 have ys := makeI_small x hx
 have yc := makeI_check x hx
 have yf := makeI_flat x hx
 have yn : ∀ l ∈ (makeI x).ls, ∀ z ∈ l, z.canon = z := fun l hl z hz => ((makeI_ls x hx l hl).2 z hz).2
 have hq : (makeI ⟨x.k, p, 0, [], [], 0⟩).p = paramOf x.k p := rfl
 have hyk : (makeI x).k = kindOf x.k := rfl
 obtain ⟨q, hqq⟩ : ∃ q, q = paramOf x.k p := ⟨_, rfl⟩
 have hleg : legal (makeI x).k q = 0 := by rw [hyk, hqq]; exact legal_kind x.k p
 have hqr : 1 ≤ q ∧ q ≤ 16 := by rw [hqq]; exact paramOf_le x.k p
 rw [← hqq] at hq
 generalize makeI ⟨x.k, p, 0, [], [], 0⟩ = z2 at *
 generalize makeI x = y at *
 simp [hw, eImK, hq] at m1 m2
 obtain ⟨f1, f2, f3, f4, f5, f6⟩ := check_facts yc
 have V1 := fun sg => c_image_Value y yo ⟨by have := ys.1; omega, by have := ys.2.1; omega⟩ (fun n hn => (f5 n hn).1) (by omega) (by omega) sg
 obtain ⟨T1, T2⟩ := c_spread_To y q yo ys (by omega) []
 refine wp_call e_c_law18_SpreadKept rfl ?_
 rw [hw]
 by_cases hE : toE y q = 0
 ·obtain ⟨K1, K3, hK, T⟩ := T2 hE
  have E := c_spread_Engine y q yo ys yc yn (by omega) hE yf []
  obtain ⟨w1, w2, w3⟩ := spr_facts yo ys hE
  obtain ⟨k1, k2, k3, k4, k5⟩ := spr_kept y q yo ys yc yn hE yf
  obtain ⟨l1, l2, l3⟩ := lay_kept (sprI y q) w1 w3 k5
  obtain ⟨g1, g2, g3, g4, g5, g6⟩ := check_facts w3
  have hflat : (sprI y q).ls.flatten.length ≤ 1000 := by rw [List.length_flatten]; exact g4
  have V2 := fun sg => c_image_Value (sprI y q) w1 ⟨by have := w2.1; omega, by have := w2.2.1; omega⟩ (fun n hn => (g5 n hn).1) (by omega) (by omega) sg
  rw [k3] at V2 l3
  rw [k1, k2] at l3
  have EV := c_engine_Value (newE y.k q.toNat 0) _ l2 (by have : ((q.toNat : Nat) : Int) = q := by omega
                                                          simp only [newE, this]; exact hleg) [eMem (memOf (layP (sprI y q))), eEng (newE y.k q.toNat 0)] 1 rfl rfl
  have e3 : ofM (newE y.k q.toNat 0).k (newE y.k q.toNat 0).p (memOf (layP (sprI y q))) = valI y := l3
  rw [e3] at EV
  have EP := c_engine_Param (newE y.k q.toNat 0) [eMem (memOf (layP (sprI y q))), eEng (newE y.k q.toNat 0)] 1 rfl
  have EK := c_engine_Kind (newE y.k q.toNat 0) [eMem (memOf (layP (sprI y q))), eEng (newE y.k q.toNat 0)] 1 rfl
  have EB := c_engine_Busy (newE y.k q.toNat 0) rfl [eMem (memOf (layP (sprI y q))), eEng (newE y.k q.toNat 0)] 1 rfl
  obtain ⟨M, hM⟩ : ∃ M, M = eMem (memOf (layP (sprI y q))) := ⟨_, rfl⟩
  obtain ⟨G, hG⟩ : ∃ G, G = eEng (newE y.k q.toNat 0) := ⟨_, rfl⟩
  have E' : LL.call n_spread_Engine [eIm y, .i .i64 q] [] 0 = some (.t [.p 1 0, .i .i64 0], [M, G], 0) := by rw [hM, hG]; exact E
  rw [← hM, ← hG] at EV EP EK EB
  have hvok : ∀ z ∈ (valI y).is, z.ok := valI_ok yo
  have S := c_value_SameG (valI y) (valI y) hvok hvok (by rw [valI_len]; omega) [M, G]
  have hss : sameV (valI y) (valI y) := ⟨rfl, rfl, rfl⟩
  have V1 := V1 [M, G]
  have V2 := V2 [M, G]
  have hbz : busyL (newE y.k q.toNat 0).th 0 = [] := rfl
  have hqn : ((q.toNat : Nat) : Int) = q := by omega
  have hnp : (newE y.k q.toNat 0).p = q.toNat := rfl
  have hnk : (newE y.k q.toNat 0).k = y.k := rfl
  rw [hbz] at EB
  rw [hnp, hqn] at EP
  rw [hnk] at EK
  generalize valI y = vv at *
  generalize sprI y q = w at *
  simp [eIm, eImK, ee, eVl, hss] at T E' V1 V2 EV EP EK EB S
  rcases hK with ⟨rfl, rfl⟩ | ⟨_, rfl, rfl⟩ | ⟨_, rfl, rfl⟩ <;> simp [F_c_law18_SpreadKept, ha, m1, m2, T, E', V1, V2, EV, EP, EK, EB, S, ee]
 ·have T := T1 hE
  have h3 : toE y q = 3 ∧ y.k = 1 ∧ ((valI y).is.length : Int) > q * 62 := by
   unfold toE at hE ⊢
   rw [if_neg (by simp [yc]), if_neg (by simp [hleg])] at hE ⊢
   split at hE
   ·rename_i h
    rw [if_pos h]
    rcases h.2 with h2 | h2
    ·exact ⟨rfl, h2⟩
    ·exfalso
     have hr : (960 : Int) ≤ roomI q := by
      unfold roomI
      have hm : max q 1 = q := by omega
      rw [hm]
      have := Int.mul_ediv_add_emod 998 q
      have := Int.emod_lt_of_pos 998 (show 0 < q by omega)
      rw [Int.mul_comm]
      omega
     have := h2.2
     rw [valI_len] at this
     omega
   ·exact absurd rfl hE
  obtain ⟨h3, hk1, hlen⟩ := h3
  rw [h3] at T
  have V1 := V1 []
  have w62 : IntKind.i64.wrap (62 * q) = 62 * q := wrap64 (by omega)
  have hlen' : 62 * q < ((valI y).is.length : Int) := by omega
  generalize valI y = vv at *
  simp [eIm, eImK, ee, eVl, hk1] at T V1 m1
  simp [F_c_law18_SpreadKept, ha, m1, m2, T, V1, ee, hk1, w62, hlen']
def args_SpreadKept : List (Bool × Ty) := [(true, tRaw), (false, .i .i64)]
theorem args_SpreadKept_ok : tyA Try.prog [77, 3] = some args_SpreadKept := by kernel_rfl
theorem law_SpreadKept (ds : List D) (h : FitA args_SpreadKept ds) : ∃ sg lo, (lim EE).call n_c_law18_SpreadKept ds [] 0 = some (.b true, sg, lo) := by
 cases h with
 | a h1 k =>
  obtain ⟨x, e1, hx⟩ := fits_raw h1
  cases k with
  | c h3 k =>
   obtain ⟨t, rfl, w⟩ := fits_i h3
   cases k
   rw [e1]
   exact ⟨[], 0, spreadKept x t hx (wf_i64 w)⟩
end Go.AM
