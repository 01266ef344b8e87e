/- Lemmas: an abstract machine over the loaded program, proved sound against the model once; what the program's functions compute. -/
import Derived.Test.YtjlaafdldgmndaaK2
import Derived.Test.YtjlaafdldgmndaaK3
import Derived.Laws.BitsLemmas
import Derived.Test.YtjlaafdldgmndaaK1
import Derived.Test.YtjlaafdldgmndaaProg
set_option linter.all false
namespace Go.AM
noncomputable abbrev LL : Or := lim EE
mutual
theorem beq_self : ∀ d : D, D.beq d d = true
 | .b _ | .i _ _ | .f _ _ | .nilp | .p _ _ | .nili | .nilf | .u | .w => by simp [D.beq]
 | .s x => by simp only [D.beq]; show (x.data == x.data) = true; simp
 | .q cs _ => by simp [D.beq, beqs_self cs]
 | .l _ _ xs => by simp [D.beq, beqs_self xs]
 | .a cs => by simp [D.beq, beqs_self cs]
 | .t cs => by simp [D.beq, beqs_self cs]
 | .ic _ v => by simp [D.beq, beq_self v]
 | .fn _ cs => by simp [D.beq, beqs_self cs]
theorem beqs_self : ∀ ds : List D, D.beqs ds ds = true
 | [] => rfl
 | d :: ds => by simp [D.beqs, beq_self d, beqs_self ds]
end
class Kt (α : Type) where
 q : α → Prop
class K3 where
 q : R → St → Ac → Prop
class Pr where
 p : Prop
def WC (c : C) (s : St) [k : Kt Rs] (_ : True) : Prop := ∃ r, evC EE LL c s = some r ∧ k.q r
def WG (gs : List Gh) (s : St) [k : Kt St] (_ : True) : Prop := ∃ t, evGs gs s = some t ∧ k.q t
def WO (ops : List I) (s : St) [k : Kt St] (_ : True) : Prop := ∃ t, evOps EE LL ops s = some t ∧ k.q t
def WD (ops : List I) (acs : List Ac) (s : St) [k : Kt St] (_ : True) : Prop := ∃ t, evOpsD EE LL ops acs s = some t ∧ k.q t
def W1 (x : Option (R × St × Ac)) [k : K3] (_ : True) : Prop := ∃ r s ac, x = some (r, s, ac) ∧ k.q r s ac
def SqQ (b : C) [k : Kt Rs] (r : Rs) (_ : True) : Prop := match r with
 | .n s => @WC b s k trivial
 | .x i s => k.q (.x i s)
 | .r s => k.q (.r s)
def BkQ (n : Nat) [k : Kt Rs] (r : Rs) (_ : True) : Prop := match r with
 | .n s => k.q (.n s)
 | .x i s => if i = n then k.q (.n s) else k.q (.x i s)
 | .r s => k.q (.r s)
def CdQ (x : Option R) [A : Pr] [B : Pr] (_ : True) : Prop := match x with
 | some (.v (.b t)) => if t = true then A.p else B.p
 | _ => False
def GdQ (x : Option R) (b : Bool) [A : Pr] [B : Pr] (_ : True) : Prop := match x with
 | some (.v (.b t)) => if t = b then A.p else B.p
 | some (.v .u) => B.p
 | _ => False
def FnQ (res : List (Sum Nat (Nat × Bool × Nat))) (n : Nat) (x : D × List (List D) × Nat) (r : Rs) : Prop := fin ⟨0, res, .skip⟩ n (some r) = some x
theorem w1_some (r s ac Q) : @W1 (some (r, s, ac)) ⟨Q⟩ trivial ↔ Q r s ac := by
 unfold W1
 constructor
 ·rintro ⟨_, _, _, h, hq⟩; cases h; exact hq
 ·exact fun h => ⟨_, _, _, rfl, h⟩
theorem w1_none (Q) : @W1 none ⟨Q⟩ trivial ↔ False := by simp [W1]
theorem wc_skip (s Q) : @WC .skip s ⟨Q⟩ trivial ↔ Q (.n s) := by simp [WC, evC]
theorem wc_ret (s Q) : @WC .ret s ⟨Q⟩ trivial ↔ Q (.r s) := by simp [WC, evC]
theorem wc_exit (n s Q) : @WC (.exit n) s ⟨Q⟩ trivial ↔ Q (.x n s) := by simp [WC, evC]
theorem wc_seq (a b s Q) : @WC (.seq a b) s ⟨Q⟩ trivial ↔ @WC a s ⟨fun r => @SqQ b ⟨Q⟩ r trivial⟩ trivial := by
 unfold WC
 simp only [evC]
 constructor
 ·rintro ⟨r, h, hq⟩
  cases h1 : evC EE LL a s with
  | none => rw [h1] at h; simp [sq] at h
  | some r1 =>
   rw [h1] at h
   refine ⟨r1, rfl, ?_⟩
   cases r1 with
   | n s1 => exact ⟨r, h, hq⟩
   | x i s1 => simp [sq] at h; subst h; exact hq
   | r s1 => simp [sq] at h; subst h; exact hq
 ·rintro ⟨r1, h1, hq⟩
  rw [h1]
  cases r1 with
  | n s1 => exact hq
  | x i s1 => exact ⟨_, rfl, hq⟩
  | r s1 => exact ⟨_, rfl, hq⟩
theorem wc_blk (n a s Q) : @WC (.blk n a) s ⟨Q⟩ trivial ↔ @WC a s ⟨fun r => @BkQ n ⟨Q⟩ r trivial⟩ trivial := by
 unfold WC
 simp only [evC]
 constructor
 ·rintro ⟨r, h, hq⟩
  cases h1 : evC EE LL a s with
  | none => rw [h1] at h; simp [bk] at h
  | some r1 =>
   rw [h1] at h
   refine ⟨r1, rfl, ?_⟩
   cases r1 with
   | n s1 => simp [bk] at h; subst h; exact hq
   | r s1 => simp [bk] at h; subst h; exact hq
   | x i s1 =>
    simp only [bk] at h
    simp only [BkQ]
    split at h <;> rename_i e <;> cases h
    ·rw [if_pos e]; exact hq
    ·rw [if_neg e]; exact hq
 ·rintro ⟨r1, h1, hq⟩
  rw [h1]
  cases r1 with
  | n s1 => exact ⟨_, rfl, hq⟩
  | r s1 => exact ⟨_, rfl, hq⟩
  | x i s1 =>
   simp only [BkQ] at hq
   simp only [bk]
   split at hq <;> rename_i e
   ·exact ⟨_, by rw [if_pos e], hq⟩
   ·exact ⟨_, by rw [if_neg e], hq⟩
theorem wc_cond (x a b s Q) : @WC (.cond x a b) s ⟨Q⟩ trivial ↔ @CdQ (look x s.fr) ⟨@WC a s ⟨Q⟩ trivial⟩ ⟨@WC b s ⟨Q⟩ trivial⟩ trivial := by
 unfold WC
 simp only [evC]
 cases h : look x s.fr with
 | none => simp [CdQ]
 | some r =>
  cases r with
  | q q => simp [CdQ]
  | v d =>
   cases d <;> simp [CdQ]
   rename_i t; cases t <;> simp
theorem wc_reg (gs ops ls os s Q) : @WC (.reg gs ops false ls os) s ⟨Q⟩ trivial ↔ @WG gs s ⟨fun s => @WO ops s ⟨fun s => Q (.n { s with fr := forget (AM.Q.dead os) (keep ls s.fr), ob := keep os s.ob })⟩ trivial⟩ trivial := by
 unfold WC WG WO
 simp only [evC]
 cases h : evGs gs s with
 | none => simp
 | some t =>
  simp only [Bool.false_eq_true, if_false]
  cases h2 : evOps EE LL ops t with
  | none => simp [h2]
  | some t2 => simp [h2]
theorem wc_regd (gs ops ls os s Q) : @WC (.reg gs ops true ls os) s ⟨Q⟩ trivial ↔ @WG gs s ⟨fun s => @WD ops [] s ⟨fun s => Q (.n { s with fr := forget (AM.Q.dead os) (keep ls s.fr), ob := keep os s.ob })⟩ trivial⟩ trivial := by
 unfold WC WG WD
 simp only [evC]
 cases h : evGs gs s with
 | none => simp
 | some t =>
  simp only [if_true]
  cases h2 : evOpsD EE LL ops [] t with
  | none => simp [h2]
  | some t2 => simp [h2]
theorem wg_nil (s Q) : @WG [] s ⟨Q⟩ trivial ↔ Q s := by simp [WG, evGs]
theorem wg_cons (g gs s Q) : @WG (g :: gs) s ⟨Q⟩ trivial ↔ ∃ t, evG g s = some t ∧ @WG gs t ⟨Q⟩ trivial := by
 unfold WG
 simp only [evGs]
 cases h : evG g s with
 | none => simp
 | some t => simp
theorem wo_nil (s Q) : @WO [] s ⟨Q⟩ trivial ↔ Q s := by simp [WO, evOps]
theorem wo_cons (d op un fz r s Q) : @WO (⟨d, none, op, un, fz⟩ :: r) s ⟨Q⟩ trivial ↔ @W1 (evO LL EE.meth op s d) ⟨fun x t _ => @WO r (t.put d (fzR fz x)) ⟨Q⟩ trivial⟩ trivial := by
 cases h : evO LL EE.meth op s d with
 | none => rw [w1_none]; simp [WO, evOps, evI, wants, h]
 | some p =>
  obtain ⟨x, t, ac⟩ := p
  rw [w1_some]
  unfold WO
  simp only [evOps, evI, wants, h, Option.map_some]
theorem wo_guard (d k b op un fz r s Q) : @WO (⟨d, some (k, b), op, un, fz⟩ :: r) s ⟨Q⟩ trivial ↔ @GdQ (look k s.fr) b ⟨@W1 (evO LL EE.meth op s d) ⟨fun x t _ => @WO r (t.put d (fzR fz x)) ⟨Q⟩ trivial⟩ trivial⟩ ⟨@WO r (s.put d (.v .u)) ⟨Q⟩ trivial⟩ trivial := by
 have h0 : ∀ t : Bool, look k s.fr = some (.v (.b t)) → (@WO (⟨d, some (k, b), op, un, fz⟩ :: r) s ⟨Q⟩ trivial ↔ @WO (⟨d, none, op, un, fz⟩ :: r) s ⟨Q⟩ trivial ∧ t = b ∨ t ≠ b ∧ @WO r (s.put d (.v .u)) ⟨Q⟩ trivial) := by
  intro t ht
  unfold WO
  simp only [evOps, evI, wants, ht]
  cases t <;> cases b <;> simp
 cases hl : look k s.fr with
 | none => simp [WO, evOps, evI, wants, hl, GdQ]
 | some x =>
  cases x with
  | q q => simp [WO, evOps, evI, wants, hl, GdQ]
  | v v =>
   cases v <;> try (simp [WO, evOps, evI, wants, hl, GdQ]; done)
   rename_i t
   rw [h0 t hl, wo_cons]
   simp only [GdQ]
   cases t <;> cases b <;> simp
theorem wd_nil (acs s Q) : @WD [] acs s ⟨Q⟩ trivial ↔ Q s := by simp [WD, evOpsD]
theorem wd_cons (d op un fz r acs s Q) : @WD (⟨d, none, op, un, fz⟩ :: r) acs s ⟨Q⟩ trivial ↔ @W1 (evO LL EE.meth op s d) ⟨fun x t ac => okA un acs ac = true ∧ @WD r (acs ++ [ac]) (t.put d (fzR fz x)) ⟨Q⟩ trivial⟩ trivial := by
 cases h : evO LL EE.meth op s d with
 | none => rw [w1_none]; simp [WD, evOpsD, evI, wants, h]
 | some p =>
  obtain ⟨x, t, ac⟩ := p
  rw [w1_some]
  unfold WD
  simp only [evOpsD, evI, wants, h, Option.map_some]
  constructor
  ·rintro ⟨t', h1, h2⟩
   split at h1
   ·rename_i hk; exact ⟨hk, t', h1, h2⟩
   ·cases h1
  ·rintro ⟨hk, t2, h1, h2⟩
   exact ⟨t2, by rw [if_pos hk]; exact h1, h2⟩
theorem wd_guard (d k b op un fz r acs s Q) : @WD (⟨d, some (k, b), op, un, fz⟩ :: r) acs s ⟨Q⟩ trivial ↔ @GdQ (look k s.fr) b ⟨@W1 (evO LL EE.meth op s d) ⟨fun x t ac => okA un acs ac = true ∧ @WD r (acs ++ [ac]) (t.put d (fzR fz x)) ⟨Q⟩ trivial⟩ trivial⟩ ⟨okA un acs .no = true ∧ @WD r (acs ++ [.no]) (s.put d (.v .u)) ⟨Q⟩ trivial⟩ trivial := by
 have hu : @WD (⟨d, none, .mv (.c .u), un, 0⟩ :: r) acs s ⟨Q⟩ trivial ↔ (okA un acs .no = true ∧ @WD r (acs ++ [.no]) (s.put d (.v .u)) ⟨Q⟩ trivial) := by
  rw [wd_cons]
  simp only [evO, rx, Option.map_some, R.ac, w1_some, fzR]
 have h0 : ∀ t : Bool, look k s.fr = some (.v (.b t)) → (@WD (⟨d, some (k, b), op, un, fz⟩ :: r) acs s ⟨Q⟩ trivial ↔ @WD (⟨d, none, op, un, fz⟩ :: r) acs s ⟨Q⟩ trivial ∧ t = b ∨ t ≠ b ∧ @WD (⟨d, none, .mv (.c .u), un, 0⟩ :: r) acs s ⟨Q⟩ trivial) := by
  intro t ht
  unfold WD
  simp only [evOpsD, evI, wants, ht, evO, rx, Option.map_some, R.ac, fzR]
  cases t <;> cases b <;> simp
 cases hl : look k s.fr with
 | none => simp [WD, evOpsD, evI, wants, hl, GdQ]
 | some x =>
  cases x with
  | q q => simp [WD, evOpsD, evI, wants, hl, GdQ]
  | v v =>
   cases v <;> try (simp [WD, evOpsD, evI, wants, hl, GdQ]; done)
   ·rename_i t
    rw [h0 t hl, hu, wd_cons]
    simp only [GdQ]
    cases t <;> cases b <;> simp
   ·have : @WD (⟨d, some (k, b), op, un, fz⟩ :: r) acs s ⟨Q⟩ trivial ↔ @WD (⟨d, none, .mv (.c .u), un, 0⟩ :: r) acs s ⟨Q⟩ trivial := by
     unfold WD
     simp only [evOpsD, evI, wants, hl, evO, rx, Option.map_some, R.ac, fzR]
    rw [this, hu]
    simp [GdQ]
theorem gd_u (b A B) : @GdQ (some (.v .u)) b ⟨A⟩ ⟨B⟩ trivial ↔ B := Iff.rfl
theorem sq_n (b Q s) : @SqQ b ⟨Q⟩ (.n s) trivial ↔ @WC b s ⟨Q⟩ trivial := Iff.rfl
theorem sq_x (b Q i s) : @SqQ b ⟨Q⟩ (.x i s) trivial ↔ Q (.x i s) := Iff.rfl
theorem sq_r (b Q s) : @SqQ b ⟨Q⟩ (.r s) trivial ↔ Q (.r s) := Iff.rfl
theorem bk_n (n Q s) : @BkQ n ⟨Q⟩ (.n s) trivial ↔ Q (.n s) := Iff.rfl
theorem bk_x (n Q i s) : @BkQ n ⟨Q⟩ (.x i s) trivial ↔ if i = n then Q (.n s) else Q (.x i s) := Iff.rfl
theorem bk_r (n Q s) : @BkQ n ⟨Q⟩ (.r s) trivial ↔ Q (.r s) := Iff.rfl
theorem wp_call {f : FuncId} {F : F} {ds : List D} {sg : List (List D)} {x : D × List (List D) × Nat} (hF : EE.fn f = some F) (hn : ds.length = F.np)
    (h : @WC F.body ⟨ini 0 ds, [], sg, sg.length⟩ ⟨fun r => FnQ F.res sg.length x r⟩ trivial) (hq : decide (f < Q0) = true := by exact rfl) : LL.call f ds sg sg.length = some x := by
 obtain ⟨r, h1, h2⟩ := h
 refine call_of ?_
 unfold stepCall
 simp only [hF, if_pos hn]
 rw [iniF_lt (of_decide_eq_true hq)]
 simp only
 rw [h1]; exact h2
theorem wp_callq {f : FuncId} {F : F} {r off : Nat} {d0 : D} {cs ds : List D} {sg : List (List D)} {x : D × List (List D) × Nat} (hF : EE.fn f = some F) (hn : ds.length + 1 = F.np) (hcs : sg[r]? = some cs) (hd : cs[off]? = some d0)
    (h : @WC F.body ⟨(0, .q (.hd (.gb r off))) :: ini 1 ds, [], sg, sg.length⟩ ⟨fun r => FnQ F.res sg.length x r⟩ trivial) (hq : decide (f < Q0) = false := by exact rfl) : LL.call f (.p r off :: ds) sg sg.length = some x := by
 obtain ⟨r1, h1, h2⟩ := h
 refine call_of ?_
 unfold stepCall
 have hn' : (D.p r off :: ds).length = F.np := by simpa using hn
 simp only [hF, if_pos hn']
 rw [iniF_q (of_decide_eq_false hq) hcs hd]
 simp only
 rw [h1]; exact h2
theorem wc_loop {c s Q} (h : @WC c s ⟨fun r => @SqQ (.loop c) ⟨Q⟩ r trivial⟩ trivial) : @WC (.loop c) s ⟨Q⟩ trivial := by
 obtain ⟨r1, h1, h2⟩ := h
 cases r1 with
 | n s1 =>
  obtain ⟨r, h3, h4⟩ := h2
  refine ⟨r, ?_, h4⟩
  simp only [evC] at h3 ⊢
  refine loop_of ?_
  unfold stepLoop
  rw [h1]; exact h3
 | x i s1 =>
  refine ⟨.x i s1, ?_, h2⟩
  simp only [evC]
  refine loop_of ?_
  unfold stepLoop
  rw [h1]; rfl
 | r s1 =>
  refine ⟨.r s1, ?_, h2⟩
  simp only [evC]
  refine loop_of ?_
  unfold stepLoop
  rw [h1]; rfl
end Go.AM

namespace Go.AM
def O1 {α : Type} (o : Option α) [k : Kt α] (_ : True) : Prop := ∃ a, o = some a ∧ k.q a
theorem o1_some {α : Type} (a : α) (Q) : @O1 _ (some a) ⟨Q⟩ trivial ↔ Q a := by simp [O1]
theorem o1_none {α : Type} (Q : α → Prop) : @O1 _ none ⟨Q⟩ trivial ↔ False := by simp [O1]
theorem o1_map {α β : Type} (o : Option α) (f : α → β) (Q) : @O1 _ (o.map f) ⟨Q⟩ trivial ↔ @O1 _ o ⟨fun a => Q (f a)⟩ trivial := by cases o <;> simp [O1]
theorem o1_if_none {α : Type} (c : Prop) [Decidable c] (o : Option α) (Q) : @O1 _ (if c then none else o) ⟨Q⟩ trivial ↔ ¬ c ∧ @O1 _ o ⟨Q⟩ trivial := by by_cases h : c <;> simp [h, O1]
theorem o1_if {α : Type} (c : Prop) [Decidable c] (o : Option α) (Q) : @O1 _ (if c then o else none) ⟨Q⟩ trivial ↔ c ∧ @O1 _ o ⟨Q⟩ trivial := by by_cases h : c <;> simp [h, O1]
theorem o1_ite {α : Type} (c : Prop) [Decidable c] (a b : α) (Q) : @O1 _ (if c then some a else some b) ⟨Q⟩ trivial ↔ Q (if c then a else b) := by by_cases h : c <;> simp [h, O1]
section
variable (OO : Or) (m : TypeId → String → Option FuncId) (s : St) (d : Option Nat) (Q : R → St → Ac → Prop)
theorem w1_map {α : Type} (o : Option α) (f : α → R × St × Ac) : @W1 (o.map f) ⟨Q⟩ trivial ↔ @O1 _ o ⟨fun a => Q (f a).1 (f a).2.1 (f a).2.2⟩ trivial := by
 cases o with
 | none => simp [W1, O1]
 | some a => rw [Option.map_some, o1_some]; exact w1_some _ _ _ _
theorem w1_o1 (o : Option (R × St × Ac)) : @W1 o ⟨Q⟩ trivial ↔ @O1 _ o ⟨fun p => Q p.1 p.2.1 p.2.2⟩ trivial := by
 cases o with
 | none => simp [W1, O1]
 | some a => obtain ⟨x, t, ac⟩ := a; rw [w1_some, o1_some]
theorem w_mv (x : X) : @W1 (evO OO m (.mv x) s d) ⟨Q⟩ trivial ↔ @O1 _ (rx x s) ⟨fun p => Q p.1 p.2 p.1.ac⟩ trivial := by simp only [evO]; rw [w1_map]
theorem w_bin (op : BinOp) (x y : X) : @W1 (evO OO m (.bin op x y) s d) ⟨Q⟩ trivial ↔ @O1 _ (rxv x s) ⟨fun p => @O1 _ (rxv y p.2) ⟨fun q => @O1 _ (binv op p.1 q.1) ⟨fun r => Q (.v r) q.2 .no⟩ trivial⟩ trivial⟩ trivial := by
 simp only [evO]
 cases rxv x s with
 | none => simp [w1_none, o1_none]
 | some p =>
  obtain ⟨a, s1⟩ := p
  simp only [o1_some]
  cases rxv y s1 with
  | none => simp [w1_none, o1_none]
  | some q => obtain ⟨b, s2⟩ := q; simp only [o1_some]; rw [w1_map]
theorem w_eq (neg : Bool) (c : Ec) (x y : X) : @W1 (evO OO m (.eq neg c x y) s d) ⟨Q⟩ trivial ↔ @O1 _ (rxv x s) ⟨fun p => @O1 _ (rxv y p.2) ⟨fun q => @O1 _ (eq1 c p.1 q.1) ⟨fun t => Q (.v (.b (if neg then !t else t))) q.2 .no⟩ trivial⟩ trivial⟩ trivial := by
 simp only [evO]
 cases rxv x s with
 | none => simp [w1_none, o1_none]
 | some p =>
  obtain ⟨a, s1⟩ := p
  simp only [o1_some]
  cases rxv y s1 with
  | none => simp [w1_none, o1_none]
  | some q => obtain ⟨b, s2⟩ := q; simp only [o1_some]; rw [w1_map]
theorem w_un (op : UnOp) (x : X) : @W1 (evO OO m (.un op x) s d) ⟨Q⟩ trivial ↔ @O1 _ (rxv x s) ⟨fun p => @O1 _ (unv op p.1) ⟨fun r => Q (.v r) p.2 .no⟩ trivial⟩ trivial := by
 simp only [evO]
 cases rxv x s with
 | none => simp [w1_none, o1_none]
 | some p => obtain ⟨a, s1⟩ := p; simp only [o1_some]; rw [w1_map]
theorem w_cv (c : Cv) (x : X) : @W1 (evO OO m (.cv c x) s d) ⟨Q⟩ trivial ↔ @O1 _ (rxv x s) ⟨fun p => @O1 _ (cvv c p.1) ⟨fun r => Q (.v r) p.2 .no⟩ trivial⟩ trivial := by
 simp only [evO]
 cases rxv x s with
 | none => simp [w1_none, o1_none]
 | some p => obtain ⟨a, s1⟩ := p; simp only [o1_some]; rw [w1_map]
theorem w_ia (sz : Nat) (len : Option Nat) (x y : X) : @W1 (evO OO m (.ia sz len x y) s d) ⟨Q⟩ trivial ↔ @O1 _ (rx x s) ⟨fun p => @O1 _ (rxv y p.2) ⟨fun q => match q.1 with | .i _ n => @O1 _ (iav q.2 sz len p.1.fz n) ⟨fun r => Q r.1 q.2 r.2⟩ trivial | _ => False⟩ trivial⟩ trivial := by
 simp only [evO]
 cases rx x s with
 | none => simp [w1_none, o1_none]
 | some p =>
  obtain ⟨a, s1⟩ := p
  simp only [o1_some]
  cases h2 : rxv y s1 with
  | none => simp [w1_none, o1_none, h2]
  | some q =>
   obtain ⟨b, s2⟩ := q
   simp only [o1_some, h2]
   cases b <;> first | rw [w1_none] | skip
   simp only
   rw [w1_map]
theorem o1_iav_l (sz : Nat) (k : K) (sz' : Nat) (xs : List D) (n : Int) (Q : R × Ac → Prop) : @O1 _ (iav s sz none (.v (.l k sz' xs)) n) ⟨Q⟩ trivial ↔ 0 ≤ n ∧ (sz' = sz ∧ k ≠ .x) ∧ @O1 _ xs[n.toNat]? ⟨fun d => Q (.v (.q d.cells 0), .no)⟩ trivial := by
 unfold iav
 by_cases hn : n < 0
 ·simp [hn, o1_none]; omega
 ·rw [if_neg hn]
  simp only
  by_cases hc : sz' = sz ∧ k ≠ .x
  ·rw [if_pos hc]
   cases h : xs[n.toNat]? with
   | none => simp [o1_none]
   | some d => simp [o1_some, hc]; omega
  ·rw [if_neg hc]
   simp only [o1_none, hc, false_and, and_false]
theorem o1_iav_hd (sz : Nat) (pl : Pl) (n : Int) (sz' : Nat) (xs : List D) (h : s.at pl = some (.l .x sz' xs)) (Q : R × Ac → Prop) : @O1 _ (iav s sz none (.q (.hd pl)) n) ⟨Q⟩ trivial ↔ 0 ≤ n ∧ (sz' = sz ∧ n.toNat < xs.length) ∧ Q (.q (.el pl n.toNat 0), pl.rb) := by
 unfold iav
 by_cases hn : n < 0
 ·simp [hn, o1_none]; omega
 ·rw [if_neg hn]
  simp only [hpl, h]
  by_cases hc : sz' = sz ∧ n.toNat < xs.length
  ·rw [if_pos hc, o1_some, hd_ac]; simp [hc]; omega
  ·rw [if_neg hc, o1_none]; simp only [hc, false_and, and_false]
def AtQ (x : Option D) [k : Kt (Nat × List D)] (_ : True) : Prop := ∃ sz xs, x = some (.l .x sz xs) ∧ k.q (sz, xs)
theorem at_some (sz : Nat) (xs : List D) (Q) : @AtQ (some (.l .x sz xs)) ⟨Q⟩ trivial ↔ Q (sz, xs) := by
 constructor
 ·rintro ⟨_, _, h, hq⟩; cases h; exact hq
 ·exact fun h => ⟨_, _, rfl, h⟩
theorem o1_iav_hd' (sz : Nat) (pl : Pl) (n : Int) (Q : R × Ac → Prop) : @O1 _ (iav s sz none (.q (.hd pl)) n) ⟨Q⟩ trivial ↔ 0 ≤ n ∧ @AtQ (s.at pl) ⟨fun a => (a.1 = sz ∧ n.toNat < a.2.length) ∧ Q (.q (.el pl n.toNat 0), pl.rb)⟩ trivial := by
 constructor
 ·intro h
  unfold iav at h
  by_cases hn : n < 0
  ·simp [hn, o1_none] at h
  ·rw [if_neg hn] at h
   simp only [hpl] at h
   split at h
   ·rename_i sz' xs he
    have h' : @O1 _ (iav s sz none (.q (.hd pl)) n) ⟨Q⟩ trivial := by
     unfold iav; rw [if_neg hn]; simp only [hpl, he]; exact h
    rw [o1_iav_hd s sz pl n sz' xs he] at h'
    exact ⟨h'.1, sz', xs, he, h'.2⟩
   ·simp [o1_none] at h
 ·rintro ⟨h0, sz', xs, he, h⟩
  exact (o1_iav_hd s sz pl n sz' xs he Q).2 ⟨h0, h⟩
theorem o1_iav_hdr (sz : Nat) (k : Nat) (n : Int) (sz' : Nat) (xs : List D) (h : s.at (.ob k 0) = some (.l .x sz' xs)) (Q : R × Ac → Prop) : @O1 _ (iav s sz none (.q (.hdr k)) n) ⟨Q⟩ trivial ↔ 0 ≤ n ∧ (sz' = sz ∧ n.toNat < xs.length) ∧ Q (.q (.el (.ob k 0) n.toNat 0), .rb k) := by
 unfold iav
 by_cases hn : n < 0
 ·simp [hn, o1_none]; omega
 ·rw [if_neg hn]
  simp only [hpl, h]
  by_cases hc : sz' = sz ∧ n.toNat < xs.length
  ·rw [if_pos hc, o1_some]; simp [hc]; omega
  ·rw [if_neg hc, o1_none]; simp only [hc, false_and, and_false]
theorem o1_iav_hdr' (sz : Nat) (k : Nat) (n : Int) (Q : R × Ac → Prop) : @O1 _ (iav s sz none (.q (.hdr k)) n) ⟨Q⟩ trivial ↔ 0 ≤ n ∧ @AtQ (s.at (.ob k 0)) ⟨fun a => (a.1 = sz ∧ n.toNat < a.2.length) ∧ Q (.q (.el (.ob k 0) n.toNat 0), .rb k)⟩ trivial := by
 constructor
 ·intro h
  unfold iav at h
  by_cases hn : n < 0
  ·simp [hn, o1_none] at h
  ·rw [if_neg hn] at h
   simp only [hpl] at h
   split at h
   ·rename_i sz' xs he
    have h' : @O1 _ (iav s sz none (.q (.hdr k)) n) ⟨Q⟩ trivial := by
     unfold iav; rw [if_neg hn]; simp only [hpl, he]; exact h
    rw [o1_iav_hdr s sz k n sz' xs he] at h'
    exact ⟨h'.1, sz', xs, he, h'.2⟩
   ·simp [o1_none] at h
 ·rintro ⟨h0, sz', xs, he, h⟩
  exact (o1_iav_hdr s sz k n sz' xs he Q).2 ⟨h0, h⟩
theorem w_sl (sz : Nat) (x : X) (lo hi mx : Option X) : @W1 (evO OO m (.sl sz x lo hi mx) s d) ⟨Q⟩ trivial ↔ @O1 _ (rxv x s) ⟨fun p => @O1 _ (evO.rxo lo p.2) ⟨fun l => @O1 _ (evO.rxo hi l.2) ⟨fun h => @O1 _ (evO.rxo mx h.2) ⟨fun m => @O1 _ (slv sz p.1 l.1 h.1 m.1) ⟨fun r => Q (.v r) m.2 .no⟩ trivial⟩ trivial⟩ trivial⟩ trivial⟩ trivial := by
 simp only [evO]
 cases rxv x s with
 | none => simp [w1_none, o1_none]
 | some p =>
  obtain ⟨a, s1⟩ := p
  simp only [o1_some]
  cases evO.rxo lo s1 with
  | none => simp [w1_none, o1_none]
  | some q =>
   obtain ⟨l, s2⟩ := q
   simp only [o1_some]
   cases evO.rxo hi s2 with
   | none => simp [w1_none, o1_none]
   | some q =>
    obtain ⟨h, s3⟩ := q
    simp only [o1_some]
    cases evO.rxo mx s3 with
    | none => simp [w1_none, o1_none]
    | some q => obtain ⟨mm, s4⟩ := q; simp only [o1_some]; rw [w1_map]
theorem w_ss (x : X) (lo hi : Option X) : @W1 (evO OO m (.ss x lo hi) s d) ⟨Q⟩ trivial ↔ @O1 _ (rxv x s) ⟨fun p => @O1 _ (evO.rxo lo p.2) ⟨fun l => @O1 _ (evO.rxo hi l.2) ⟨fun h => @O1 _ (ssv p.1 l.1 h.1) ⟨fun r => Q (.v r) h.2 .no⟩ trivial⟩ trivial⟩ trivial⟩ trivial := by
 simp only [evO]
 cases rxv x s with
 | none => simp [w1_none, o1_none]
 | some p =>
  obtain ⟨a, s1⟩ := p
  simp only [o1_some]
  cases evO.rxo lo s1 with
  | none => simp [w1_none, o1_none]
  | some q =>
   obtain ⟨l, s2⟩ := q
   simp only [o1_some]
   cases evO.rxo hi s2 with
   | none => simp [w1_none, o1_none]
   | some q => obtain ⟨h, s3⟩ := q; simp only [o1_some]; rw [w1_map]
theorem rxo_none (s : St) : evO.rxo none s = some (none, s) := rfl
theorem rxo_some (x : X) (s : St) : evO.rxo (some x) s = (rxv x s).map fun p => (some p.1, p.2) := rfl
def BdQ (o : Option D) (dflt top : Nat) [k : Kt Nat] (_ : True) : Prop := @O1 _ (bnd o dflt top) k trivial
theorem bd_none (dflt top Q) : @BdQ none dflt top ⟨Q⟩ trivial ↔ Q dflt := by simp [BdQ, bnd, o1_some]
theorem bd_some (k n dflt top Q) : @BdQ (some (.i k n)) dflt top ⟨Q⟩ trivial ↔ (0 ≤ n ∧ n ≤ top) ∧ Q n.toNat := by simp only [BdQ, bnd, o1_if, o1_some]
theorem o1_ssv (v : ByteArray) (lo hi : Option D) (Q : D → Prop) : @O1 _ (ssv (.s v) lo hi) ⟨Q⟩ trivial ↔ @BdQ hi v.size v.size ⟨fun h => @BdQ lo 0 h ⟨fun l => Q (.s (v.extract l h))⟩ trivial⟩ trivial := by
 unfold ssv BdQ
 simp only
 cases bnd hi v.size v.size with
 | none => simp [o1_none]
 | some h =>
  simp only [o1_some]
  cases bnd lo 0 h with
  | none => simp [o1_none]
  | some l => simp [o1_some]
theorem o1_slv2 (sz : Nat) (k : K) (sz' : Nat) (xs : List D) (lo hi : Option D) (Q : D → Prop) : @O1 _ (slv sz (.l k sz' xs) lo hi none) ⟨Q⟩ trivial ↔ sz' = sz ∧ @BdQ hi xs.length xs.length ⟨fun h => @BdQ lo 0 h ⟨fun l => Q (.l (slk k hi.isNone lo.isNone) sz ((xs.take h).drop l))⟩ trivial⟩ trivial := by
 unfold slv BdQ
 simp only [o1_if]
 cases bnd hi xs.length xs.length with
 | none => simp [o1_none]
 | some h =>
  simp only [o1_some]
  cases bnd lo 0 h with
  | none => simp [o1_none]
  | some l => simp [o1_some]
theorem o1_slv3 (sz : Nat) (k : K) (sz' : Nat) (xs : List D) (lo : Option D) (h m : D) (Q : D → Prop) : @O1 _ (slv sz (.l k sz' xs) lo (some h) (some m)) ⟨Q⟩ trivial ↔ sz' = sz ∧ @BdQ (some m) 0 xs.length ⟨fun m => @BdQ (some h) 0 m ⟨fun h => h = m ∧ @BdQ lo 0 h ⟨fun l => k ≠ .x ∧ Q (.l .n sz ((xs.take h).drop l))⟩ trivial⟩ trivial⟩ trivial := by
 unfold slv BdQ
 simp only [o1_if]
 cases bnd (some m) 0 xs.length with
 | none => simp [o1_none]
 | some m =>
  simp only [o1_some]
  cases bnd (some h) 0 m with
  | none => simp [o1_none]
  | some h =>
   simp only [o1_some, o1_if]
   cases bnd lo 0 h with
   | none => simp [o1_none]
   | some l => cases k <;> simp [o1_some, o1_none]
theorem w_ixs (x y : X) : @W1 (evO OO m (.ixs x y) s d) ⟨Q⟩ trivial ↔ @O1 _ (rxv x s) ⟨fun p => @O1 _ (rxv y p.2) ⟨fun q => match p.1, q.1 with | .s v, .i _ n => 0 ≤ n ∧ @O1 _ v.data.toList[n.toNat]? ⟨fun c => Q (.v (.i .u8 c.toNat)) q.2 .no⟩ trivial | _, _ => False⟩ trivial⟩ trivial := by
 simp only [evO]
 cases rxv x s with
 | none => simp [w1_none, o1_none]
 | some p =>
  obtain ⟨a, s1⟩ := p
  simp only [o1_some]
  cases h2 : rxv y s1 with
  | none => cases a <;> simp [w1_none, o1_none, h2]
  | some q =>
   obtain ⟨b, s2⟩ := q
   simp only [o1_some]
   cases a <;> simp only [h2, w1_none]
   cases b <;> simp only [w1_none]
   rename_i v k n
   by_cases hn : 0 ≤ n
   ·rw [if_pos hn]
    cases v.data.toList[n.toNat]? with
    | none => simp [w1_none, o1_none]
    | some c => simp [w1_some, o1_some, hn]
   ·rw [if_neg hn]; simp [w1_none, hn]
theorem w_ixa (agg : Bool) (sz len : Nat) (x y : X) : @W1 (evO OO m (.ixa agg sz len x y) s d) ⟨Q⟩ trivial ↔ @O1 _ (rxv x s) ⟨fun p => @O1 _ (rxv y p.2) ⟨fun q => match p.1, q.1 with | .a cs, .i _ n => (0 ≤ n ∧ n < len) ∧ @O1 _ (sub cs (n.toNat * sz) sz) ⟨fun ds => @O1 _ (ofc agg ds) ⟨fun r => Q (.v r) q.2 .no⟩ trivial⟩ trivial | _, _ => False⟩ trivial⟩ trivial := by
 simp only [evO]
 cases rxv x s with
 | none => simp [w1_none, o1_none]
 | some p =>
  obtain ⟨a, s1⟩ := p
  simp only [o1_some]
  cases h2 : rxv y s1 with
  | none => cases a <;> simp [w1_none, o1_none, h2]
  | some q =>
   obtain ⟨b, s2⟩ := q
   simp only [o1_some]
   cases a <;> simp only [h2, w1_none]
   cases b <;> simp only [w1_none]
   rename_i cs k n
   by_cases hn : 0 ≤ n ∧ n < len
   ·rw [if_pos hn]
    cases sub cs (n.toNat * sz) sz with
    | none => simp [w1_none, o1_none]
    | some c => simp only [o1_some, w1_map, hn, true_and]
   ·rw [if_neg hn]; simp only [w1_none, hn, false_and]
theorem w_app (sz bytes : Nat) (x y : X) : @W1 (evO OO m (.app sz bytes x y) s d) ⟨Q⟩ trivial ↔ @O1 _ (rxv x s) ⟨fun p => @O1 _ (rx y p.2) ⟨fun q => @O1 _ (elems q.2 q.1) ⟨fun e => e.1 = sz ∧ @O1 _ (appv sz bytes p.1 e.2) ⟨fun r => Q (.v r) q.2 q.1.acE⟩ trivial⟩ trivial⟩ trivial⟩ trivial := by
 simp only [evO]
 cases rxv x s with
 | none => simp [w1_none, o1_none]
 | some p =>
  obtain ⟨a, s1⟩ := p
  simp only [o1_some]
  cases h2 : rx y s1 with
  | none => simp [w1_none, o1_none, h2]
  | some q =>
   obtain ⟨b, s2⟩ := q
   simp only [o1_some, h2]
   cases elems s2 b with
   | none => simp [w1_none, o1_none]
   | some e =>
    obtain ⟨sz', ys⟩ := e
    simp only [o1_some]
    by_cases hz : sz' = sz
    ·rw [if_pos hz]; simp only [hz, true_and]; rw [w1_map]
    ·rw [if_neg hz]; simp [w1_none, hz]
theorem w_apps (x y : X) : @W1 (evO OO m (.apps x y) s d) ⟨Q⟩ trivial ↔ @O1 _ (rxv x s) ⟨fun p => @O1 _ (rxv y p.2) ⟨fun q => match q.1 with | .s v => @O1 _ (appv 1 1 p.1 (ofBy v)) ⟨fun r => Q (.v r) q.2 .no⟩ trivial | _ => False⟩ trivial⟩ trivial := by
 simp only [evO]
 cases rxv x s with
 | none => simp [w1_none, o1_none]
 | some p =>
  obtain ⟨a, s1⟩ := p
  simp only [o1_some]
  cases h2 : rxv y s1 with
  | none => simp [w1_none, o1_none, h2]
  | some q =>
   obtain ⟨b, s2⟩ := q
   simp only [o1_some, h2]
   cases b <;> first | rw [w1_none] | skip
   simp only
   rw [w1_map]
theorem o1_app_x (sz bytes sz' : Nat) (xs ys : List D) (Q : D → Prop) : @O1 _ (appv sz bytes (.l .x sz' xs) ys) ⟨Q⟩ trivial ↔ (sz' = sz ∧ (xs.length + ys.length) * bytes ≤ 140737488355328) ∧ Q (.l .x sz (xs ++ ys)) := by
 unfold appv; simp only [o1_if, o1_some]
theorem o1_app_o (sz bytes sz' : Nat) (xs ys : List D) (Q : D → Prop) : @O1 _ (appv sz bytes (.l .o sz' xs) ys) ⟨Q⟩ trivial ↔ (sz' = sz ∧ (xs.length + ys.length) * bytes ≤ 140737488355328) ∧ Q (.l .o sz (xs ++ D.fzs ys)) := by
 unfold appv; simp only [o1_if, o1_some]
theorem o1_app_n (sz bytes sz' : Nat) (xs ys : List D) (Q : D → Prop) : @O1 _ (appv sz bytes (.l .n sz' xs) ys) ⟨Q⟩ trivial ↔ (sz' = sz ∧ (xs.length + ys.length) * bytes ≤ 140737488355328) ∧ Q (if ys.length = 0 then .l .n sz xs else .l .x sz (xs ++ ys)) := by
 unfold appv; simp only [o1_if]; by_cases h : ys.length = 0 <;> simp [h, o1_some]
theorem w_ms (sz bytes : Nat) (z : D) (x y : X) : @W1 (evO OO m (.ms sz bytes z x y) s d) ⟨Q⟩ trivial ↔ @O1 _ (rxv x s) ⟨fun p => @O1 _ (rxv y p.2) ⟨fun q => match p.1, q.1 with | .i .i64 n, .i .i64 c => (0 ≤ n ∧ n ≤ c ∧ c ≤ 9223372036854775807 ∧ c.toNat * bytes ≤ 140737488355328) ∧ Q (.v (.l .x sz (List.replicate n.toNat z))) q.2 .no | _, _ => False⟩ trivial⟩ trivial := by
 simp only [evO]
 cases rxv x s with
 | none => simp [w1_none, o1_none]
 | some p =>
  obtain ⟨a, s1⟩ := p
  simp only [o1_some]
  cases h2 : rxv y s1 with
  | none => cases a <;> simp [w1_none, o1_none, h2]; rename_i k _; cases k <;> simp [w1_none, h2]
  | some q =>
   obtain ⟨b, s2⟩ := q
   simp only [o1_some]
   cases a <;> (try simp only [h2, w1_none])
   rename_i k n
   cases k <;> (try simp only [h2, w1_none])
   cases b <;> (try simp only [w1_none])
   rename_i k c
   cases k <;> (try simp only [w1_none])
   split
   ·rename_i h; simp [w1_some, h]
   ·rename_i h; rw [w1_none]; simp only [h, false_and]
theorem w_call (f : FuncId) (xs : List X) : @W1 (evO OO m (.call f xs) s d) ⟨Q⟩ trivial ↔ @O1 _ (rxs xs s) ⟨fun p => @O1 _ (OO.call f p.1 p.2.sg p.2.sg.length) ⟨fun r => Q (.v r.1) { p.2 with sg := r.2.1, lo := min p.2.lo r.2.2, fr := forget AM.Q.gl p.2.fr } (.cl (D.beqs (r.2.1.map .t) (p.2.sg.map .t) && decide (p.2.lo ≤ r.2.2)))⟩ trivial⟩ trivial := by
 simp only [evO]
 cases rxs xs s with
 | none => simp [w1_none, o1_none]
 | some p =>
  obtain ⟨ds, s1⟩ := p
  simp only [o1_some]
  rw [w1_map]
theorem w_callv (x : X) (xs : List X) : @W1 (evO OO m (.callv x xs) s d) ⟨Q⟩ trivial ↔ @O1 _ (rxv x s) ⟨fun q => match q.1 with
    | .fn f cs => @O1 _ (rxs xs q.2) ⟨fun p => @O1 _ (OO.call f (p.1 ++ cs) p.2.sg p.2.sg.length) ⟨fun r => Q (.v r.1) { p.2 with sg := r.2.1, lo := min p.2.lo r.2.2, fr := forget AM.Q.gl p.2.fr } (.cl (D.beqs (r.2.1.map .t) (p.2.sg.map .t) && decide (p.2.lo ≤ r.2.2)))⟩ trivial⟩ trivial
    | _ => False⟩ trivial := by
 simp only [evO]
 cases rxv x s with
 | none => simp [w1_none, o1_none]
 | some q =>
  obtain ⟨a, s1⟩ := q
  simp only [o1_some]
  cases a <;> simp only [w1_none]
  rename_i f cs
  cases rxs xs s1 with
  | none => simp [w1_none, o1_none]
  | some p =>
   obtain ⟨ds, s1⟩ := p
   simp only [o1_some]
   rw [w1_map]
theorem w_ex (tk : Bool) (n k : Nat) : @W1 (evO OO m (.ex tk n k) s d) ⟨Q⟩ trivial ↔ (match look k s.fr with
    | some (.v (.t ds)) => @O1 _ ds[n]? ⟨fun e => if tk = true then Q (.v e) { s with fr := (k, .v (.t (ds.set n .w))) :: s.fr } .no else @O1 _ e.cp ⟨fun e => Q (.v e) s .no⟩ trivial⟩ trivial
    | _ => False) := by
 simp only [evO]
 cases look k s.fr with
 | none => simp [w1_none]
 | some r =>
  cases r with
  | q x => simp [w1_none]
  | v a =>
   cases a <;> simp only [w1_none]
   rename_i ds
   cases ds[n]? with
   | none => simp [w1_none, o1_none]
   | some e =>
    simp only [o1_some]
    cases tk
    ·simp only [Bool.false_eq_true, if_false]; rw [w1_map]
    ·simp only [if_true, w1_some]
theorem w_len (str : Bool) (x : X) : @W1 (evO OO m (.len str x) s d) ⟨Q⟩ trivial ↔ @O1 _ (rx x s) ⟨fun p => @O1 _ (lenv p.2 str p.1) ⟨fun r => Q (.v (.i .i64 r.1)) p.2 r.2⟩ trivial⟩ trivial := by
 simp only [evO]
 cases rx x s with
 | none => simp [w1_none, o1_none]
 | some p => obtain ⟨a, s1⟩ := p; simp only [o1_some]; rw [w1_map]
theorem w_mx (big : Bool) (xs : List X) : @W1 (evO OO m (.mx big xs) s d) ⟨Q⟩ trivial ↔ @O1 _ (rxs xs s) ⟨fun p => match p.1 with | .i k m :: ds => @O1 _ (mxv big m ds k) ⟨fun r => Q (.v r) p.2 .no⟩ trivial | _ => False⟩ trivial := by
 simp only [evO]
 cases rxs xs s with
 | none => simp [w1_none, o1_none]
 | some p =>
  obtain ⟨ds, s1⟩ := p
  simp only [o1_some]
  cases ds with
  | nil => simp [w1_none]
  | cons d0 ds => cases d0 <;> simp only [w1_none]; rw [w1_map]
theorem w_ld (agg : Bool) (n : Nat) (md : M) (x : X) : @W1 (evO OO m (.ld agg n md x) s d) ⟨Q⟩ trivial ↔ @O1 _ (rx x s) ⟨fun p => @O1 _ (ldp p.2 agg n md p.1) ⟨fun r => Q r.1 r.2.1 r.2.2⟩ trivial⟩ trivial := by
 simp only [evO]
 cases rx x s with
 | none => simp [w1_none, o1_none]
 | some p => obtain ⟨a, s1⟩ := p; simp only [o1_some]; rw [w1_o1]
theorem w_lda (n : Nat) (x : X) : @W1 (evO OO m (.lda n x) s d) ⟨Q⟩ trivial ↔ @O1 _ (rx x s) ⟨fun p => @O1 _ (ldp p.2 false n (auM p.2 p.1) p.1) ⟨fun r => Q r.1 r.2.1 r.2.2⟩ trivial⟩ trivial := by
 simp only [evO]
 cases rx x s with
 | none => simp [w1_none, o1_none]
 | some p => obtain ⟨a, s1⟩ := p; simp only [o1_some]; rw [w1_o1]
theorem w_st (n : Nat) (x y : X) : @W1 (evO OO m (.st n x y) s d) ⟨Q⟩ trivial ↔ @O1 _ (rx x s) ⟨fun p => @O1 _ (rxv y p.2) ⟨fun q => stb q.1 = true ∧ @O1 _ (stp q.2 n p.1 q.1) ⟨fun r => Q (.v .u) r.1 r.2⟩ trivial⟩ trivial⟩ trivial := by
 simp only [evO]
 cases rx x s with
 | none => simp [w1_none, o1_none]
 | some p =>
  obtain ⟨a, s1⟩ := p
  simp only [o1_some]
  cases h2 : rxv y s1 with
  | none => simp [w1_none, o1_none, h2]
  | some q =>
   obtain ⟨b, s2⟩ := q
   simp only [o1_some, h2]
   by_cases hb : stb b = true
   ·rw [if_pos hb, w1_map]; simp [hb]
   ·rw [if_neg hb]; simp [w1_none, hb]
theorem w_pick (c a b : X) : @W1 (evO OO m (.pick c a b) s d) ⟨Q⟩ trivial ↔ @O1 _ (rxv c s) ⟨fun p => match p.1 with | .b t => if t = true then @O1 _ (rxv a p.2) ⟨fun q => Q (.v q.1) q.2 .no⟩ trivial else @O1 _ (rxv b p.2) ⟨fun q => Q (.v q.1) q.2 .no⟩ trivial | _ => False⟩ trivial := by
 simp only [evO]
 cases rxv c s with
 | none => simp [w1_none, o1_none]
 | some p =>
  obtain ⟨x, s1⟩ := p
  simp only [o1_some]
  cases x <;> simp only [w1_none]
  rename_i t
  cases t
  ·simp only [Bool.false_eq_true, if_false]; rw [w1_map]
  ·simp only [if_true]; rw [w1_map]
end
end Go.AM

namespace Go.AM
def BQ (t : Bool) [A : Pr] [B : Pr] (_ : True) : Prop := if t = true then A.p else B.p
theorem bq_i {t : Bool} {A B : Pr} (h : t = true → A.p) (k : t = false → B.p) : @BQ t A B trivial := by
 cases t
 ·exact k rfl
 ·exact h rfl
theorem bq_true (A B) : @BQ true ⟨A⟩ ⟨B⟩ trivial ↔ A := by simp [BQ]
theorem bq_false (A B) : @BQ false ⟨A⟩ ⟨B⟩ trivial ↔ B := by simp [BQ]
theorem cd_t (t A B) : @CdQ (some (.v (.b t))) ⟨A⟩ ⟨B⟩ trivial ↔ @BQ t ⟨A⟩ ⟨B⟩ trivial := Iff.rfl
theorem cd_u (A B) : @CdQ (some (.v .u)) ⟨A⟩ ⟨B⟩ trivial ↔ False := Iff.rfl
theorem gd_t (t A B) : @GdQ (some (.v (.b t))) true ⟨A⟩ ⟨B⟩ trivial ↔ @BQ t ⟨A⟩ ⟨B⟩ trivial := Iff.rfl
theorem gd_f (t A B) : @GdQ (some (.v (.b t))) false ⟨A⟩ ⟨B⟩ trivial ↔ @BQ t ⟨B⟩ ⟨A⟩ trivial := by cases t <;> simp [GdQ, BQ]
section
variable (OO : Or) (m : TypeId → String → Option FuncId) (s : St) (d : Option Nat) (Q : R → St → Ac → Prop)
theorem w_al (z : List D) (k : Nat) : @W1 (evO OO m (.al z) s (some k)) ⟨Q⟩ trivial ↔ Q (.q (.ptr k 0)) { s with ob := (k, z) :: s.ob, fr := forget (AM.Q.ofk k) s.fr } (.wk k) := by simp only [evO]; rw [w1_some]
theorem w_ag (z : List D) : @W1 (evO OO m (.ag z) s d) ⟨Q⟩ trivial ↔ Q (.v (.p s.sg.length 0)) { s with sg := s.sg ++ [z] } .ag := by simp only [evO]; rw [w1_some]
theorem w_bx (x : X) (k : Nat) : @W1 (evO OO m (.bx x) s (some k)) ⟨Q⟩ trivial ↔ @O1 _ (rxv x s) ⟨fun p => stb p.1 = true ∧ Q (.q (.ptr k 0)) { p.2 with ob := (k, p.1.cells) :: p.2.ob, fr := forget (AM.Q.ofk k) p.2.fr } (.wk k)⟩ trivial := by
 simp only [evO]
 cases rxv x s with
 | none => simp [w1_none, o1_none]
 | some p =>
  obtain ⟨a, s1⟩ := p
  simp only [o1_some]
  by_cases h : stb a = true
  ·rw [if_pos h, w1_some]; simp [h]
  ·rw [if_neg h, w1_none]; simp [h]
theorem w_bg (x : X) : @W1 (evO OO m (.bg x) s d) ⟨Q⟩ trivial ↔ @O1 _ (rxv x s) ⟨fun p => stb p.1 = true ∧ Q (.v (.p p.2.sg.length 0)) { p.2 with sg := p.2.sg ++ [p.1.cells] } .ag⟩ trivial := by
 simp only [evO]
 cases rxv x s with
 | none => simp [w1_none, o1_none]
 | some p =>
  obtain ⟨a, s1⟩ := p
  simp only [o1_some]
  by_cases h : stb a = true
  ·rw [if_pos h, w1_some]; simp [h]
  ·rw [if_neg h, w1_none]; simp [h]
theorem w_bd (z : List D) (ps : List (Nat × Nat × X)) : @W1 (evO OO m (.bd z ps) s d) ⟨Q⟩ trivial ↔ @O1 _ (rxs (ps.map (·.2.2)) s) ⟨fun p => stbs p.1 = true ∧ @O1 _ (fillc z ((ps.zip p.1).map fun (a, d) => (a.1, a.2.1, d))) ⟨fun cs => Q (.v (.a cs)) p.2 .no⟩ trivial⟩ trivial := by
 simp only [evO]
 cases rxs (ps.map (·.2.2)) s with
 | none => simp [w1_none, o1_none]
 | some p =>
  obtain ⟨a, s1⟩ := p
  simp only [o1_some]
  by_cases h : stbs a = true
  ·rw [if_pos h, w1_map]; simp [h]
  ·rw [if_neg h, w1_none]; simp [h]
theorem w_bs (sz n : Nat) (z : D) (ps : List (Nat × X)) : @W1 (evO OO m (.bs sz n z ps) s d) ⟨Q⟩ trivial ↔ @O1 _ (rxs (ps.map (·.2)) s) ⟨fun p => stbs p.1 = true ∧ @O1 _ (fille (List.replicate n z) sz ((ps.zip p.1).map fun (a, d) => (a.1, d))) ⟨fun xs => Q (.v (.l .x sz xs)) p.2 .no⟩ trivial⟩ trivial := by
 simp only [evO]
 cases rxs (ps.map (·.2)) s with
 | none => simp [w1_none, o1_none]
 | some p =>
  obtain ⟨a, s1⟩ := p
  simp only [o1_some]
  by_cases h : stbs a = true
  ·rw [if_pos h, w1_map]; simp [h]
  ·rw [if_neg h, w1_none]; simp [h]
theorem w_nc (x : X) : @W1 (evO OO m (.nc x) s d) ⟨Q⟩ trivial ↔ @O1 _ (rx x s) ⟨fun p => match p.1 with
    | .v (.p g o) => Q (.v (.p g o)) p.2 .no
    | .v (.q cs o) => Q (.v (.q cs o)) p.2 .no
    | .q (.ptr k o) => Q (.q (.ptr k o)) p.2 (.rl k 0 0)
    | .q (.el pl i o) => Q (.q (.el pl i o)) p.2 (AM.Q.ac (.el pl i o))
    | _ => False⟩ trivial := by
 simp only [evO]
 cases rx x s with
 | none => simp [w1_none, o1_none]
 | some p =>
  obtain ⟨a, s1⟩ := p
  simp only [o1_some]
  cases a with
  | v a => cases a <;> simp only [w1_none, w1_some]
  | q a => cases a <;> simp only [w1_none, w1_some, AM.Q.ac]
theorem w_fa (off : Nat) (x : X) : @W1 (evO OO m (.fa off x) s d) ⟨Q⟩ trivial ↔ @O1 _ (rx x s) ⟨fun p => @O1 _ (fav off p.1) ⟨fun r => Q r p.2 r.ac⟩ trivial⟩ trivial := by
 simp only [evO]
 cases rx x s with
 | none => simp [w1_none, o1_none]
 | some p => obtain ⟨a, s1⟩ := p; simp only [o1_some]; rw [w1_map]
theorem w_fd (agg : Bool) (off n : Nat) (x : X) : @W1 (evO OO m (.fd agg off n x) s d) ⟨Q⟩ trivial ↔ @O1 _ (rxv x s) ⟨fun p => match p.1 with | .a cs => @O1 _ (sub cs off n) ⟨fun ds => @O1 _ (ofc agg ds) ⟨fun r => Q (.v r) p.2 .no⟩ trivial⟩ trivial | _ => False⟩ trivial := by
 simp only [evO]
 cases rxv x s with
 | none => simp [w1_none, o1_none]
 | some p =>
  obtain ⟨a, s1⟩ := p
  simp only [o1_some]
  cases a <;> simp only [w1_none]
  rename_i cs
  cases sub cs off n with
  | none => simp [w1_none, o1_none]
  | some ds => simp only [o1_some]; rw [w1_map]
theorem w_mi (t : TypeId) (x : X) : @W1 (evO OO m (.mi t x) s d) ⟨Q⟩ trivial ↔ @O1 _ (rxv x s) ⟨fun p => @O1 _ p.1.cp ⟨fun r => Q (.v (.ic t r)) p.2 .no⟩ trivial⟩ trivial := by
 simp only [evO]
 cases rxv x s with
 | none => simp [w1_none, o1_none]
 | some p => obtain ⟨a, s1⟩ := p; simp only [o1_some]; rw [w1_map]
theorem w_mf (f : FuncId) (xs : List X) : @W1 (evO OO m (.mf f xs) s d) ⟨Q⟩ trivial ↔ @O1 _ (rxs xs s) ⟨fun p => @O1 _ (D.cps p.1) ⟨fun r => Q (.v (.fn f r)) p.2 .no⟩ trivial⟩ trivial := by
 simp only [evO]
 cases rxs xs s with
 | none => simp [w1_none, o1_none]
 | some p => obtain ⟨a, s1⟩ := p; simp only [o1_some]; rw [w1_map]
theorem w_callp (f : FuncId) (xs : List X) : @W1 (evO OO m (.callp f xs) s d) ⟨Q⟩ trivial ↔ @O1 _ (rxs xs s) ⟨fun p => @O1 _ (callpv OO f p.1) ⟨fun r => Q (.v r) p.2 .no⟩ trivial⟩ trivial := by
 simp only [evO]
 cases rxs xs s with
 | none => simp [w1_none, o1_none]
 | some p => obtain ⟨a, s1⟩ := p; simp only [o1_some]; rw [w1_map]
theorem w_eqa (neg : Bool) (cs : List Ec) (x y : X) : @W1 (evO OO m (.eqa neg cs x y) s d) ⟨Q⟩ trivial ↔ @O1 _ (rxv x s) ⟨fun p => @O1 _ (rxv y p.2) ⟨fun q => match p.1, q.1 with | .a ds, .a es => @O1 _ (eqs cs ds es) ⟨fun t => Q (.v (.b (if neg then !t else t))) q.2 .no⟩ trivial | _, _ => False⟩ trivial⟩ trivial := by
 simp only [evO]
 cases rxv x s with
 | none => simp [w1_none, o1_none]
 | some p =>
  obtain ⟨a, s1⟩ := p
  simp only [o1_some]
  cases h2 : rxv y s1 with
  | none => cases a <;> simp [w1_none, o1_none, h2]
  | some q =>
   obtain ⟨b, s2⟩ := q
   simp only [o1_some]
   cases a <;> simp only [h2, w1_none]
   cases b <;> simp only [w1_none]
   rw [w1_map]
theorem w_bits (x : X) : @W1 (evO OO m (.bits x) s d) ⟨Q⟩ trivial ↔ @O1 _ (rxv x s) ⟨fun p => match p.1 with | .f .f64 n => Q (.v (.i .u64 n)) p.2 .no | _ => False⟩ trivial := by
 simp only [evO]
 cases rxv x s with
 | none => simp [w1_none, o1_none]
 | some p =>
  obtain ⟨a, s1⟩ := p
  simp only [o1_some]
  cases a <;> (try simp only [w1_none])
  rename_i k n; cases k <;> simp only [w1_none, w1_some]
theorem w_frbits (x : X) : @W1 (evO OO m (.frbits x) s d) ⟨Q⟩ trivial ↔ @O1 _ (rxv x s) ⟨fun p => match p.1 with | .i .u64 n => 0 ≤ n ∧ Q (.v (.f .f64 n.toNat)) p.2 .no | _ => False⟩ trivial := by
 simp only [evO]
 cases rxv x s with
 | none => simp [w1_none, o1_none]
 | some p =>
  obtain ⟨a, s1⟩ := p
  simp only [o1_some]
  cases a <;> (try simp only [w1_none])
  rename_i k n; cases k <;> (try simp only [w1_none])
  by_cases h : 0 ≤ n
  ·rw [if_pos h, w1_some]; simp [h]
  ·rw [if_neg h, w1_none]; simp [h]
theorem w_ta (t : TypeId) (x : X) : @W1 (evO OO m (.ta t x) s d) ⟨Q⟩ trivial ↔ @O1 _ (rxv x s) ⟨fun p => match p.1 with | .ic t' e => t = t' ∧ Q (.v e) p.2 .no | _ => False⟩ trivial := by
 simp only [evO]
 cases rxv x s with
 | none => simp [w1_none, o1_none]
 | some p =>
  obtain ⟨a, s1⟩ := p
  simp only [o1_some]
  cases a <;> (try simp only [w1_none])
  rename_i t' e
  by_cases h : t = t'
  ·rw [if_pos h, w1_some]; simp [h]
  ·rw [if_neg h, w1_none]; simp [h]
theorem w_inv (nm : String) (x : X) (xs : List X) : @W1 (evO OO m (.inv nm x xs) s d) ⟨Q⟩ trivial ↔ @O1 _ (rxv x s) ⟨fun q => match q.1 with
    | .ic t v => @O1 _ (m t nm) ⟨fun f => @O1 _ (rxs xs q.2) ⟨fun p => @O1 _ (OO.call f (v :: p.1) p.2.sg p.2.sg.length) ⟨fun r => Q (.v r.1) { p.2 with sg := r.2.1, lo := min p.2.lo r.2.2, fr := forget AM.Q.gl p.2.fr } (.cl (D.beqs (r.2.1.map .t) (p.2.sg.map .t) && decide (p.2.lo ≤ r.2.2)))⟩ trivial⟩ trivial⟩ trivial
    | _ => False⟩ trivial := by
 simp only [evO]
 cases rxv x s with
 | none => simp [w1_none, o1_none]
 | some q =>
  obtain ⟨a, s1⟩ := q
  simp only [o1_some]
  cases a <;> (try simp only [w1_none])
  rename_i t v
  cases m t nm with
  | none => simp [w1_none, o1_none]
  | some f =>
   simp only [o1_some]
   cases rxs xs s1 with
   | none => simp [w1_none, o1_none]
   | some p =>
    obtain ⟨ds, s1⟩ := p
    simp only [o1_some]
    rw [w1_map]
end
theorem w_srt (OO : Or) (m : TypeId → String → Option FuncId) (s : St) (d : Option Nat) (Q : R → St → Ac → Prop) (f g : FuncId) (x : X) : @W1 (evO OO m (.srt f g x) s d) ⟨Q⟩ trivial ↔ @O1 _ (rx x s) ⟨fun p => @O1 _ (hpl p.1) ⟨fun q => @AtQ (p.2.at q.1) ⟨fun a => @O1 _ (OO.srt f g a.1 a.2) ⟨fun ys => ys.length = a.2.length ∧ Q (.v (.t [])) { p.2.setAt q.1 (.l .x a.1 ys) with lo := p.2.loAt (.l .z a.1 ys) q.1 } q.1.we⟩ trivial⟩ trivial⟩ trivial⟩ trivial := by
 constructor
 ·rintro ⟨r, t, ac, he, hq⟩
  simp only [evO] at he
  split at he
  ·rename_i r1 s1 h1
   split at he
   ·rename_i pl ac2 h2
    split at he
    ·rename_i sz xs h3
     split at he
     ·rename_i ys h4
      split at he
      ·rename_i h5
       cases he
       exact ⟨_, h1, _, h2, sz, xs, h3, ys, h4, h5, hq⟩
      ·cases he
     ·cases he
    ·cases he
   ·cases he
  ·cases he
 ·rintro ⟨⟨r1, s1⟩, h1, ⟨pl, ac2⟩, h2, sz, xs, h3, ys, h4, h5, hq⟩
  refine ⟨_, _, _, ?_, hq⟩
  simp only at h2 h3 h4 h5 ⊢
  simp only [evO, h1, h2, h3, h4, if_pos h5]
theorem hpl_hdr0 (k : Nat) : hpl (.q (.hdr k)) = some (.ob k 0, .rb k) := rfl
theorem hpl_hd0 (pl : Pl) : hpl (.q (.hd pl)) = some (pl, (AM.Q.hd pl).ac) := rfl
theorem w_pickb (OO : Or) (m : TypeId → String → Option FuncId) (s : St) (d : Option Nat) (Q : R → St → Ac → Prop) (c a b : X) : @W1 (evO OO m (.pick c a b) s d) ⟨Q⟩ trivial ↔ @O1 _ (rxv c s) ⟨fun p => match p.1 with | .b t => @BQ t ⟨@O1 _ (rxv a p.2) ⟨fun q => Q (.v q.1) q.2 .no⟩ trivial⟩ ⟨@O1 _ (rxv b p.2) ⟨fun q => Q (.v q.1) q.2 .no⟩ trivial⟩ trivial | _ => False⟩ trivial := w_pick OO m s d Q c a b
theorem fn_r (res n x s) : FnQ res n x (.r s) ↔ @O1 _ (resv res s) ⟨fun p => (if D.nr n (tup p.1) = true ∧ n ≤ p.2.lo then (tup p.1, p.2.sg.take n, p.2.lo) else (tup p.1, p.2.sg, p.2.lo)) = x⟩ trivial := by
 unfold FnQ fin
 simp only
 cases resv res s with
 | none => simp [O1]
 | some p =>
  obtain ⟨ds, s1⟩ := p
  simp only [O1, Option.some.injEq, exists_eq_left', Bool.and_eq_true, decide_eq_true_eq]
  split <;> simp
theorem fn_n (res n x s) : FnQ res n x (.n s) ↔ @O1 _ (resv res s) ⟨fun p => (if D.nr n (tup p.1) = true ∧ n ≤ p.2.lo then (tup p.1, p.2.sg.take n, p.2.lo) else (tup p.1, p.2.sg, p.2.lo)) = x⟩ trivial := fn_r res n x s
attribute [simp ↓] wc_skip wc_ret wc_exit wc_seq wc_blk wc_cond wc_reg wc_regd wg_nil wg_cons wo_nil wo_cons wo_guard wd_nil wd_cons wd_guard w_mv w_bin w_eq w_un w_cv w_ia w_sl w_ss w_ixs w_ixa w_app w_apps w_ms w_call w_callp w_callv w_ex w_len w_mx w_ld w_lda w_st w_pickb w_al w_ag w_bx w_bg w_bd w_bs w_nc w_fa w_fd w_mi w_mf w_eqa w_bits w_frbits w_ta w_inv w_srt
attribute [simp] w1_some w1_none cd_t gd_t gd_f gd_u cd_u bq_true bq_false sq_n sq_x sq_r bk_n bk_x bk_r o1_some o1_none o1_map o1_if_none o1_if o1_ite o1_iav_l bd_none bd_some o1_ssv o1_slv2 o1_slv3 rxo_none rxo_some o1_app_x o1_app_o o1_app_n at_some o1_iav_hd' o1_iav_hdr'
attribute [simp] hpl_hdr0 hpl_hd0 fzR look drp keep forget rx rxv rxs St.put evG D.cp D.cps binv bini unv cvv resv tup fn_r fn_n AM.Q.dead AM.Q.gl AM.Q.bor AM.Q.ofk ini mxv R.fo D.fo D.fos R.fz D.fz D.fzs D.zz D.zzs okA Ac.ok R.ac AM.Q.ac R.acE Pl.rb Pl.re Pl.we stb stbs D.cells fillc fille ovr sub ofc fav ldp auM stp St.at St.setAt St.loAt lenv elems slk beqs_self D.nr D.nrs eq1 eqs rec_
theorem wc_ind {α : Type} (st : α → St) (μ : α → Nat) (P : α → Prop) {B : C} {Q : Rs → Prop}
    (h : ∀ a, P a → (∀ b, μ b < μ a → P b → @WC (.loop B) (st b) ⟨Q⟩ trivial) → @WC B (st a) ⟨fun r => @SqQ (.loop B) ⟨Q⟩ r trivial⟩ trivial) : ∀ a, P a → @WC (.loop B) (st a) ⟨Q⟩ trivial := by
 have : ∀ n a, μ a < n → P a → @WC (.loop B) (st a) ⟨Q⟩ trivial := by
  intro n
  induction n with
  | zero => intro a ha; omega
  | succ n ih => intro a ha hp; exact wc_loop (h a hp (fun b hb hpb => ih b (by omega) hpb))
 exact fun a hp => this _ a (Nat.lt_succ_self _) hp
theorem wrap64 {x : Int} (h : -9223372036854775808 ≤ x ∧ x ≤ 9223372036854775807) : IntKind.i64.wrap x = x := by
 simp [IntKind.wrap, IntKind.signed, IntKind.bits]; omega
end Go.AM

namespace Go.AM
theorem wrap_u64 (n : Int) : IntKind.u64.wrap n = n % 18446744073709551616 := by simp [IntKind.wrap, IntKind.bits, IntKind.signed]
theorem wrapu64 {n : Int} (h : 0 ≤ n ∧ n < 18446744073709551616) : IntKind.u64.wrap n = n := by rw [wrap_u64]; omega
theorem u64k : ∀ n : Int, 0 ≤ n → n < 2 ^ 64 → IntKind.u64.wrap n = n := fun n h0 h1 => wrapu64 ⟨h0, by simpa using h1⟩
theorem u64_and (a b : Nat) (ha : a < 18446744073709551616) (hb : b < 18446744073709551616) : bits .and .u64 a b = ((a &&& b : Nat) : Int) := (bits_nat .u64 64 (by decide) u64k a b (by simpa using ha) (by simpa using hb)).1
theorem u64_or (a b : Nat) (ha : a < 18446744073709551616) (hb : b < 18446744073709551616) : bits .or .u64 a b = ((a ||| b : Nat) : Int) := (bits_nat .u64 64 (by decide) u64k a b (by simpa using ha) (by simpa using hb)).2
theorem u64_not (b : Nat) (hb : b < 18446744073709551616) : bits .xor .u64 18446744073709551615 b = ((18446744073709551615 - b : Nat) : Int) := by
 show IntKind.u64.wrap ((BitVec.ofInt 64 18446744073709551615 ^^^ BitVec.ofInt 64 (b : Int) : BitVec 64).toNat : Int) = _
 have e : BitVec.ofInt 64 18446744073709551615 = BitVec.allOnes 64 := by decide
 have e2 : BitVec.ofInt 64 (b : Int) = BitVec.ofNat 64 b := by simp
 rw [e, e2, BitVec.allOnes_xor, BitVec.toNat_not, BitVec.toNat_ofNat, Nat.mod_eq_of_lt (by simpa using hb), wrapu64]
 ·omega
theorem bit63 (i : Nat) : Nat.testBit 9223372036854775808 i = decide (63 = i) := by
 have h : Nat.testBit (2 ^ 63) i = decide (63 = i) := Nat.testBit_two_pow ..
 simpa using h
theorem and_sign (b : Nat) (hb : b < 18446744073709551616) : b &&& 9223372036854775808 = if 9223372036854775808 ≤ b then 9223372036854775808 else 0 := by
 apply Nat.eq_of_testBit_eq
 intro i
 rw [Nat.testBit_and, bit63]
 by_cases hi : 63 = i
 ·subst hi
  rw [Nat.testBit_eq_decide_div_mod_eq]
  split
  ·have : b / 2 ^ 63 = 1 := by omega
   simp [this, bit63]
  ·have : b / 2 ^ 63 = 0 := by omega
   simp [this]
 ·split <;> simp [hi, bit63]
theorem or_sign (b : Nat) (hb : b < 9223372036854775808) : b ||| 9223372036854775808 = b + 9223372036854775808 := by
 have := Nat.two_pow_add_eq_or_of_lt (i := 63) (b := b) (by simpa using hb) 1
 rw [Nat.or_comm, Nat.add_comm]
 simpa using this.symm
theorem wc_up {B : C} {Q : Rs → Prop} (n : Nat) (st : Nat → St) (P : Nat → Prop)
    (h : ∀ i, i < n → P i → (P (i + 1) → @WC (.loop B) (st (i + 1)) ⟨Q⟩ trivial) → @WC B (st i) ⟨fun r => @SqQ (.loop B) ⟨Q⟩ r trivial⟩ trivial)
    (he : P n → @WC B (st n) ⟨fun r => @SqQ (.loop B) ⟨Q⟩ r trivial⟩ trivial) : ∀ i, i ≤ n → P i → @WC (.loop B) (st i) ⟨Q⟩ trivial := by
 intro i hi hp
 refine wc_ind st (fun i => n - i) (fun i => i ≤ n ∧ P i) ?_ i ⟨hi, hp⟩
 rintro i ⟨h1, h2⟩ ih
 rcases Nat.lt_or_eq_of_le h1 with h3 | h3
 ·exact h i h3 h2 (fun hp => ih (i + 1) (by omega) ⟨by omega, hp⟩)
 ·subst h3; exact he h2
theorem wc_list {α β : Type} {B : C} {Q : Rs → Prop} (l : List α) (st : Nat → β → St) (P : List α → β → Prop)
    (h : ∀ i x r b, l[i]? = some x → i < l.length → P (x :: r) b → (∀ b', P r b' → @WC (.loop B) (st (i + 1) b') ⟨Q⟩ trivial) → @WC B (st i b) ⟨fun r => @SqQ (.loop B) ⟨Q⟩ r trivial⟩ trivial)
    (he : ∀ b, P [] b → @WC B (st l.length b) ⟨fun r => @SqQ (.loop B) ⟨Q⟩ r trivial⟩ trivial) : ∀ b, P l b → @WC (.loop B) (st 0 b) ⟨Q⟩ trivial := by
 intro b hb
 refine wc_ind (fun a : Nat × β => st a.1 a.2) (fun a => l.length - a.1) (fun a => a.1 ≤ l.length ∧ P (l.drop a.1) a.2) ?_ (0, b) ⟨by simp, by simpa using hb⟩
 rintro ⟨i, b⟩ ⟨h1, h2⟩ ih
 simp only at h1 h2 ih ⊢
 rcases Nat.lt_or_eq_of_le h1 with h3 | h3
 ·rw [List.drop_eq_getElem_cons h3] at h2
  exact h i l[i] _ b (List.getElem?_eq_getElem h3) h3 h2 (fun b' hb' => ih (i + 1, b') (by simp; omega) ⟨h3, hb'⟩)
 ·subst h3; rw [List.drop_length] at h2; exact he b h2
theorem mem_of_get {α : Type} {l : List α} {i : Nat} {x : α} (h : l[i]? = some x) : x ∈ l := List.mem_of_getElem? h
theorem order_self (b : Nat) (hb : b < 18446744073709551616) : FloatKind.f64.format.order b b = if b % 9223372036854775808 > 9218868437227405312 then none else some .eq := by
 have hs : FloatKind.f64.format.signWeight = 9223372036854775808 := by decide
 have hi : FloatKind.f64.format.infRung = 9218868437227405312 := by decide
 unfold Ieee.Format.order Ieee.Format.read
 simp only [hs, hi]
 by_cases h1 : b % 9223372036854775808 < FloatKind.f64.format.binade
 ·have : FloatKind.f64.format.binade ≤ 9218868437227405312 := by decide
  simp only [h1, if_true, Ieee.Datum.order]
  rw [if_neg (by omega)]; simp
 ·simp only [h1, if_false]
  by_cases h2 : b % 9223372036854775808 < 9218868437227405312
  ·simp only [h2, if_true, Ieee.Datum.order]
   rw [if_neg (by omega)]; simp
  ·simp only [h2, if_false]
   by_cases h3 : b % 9223372036854775808 = 9218868437227405312
   ·simp only [h3, if_true, Ieee.Datum.order]
    simp
   ·simp only [h3, if_false, Ieee.Datum.order]
    rw [if_pos (by omega)]
end Go.AM

namespace Go.AM
def canon (b : Nat) : Nat := if b % 9223372036854775808 > 9218868437227405312 then 9221120237041090560 else b
def keyC (b : Nat) : Nat := if 9223372036854775808 ≤ b then 18446744073709551615 - b else b + 9223372036854775808
def key (b : Nat) : Nat := keyC (canon b)
theorem canon_lt {b : Nat} (h : b < 18446744073709551616) : canon b < 18446744073709551616 := by unfold canon; split <;> omega
theorem canon_canon (b : Nat) : canon (canon b) = canon b := by unfold canon; split <;> simp_all
theorem keyC_inj {a b : Nat} (ha : a < 18446744073709551616) (hb : b < 18446744073709551616) (h : keyC a = keyC b) : a = b := by
 unfold keyC at h; split at h <;> split at h <;> omega
def cmpN (a b : Nat) : Int := if a < b then -1 else if a > b then 1 else 0
theorem canon_nan {b : Nat} (h : 9218868437227405312 < b % 9223372036854775808) : canon b = 9221120237041090560 := if_pos h
theorem canon_num {b : Nat} (h : b % 9223372036854775808 ≤ 9218868437227405312) : canon b = b := if_neg (by omega)
theorem c_real_Canon (b : Nat) (hb : b < 18446744073709551616) (sg) : LL.call n_real_Canon [.f .f64 b] sg sg.length = some (.f .f64 (canon b), sg, sg.length) := by
 refine wp_call e_real_Canon rfl ?_
 simp [F_real_Canon, binf, order_self b hb]
 refine bq_i (fun h => ?_) (fun h => ?_) <;> simp at h
 ·simp [canon_nan h]
 ·simp [canon_num h]
theorem c_real_Key (b : Nat) (hb : b < 18446744073709551616) (sg) : LL.call n_real_Key [.f .f64 b] sg sg.length = some (.i .u64 (key b), sg, sg.length) := by
 refine wp_call e_real_Key rfl ?_
 have hc := canon_lt hb
 have e1 := u64_and (canon b) 9223372036854775808 hc (by omega)
 have e2 := u64_or (canon b) 9223372036854775808 hc (by omega)
 have e3 := u64_not (canon b) hc
 rw [and_sign _ hc] at e1
 simp at e1 e2
 by_cases h : 9223372036854775808 ≤ canon b
 ·rw [if_pos h] at e1
  simp [F_real_Key, c_real_Canon b hb, e1, IntKind.signed, IntKind.max, IntKind.bits, e3, key, keyC, h]
 ·rw [if_neg h] at e1
  rw [or_sign _ (by omega)] at e2
  simp [F_real_Key, c_real_Canon b hb, e1, e2, key, keyC, h]
theorem c_real_Cmp (a b : Nat) (ha : a < 18446744073709551616) (hb : b < 18446744073709551616) (sg) : LL.call n_real_Cmp [.f .f64 a, .f .f64 b] sg sg.length = some (.i .i64 (cmpN (key a) (key b)), sg, sg.length) := by
 refine wp_call e_real_Cmp rfl ?_
 simp [F_real_Cmp, c_real_Key a ha, c_real_Key b hb]
 repeat' (refine bq_i (fun h => ?_) (fun h => ?_) <;> (have h' := h) <;> (try simp at h') <;> simp [h, h'])
 all_goals (simp [cmpN, *] <;> omega)
theorem c_ref03_Bits (b : Nat) (hb : b < 18446744073709551616) (sg) : LL.call n_c_ref03_Bits [.i .u64 b] sg sg.length = some (.i .u64 (canon b), sg, sg.length) := by
 refine wp_call e_c_ref03_Bits rfl ?_
 have e : (b : Int).tmod 9223372036854775808 = ((b % 9223372036854775808 : Nat) : Int) := by rw [Int.tmod_eq_emod_of_nonneg (by omega)]; simp
 simp [F_c_ref03_Bits, e]
 refine bq_i (fun h => ?_) (fun h => ?_) <;> simp at h
 ·simp [canon_nan (b := b) (by omega)]
 ·simp [canon_num (b := b) (by omega)]
theorem c_ref03_Key (b : Nat) (hb : b < 18446744073709551616) (sg) : LL.call n_c_ref03_Key [.i .u64 b] sg sg.length = some (.i .u64 (key b), sg, sg.length) := by
 refine wp_call e_c_ref03_Key rfl ?_
 have hc := canon_lt hb
 simp [F_c_ref03_Key, c_ref03_Bits b hb]
 refine bq_i (fun h => ?_) (fun h => ?_) <;> simp at h <;> simp
 ·rw [wrapu64 (by omega)]; simp [key, keyC]; rw [if_pos (by omega)]; omega
 ·rw [wrapu64 (by omega)]; simp [key, keyC]; rw [if_neg (by omega)]; omega
theorem c_ref03_Cmp (a b : Nat) (ha : a < 18446744073709551616) (hb : b < 18446744073709551616) (sg) : LL.call n_c_ref03_Cmp [.i .u64 a, .i .u64 b] sg sg.length = some (.i .i64 (cmpN (key a) (key b)), sg, sg.length) := by
 refine wp_call e_c_ref03_Cmp rfl ?_
 simp [F_c_ref03_Cmp, c_ref03_Key a ha, c_ref03_Key b hb]
 repeat' (refine bq_i (fun h => ?_) (fun h => ?_) <;> (try simp at h) <;> simp [h, c_ref03_Key a ha, c_ref03_Key b hb])
 all_goals (simp [cmpN, *] <;> omega)
theorem c_law03_F (b : Nat) (sg) : LL.call n_c_law03_F [.i .u64 b] sg sg.length = some (.f .f64 b, sg, sg.length) := by
 refine wp_call e_c_law03_F rfl ?_
 simp [F_c_law03_F]
end Go.AM

namespace Go.AM
class Flat {α : Type} (e : α → D) : Prop where
 fz : ∀ x, D.fz (e x) = e x
 zz : ∀ x, D.zz (e x) = e x
 nr : ∀ n x, D.nr n (e x) = true
theorem fzs_flat {α : Type} (e : α → D) [h : Flat e] : ∀ l : List α, D.fzs (l.map e) = l.map e
 | [] => rfl
 | x :: l => by simp only [List.map_cons, D.fzs, h.fz, fzs_flat e l]
theorem zzs_flat {α : Type} (e : α → D) [h : Flat e] : ∀ l : List α, D.zzs (l.map e) = l.map e
 | [] => rfl
 | x :: l => by simp only [List.map_cons, D.zzs, h.zz, zzs_flat e l]
theorem nrs_flat {α : Type} (e : α → D) [h : Flat e] (n : Nat) : ∀ l : List α, D.nrs n (l.map e) = true
 | [] => rfl
 | x :: l => by simp only [List.map_cons, D.nrs, h.nr, nrs_flat e n l, Bool.and_self]
attribute [simp] fzs_flat zzs_flat nrs_flat
theorem fzs_app : ∀ xs ys : List D, D.fzs (xs ++ ys) = D.fzs xs ++ D.fzs ys
 | [], ys => rfl
 | x :: xs, ys => by simp [D.fzs, fzs_app xs ys]
theorem zzs_app : ∀ xs ys : List D, D.zzs (xs ++ ys) = D.zzs xs ++ D.zzs ys
 | [], ys => rfl
 | x :: xs, ys => by simp [D.zzs, zzs_app xs ys]
theorem nrs_app (n : Nat) : ∀ xs ys : List D, D.nrs n (xs ++ ys) = (D.nrs n xs && D.nrs n ys)
 | [], ys => by simp [D.nrs]
 | x :: xs, ys => by simp [D.nrs, nrs_app n xs ys, Bool.and_assoc]
theorem fzs_take : ∀ (n : Nat) (xs : List D), D.fzs (xs.take n) = (D.fzs xs).take n
 | 0, _ => rfl
 | n + 1, [] => rfl
 | n + 1, x :: xs => by simp [D.fzs, fzs_take n xs]
theorem fzs_drop : ∀ (n : Nat) (xs : List D), D.fzs (xs.drop n) = (D.fzs xs).drop n
 | 0, _ => rfl
 | n + 1, [] => rfl
 | n + 1, x :: xs => by simp [D.fzs, fzs_drop n xs]
theorem zzs_take : ∀ (n : Nat) (xs : List D), D.zzs (xs.take n) = (D.zzs xs).take n
 | 0, _ => rfl
 | n + 1, [] => rfl
 | n + 1, x :: xs => by simp [D.zzs, zzs_take n xs]
theorem zzs_drop : ∀ (n : Nat) (xs : List D), D.zzs (xs.drop n) = (D.zzs xs).drop n
 | 0, _ => rfl
 | n + 1, [] => rfl
 | n + 1, x :: xs => by simp [D.zzs, zzs_drop n xs]
theorem fzs_set : ∀ (n : Nat) (d : D) (xs : List D), D.fzs (xs.set n d) = (D.fzs xs).set n d.fz
 | 0, d, [] => rfl
 | 0, d, x :: xs => rfl
 | n + 1, d, [] => rfl
 | n + 1, d, x :: xs => by simp [D.fzs, fzs_set n d xs]
theorem zzs_set : ∀ (n : Nat) (d : D) (xs : List D), D.zzs (xs.set n d) = (D.zzs xs).set n d.zz
 | 0, d, [] => rfl
 | 0, d, x :: xs => rfl
 | n + 1, d, [] => rfl
 | n + 1, d, x :: xs => by simp [D.zzs, zzs_set n d xs]
attribute [simp] fzs_set zzs_set
attribute [simp] fzs_app zzs_app nrs_app fzs_take fzs_drop zzs_take zzs_drop
instance (k : IntKind) : Flat (D.i k) := ⟨fun _ => rfl, fun _ => rfl, fun _ _ => rfl⟩
instance : Flat D.s := ⟨fun _ => rfl, fun _ => rfl, fun _ _ => rfl⟩
instance : Flat D.b := ⟨fun _ => rfl, fun _ => rfl, fun _ _ => rfl⟩
def eL {α : Type} (sz : Nat) (e : α → D) (l : List α) : D := .l .z sz (l.map e)
instance {α : Type} (sz : Nat) (e : α → D) [h : Flat e] : Flat (eL sz e) := ⟨fun _ => rfl, fun l => by simp [eL], fun n l => by simp [eL]⟩
structure It where
 p : Nat
 v : Int
 deriving DecidableEq, Inhabited
def It.ok (x : It) : Prop := x.p < 18446744073709551616 ∧ -9223372036854775808 ≤ x.v ∧ x.v ≤ 9223372036854775807
def It.canon (x : It) : It := ⟨AM.canon x.p, x.v⟩
def eI (x : It) : D := .a [.f .f64 x.p, .i .i64 x.v]
def eR (x : It) : D := .a [.i .u64 x.p, .i .i64 x.v]
instance : Flat eI := ⟨fun _ => rfl, fun _ => rfl, fun _ _ => rfl⟩
instance : Flat eR := ⟨fun _ => rfl, fun _ => rfl, fun _ _ => rfl⟩
attribute [simp] eI eR
def cmpV (a b : Int) : Int := if a < b then -1 else if a > b then 1 else 0
def cmpI (x y : It) : Int := if cmpN (key x.p) (key y.p) ≠ 0 then cmpN (key x.p) (key y.p) else cmpV x.v y.v
theorem c_pile_Item_Canon (x : It) (h : x.ok) (sg) : LL.call n_pile_Item_Canon [eI x] sg sg.length = some (eI x.canon, sg, sg.length) := by
 refine wp_call e_pile_Item_Canon rfl ?_
 simp [F_pile_Item_Canon, c_real_Canon x.p h.1, It.canon]
theorem c_pile_Item_Cmp (x y : It) (hx : x.ok) (hy : y.ok) (sg) : LL.call n_pile_Item_Cmp [eI x, eI y] sg sg.length = some (.i .i64 (cmpI x y), sg, sg.length) := by
 refine wp_call e_pile_Item_Cmp rfl ?_
 simp [F_pile_Item_Cmp, c_real_Cmp x.p y.p hx.1 hy.1]
 repeat' (refine bq_i (fun h => ?_) (fun h => ?_) <;> (have h' := h) <;> (try simp at h') <;> simp [h, h'])
 all_goals simp [cmpI, cmpV, *]
 all_goals omega
theorem c_law04_Own (x : It) (sg) : LL.call n_c_law04_Own [eR x] sg sg.length = some (eI x, sg, sg.length) := by
 refine wp_call e_c_law04_Own rfl ?_
 simp [F_c_law04_Own, c_law03_F]
theorem c_law04_Bits (x : It) (h : x.ok) (sg) : LL.call n_c_law04_Bits [eI x] sg sg.length = some (.i .u64 (canon x.p), sg, sg.length) := by
 refine wp_call e_c_law04_Bits rfl ?_
 simp [F_c_law04_Bits, c_ref03_Bits x.p h.1]
theorem c_ref04_Cmp (x y : It) (hx : x.ok) (hy : y.ok) (sg) : LL.call n_c_ref04_Cmp [eR x, eR y] sg sg.length = some (.i .i64 (cmpI x y), sg, sg.length) := by
 refine wp_call e_c_ref04_Cmp rfl ?_
 simp [F_c_ref04_Cmp, c_ref03_Cmp x.p y.p hx.1 hy.1]
 repeat' (refine bq_i (fun h => ?_) (fun h => ?_) <;> (have h' := h) <;> (try simp at h') <;> simp [h, h'])
 all_goals simp [cmpI, cmpV, *]
 all_goals omega
end Go.AM

namespace Go.AM
def hp (h : List It) : List D := [.l .x 2 (h.map eI)]
def swp (h : List It) (i j : Nat) : List It := (h.set i h[j]!).set j h[i]!
theorem c_items_Len {g : Nat} {h : List It} {sg : List (List D)} (hg : sg[g]? = some (hp h)) : LL.call n_pile_items_Len_q [.p g 0] sg sg.length = some (.i .i64 h.length, sg, sg.length) := by
 refine wp_callq (d0 := .l .x 2 (h.map eI)) e_pile_items_Len_q rfl hg rfl ?_
 simp [F_pile_items_Len_q, hg, hp, St.at, lenv]
theorem c_items_Less {g : Nat} {h : List It} {sg : List (List D)} (hg : sg[g]? = some (hp h)) (i j : Nat) (hi : i < h.length) (hj : j < h.length) (h1 : h[i].ok) (h2 : h[j].ok) :
    LL.call n_pile_items_Less_q [.p g 0, .i .i64 i, .i .i64 j] sg sg.length = some (.b (decide (cmpI h[i] h[j] < 0)), sg, sg.length) := by
 refine wp_callq (d0 := .l .x 2 (h.map eI)) e_pile_items_Less_q rfl hg rfl ?_
 have e := c_pile_Item_Cmp h[i] h[j] h1 h2 sg
 simp at e
 simp [F_pile_items_Less_q, hg, hp, St.at, hi, hj, e]
theorem c_items_Swap {g : Nat} {h : List It} {sg : List (List D)} (hg : sg[g]? = some (hp h)) (i j : Nat) (hi : i < h.length) (hj : j < h.length) :
    LL.call n_pile_items_Swap_q [.p g 0, .i .i64 i, .i .i64 j] sg sg.length = some (.t [], sg.set g (hp (swp h i j)), sg.length) := by
 refine wp_callq (d0 := .l .x 2 (h.map eI)) e_pile_items_Swap_q rfl hg rfl ?_
 have hlt : g < sg.length := by rw [List.getElem?_eq_some_iff] at hg; exact hg.1
 have hg2 : sg[g] = hp h := by rw [List.getElem?_eq_some_iff] at hg; exact hg.2
 have s3 : ((h.map eI).set i (.a [.f .f64 h[j].p, .i .i64 h[j].v]))[j]'(by simpa using hj) = .a [.f .f64 h[j].p, .i .i64 h[j].v] := by rw [List.getElem_set]; split <;> simp
 simp [F_pile_items_Swap_q, hg, s3, hg2, hp, St.at, hi, hj, hlt, swp, List.getElem?_set, St.setAt]
 rw [List.take_of_length_le (by simp)]
theorem m_Len : EE.meth t_pile_items_u "Len" = some n_pile_items_Len_q := by kernel_rfl
theorem m_Less : EE.meth t_pile_items_u "Less" = some n_pile_items_Less_q := by kernel_rfl
theorem m_Swap : EE.meth t_pile_items_u "Swap" = some n_pile_items_Swap_q := by kernel_rfl
theorem m_Pop : EE.meth t_pile_items_u "Pop" = some n_pile_items_Pop := by kernel_rfl
attribute [simp] m_Len m_Less m_Swap m_Pop
def dn (h : List It) (i n : Nat) : List It × Nat :=
 if hlt : 2 * i + 1 < n then
  if 2 * i + 2 < n ∧ cmpI h[2 * i + 2]! h[2 * i + 1]! < 0 then
   if cmpI h[2 * i + 2]! h[i]! < 0 then dn (swp h i (2 * i + 2)) (2 * i + 2) n else (h, i)
  else
   if cmpI h[2 * i + 1]! h[i]! < 0 then dn (swp h i (2 * i + 1)) (2 * i + 1) n else (h, i)
 else (h, i)
termination_by n - i
theorem swp_len (h : List It) (i j : Nat) : (swp h i j).length = h.length := by simp [swp]
theorem swp_mem {h : List It} {i j : Nat} (hi : i < h.length) (hj : j < h.length) {x : It} (hx : x ∈ swp h i j) : x ∈ h := by
 unfold swp at hx
 rcases List.mem_or_eq_of_mem_set hx with hx | rfl
 ·rcases List.mem_or_eq_of_mem_set hx with hx | rfl
  ·exact hx
  ·rw [getElem!_pos h j hj]; exact List.getElem_mem hj
 ·rw [getElem!_pos h i hi]; exact List.getElem_mem hi
theorem heap_down {g : Nat} {h : List It} {sg : List (List D)} (hg : g < sg.length) (i n : Nat) (hn : n ≤ h.length) (hi : i < 1000000000000) (hl : h.length < 1000000000000) (hok : ∀ x ∈ h, x.ok) :
    LL.call n_container_heap_down [.ic t_pile_items_u (.p g 0), .i .i64 i, .i .i64 n] (sg.set g (hp h)) (sg.set g (hp h)).length = some (.b (decide ((dn h i n).2 > i)), sg.set g (hp (dn h i n).1), (sg.set g (hp h)).length) := by
 generalize hr : dn h i n = r
 refine wp_call e_container_heap_down rfl ?_
 simp [F_container_heap_down]
 refine wc_ind (fun a : List It × Nat => ⟨[(0, .v (.ic t_pile_items_u (.p g 0))), (1, .v (.i .i64 i)), (2, .v (.i .i64 n)), (7, .v (.i .i64 a.2))], [], sg.set g (hp a.1), sg.length⟩) (fun a => n - a.2) (fun a => dn a.1 a.2 n = r ∧ a.1.length = h.length ∧ (∀ x ∈ a.1, x.ok) ∧ a.2 < 1000000000000) ?_ (h, i) ⟨hr, rfl, hok, hi⟩
 rintro ⟨h', i'⟩ ⟨p1, p2, p3, p4⟩ ih
 simp only at p1 p2 p3 p4 ih
 obtain ⟨q, hq⟩ : ∃ q, q = 2 * i' + 1 := ⟨_, rfl⟩
 obtain ⟨q1, hq1⟩ : ∃ q, q = 2 * i' + 2 := ⟨_, rfl⟩
 have w1 : IntKind.i64.wrap (IntKind.i64.wrap (2 * i') + 1) = (q : Int) := by
  have w0 : IntKind.i64.wrap (2 * (i' : Int)) = 2 * i' := wrap64 (by omega)
  rw [w0, wrap64 (by omega)]; omega
 have w2 : IntKind.i64.wrap ((q : Int) + 1) = (q1 : Int) := by rw [wrap64 (by omega)]; omega
 have hge : (sg.set g (hp h'))[g]? = some (hp h') := by simp [hg]
 simp [w1]
 have hi' : ∀ x ∈ h', x.ok := p3
 have gok : ∀ k (hk : k < h'.length), h'[k].ok := fun k hk => p3 _ (List.getElem_mem hk)
 refine bq_i (fun c1 => ?_) (fun c1 => ?_) <;> (have c1' := c1) <;> simp at c1'
 ·rw [dn, dif_neg (by omega)] at p1
  subst p1
  simp [c1]
  exact List.take_of_length_le (by simp)
 ·have hq2 : q < h'.length := by omega
  have hi2 : i' < h'.length := by omega
  simp [c1]
  refine bq_i (fun c2 => ?_) (fun c2 => ?_) <;> (have c2' := c2) <;> simp at c2'
  ·omega
  rw [dn, dif_pos (by omega), ← hq1, ← hq] at p1
  simp [c2, w2]
  refine bq_i (fun c3 => ?_) (fun c3 => ?_) <;> (have c3' := c3) <;> simp at c3'
  ·have hq3 : q1 < h'.length := by omega
   have L1 := c_items_Less hge q1 q hq3 hq2 (gok _ hq3) (gok _ hq2)
   simp at L1
   simp [c3, L1]
   refine bq_i (fun c4 => ?_) (fun c4 => ?_) <;> (have c4' := c4) <;> simp at c4'
   ·have L2 := c_items_Less hge q1 i' hq3 hi2 (gok _ hq3) (gok _ hi2)
    have S1 := c_items_Swap hge i' q1 hi2 hq3
    simp at L2 S1
    rw [if_pos ⟨by omega, by rw [getElem!_pos h' q1 hq3, getElem!_pos h' q hq2]; exact c4'⟩, getElem!_pos h' q1 hq3, getElem!_pos h' i' hi2] at p1
    simp [c4, L2]
    refine bq_i (fun c5 => ?_) (fun c5 => ?_) <;> (have c5' := c5) <;> simp at c5'
    ·rw [if_neg (by omega)] at p1
     subst p1
     simp [c5]
     exact List.take_of_length_le (by simp)
    ·rw [if_pos (by omega)] at p1
     simp [c5, S1]
     have := ih (swp h' i' q1, q1) (by simp; omega) ⟨p1, by rw [swp_len]; exact p2, fun x hx => p3 x (swp_mem hi2 hq3 hx), by simp; omega⟩
     simpa using this
   ·have L2 := c_items_Less hge q i' hq2 hi2 (gok _ hq2) (gok _ hi2)
    have S1 := c_items_Swap hge i' q hi2 hq2
    simp at L2 S1
    rw [if_neg (by rw [getElem!_pos h' q1 hq3, getElem!_pos h' q hq2]; omega), getElem!_pos h' q hq2, getElem!_pos h' i' hi2] at p1
    simp [c4, L2]
    refine bq_i (fun c5 => ?_) (fun c5 => ?_) <;> (have c5' := c5) <;> simp at c5'
    ·rw [if_neg (by omega)] at p1
     subst p1
     simp [c5]
     exact List.take_of_length_le (by simp)
    ·rw [if_pos (by omega)] at p1
     simp [c5, S1]
     have := ih (swp h' i' q, q) (by simp; omega) ⟨p1, by rw [swp_len]; exact p2, fun x hx => p3 x (swp_mem hi2 hq2 hx), by simp; omega⟩
     simpa using this
  ·have L1 := c_items_Less hge q i' hq2 hi2 (gok _ hq2) (gok _ hi2)
   have S1 := c_items_Swap hge i' q hi2 hq2
   simp at L1 S1
   rw [if_neg (by omega), getElem!_pos h' q hq2, getElem!_pos h' i' hi2] at p1
   simp [c3, L1]
   refine bq_i (fun c5 => ?_) (fun c5 => ?_) <;> (have c5' := c5) <;> simp at c5'
   ·rw [if_neg (by omega)] at p1
    subst p1
    simp [c5]
    exact List.take_of_length_le (by simp)
   ·rw [if_pos (by omega)] at p1
    simp [c5, S1]
    have := ih (swp h' i' q, q) (by simp; omega) ⟨p1, by rw [swp_len]; exact p2, fun x hx => p3 x (swp_mem hi2 hq2 hx), by simp; omega⟩
    simpa using this
end Go.AM

namespace Go.AM
theorem swp_perm {h : List It} {i j : Nat} (hi : i < h.length) (hj : j < h.length) : (swp h i j).Perm h := by
 unfold swp
 rw [getElem!_pos h i hi, getElem!_pos h j hj]
 exact List.set_set_perm hi hj
theorem dn_perm : ∀ (h : List It) (i n : Nat), n ≤ h.length → (dn h i n).1.Perm h := by
 intro h i n hn
 fun_induction dn h i n with
 | case1 h i h1 h2 h3 ih => exact (ih (by rw [swp_len]; exact hn)).trans (swp_perm (by omega) (by omega))
 | case2 h i h1 h2 h3 => exact .refl _
 | case3 h i h1 h2 h3 ih => exact (ih (by rw [swp_len]; exact hn)).trans (swp_perm (by omega) (by omega))
 | case4 h i h1 h2 h3 => exact .refl _
 | case5 h i h1 => exact .refl _
theorem dn_len (h : List It) (i n : Nat) (hn : n ≤ h.length) : (dn h i n).1.length = h.length := (dn_perm h i n hn).length_eq
def hini (h : List It) : Nat → List It
 | 0 => h
 | k + 1 => hini (dn h k h.length).1 k
theorem hini_perm : ∀ (k : Nat) (h : List It), (hini h k).Perm h
 | 0, h => .refl _
 | k + 1, h => (hini_perm k _).trans (dn_perm h k h.length (Nat.le_refl _))
theorem heap_Init {g : Nat} {h : List It} {sg : List (List D)} (hg : g < sg.length) (hl : h.length < 1000000000000) (hok : ∀ x ∈ h, x.ok) :
    LL.call n_container_heap_Init [.ic t_pile_items_u (.p g 0)] (sg.set g (hp h)) (sg.set g (hp h)).length = some (.t [], sg.set g (hp (hini h (h.length / 2))), (sg.set g (hp h)).length) := by
 generalize hr : hini h (h.length / 2) = r
 refine wp_call e_container_heap_Init rfl ?_
 have hge : (sg.set g (hp h))[g]? = some (hp h) := by simp [hg]
 have L0 := c_items_Len hge
 simp at L0
 have w1 : IntKind.i64.wrap (IntKind.i64.wrap ((h.length : Int) / 2) - 1) = ((h.length / 2 : Nat) : Int) - 1 := by
  rw [wrap64 (x := (h.length : Int) / 2) (by omega), wrap64 (by omega)]; omega
 simp [F_container_heap_Init, L0, w1]
 refine wc_ind (fun a : List It × Nat => ⟨[(0, .v (.ic t_pile_items_u (.p g 0))), (2, .v (.i .i64 h.length)), (3, .v (.i .i64 (a.2 - 1)))], [], sg.set g (hp a.1), sg.length⟩) (fun a => a.2) (fun a => hini a.1 a.2 = r ∧ a.1.length = h.length ∧ (∀ x ∈ a.1, x.ok) ∧ a.2 ≤ h.length) ?_ (h, h.length / 2) ⟨hr, rfl, hok, by simp; omega⟩
 rintro ⟨h', k⟩ ⟨p1, p2, p3, p4⟩ ih
 simp only at p1 p2 p3 p4 ih
 simp
 cases k with
 | zero =>
  subst p1
  refine bq_i (fun c1 => ?_) (fun c1 => ?_) <;> (have c1' := c1) <;> simp at c1'
  simp [c1, hini]
  exact List.take_of_length_le (by simp)
 | succ k =>
  have w2 : ((k + 1 : Nat) : Int) - 1 = k := by omega
  have w3 : IntKind.i64.wrap ((k : Int) - 1) = k - 1 := wrap64 (by omega)
  refine bq_i (fun c1 => ?_) (fun c1 => ?_) <;> (have c1' := c1) <;> simp at c1'
  ·have D1 := heap_down hg k h.length (by omega) (by omega) (by omega) p3
   simp at D1
   simp [c1, w2, D1, w3]
   rw [hini, p2] at p1
   have := ih ((dn h' k h.length).1, k) (by simp) ⟨p1, by rw [dn_len _ _ _ (by omega)]; exact p2, fun x hx => p3 x ((dn_perm _ _ _ (by omega)).mem_iff.1 hx), by simp; omega⟩
   simpa using this
  ·omega
def popH (h : List It) : It × List It := ((dn (swp h 0 (h.length - 1)) 0 (h.length - 1)).1[h.length - 1]!, (dn (swp h 0 (h.length - 1)) 0 (h.length - 1)).1.take (h.length - 1))
theorem items_Pop {g : Nat} {h : List It} {sg : List (List D)} (hg : g < sg.length) (h0 : h ≠ []) (hl : h.length < 1000000000000) :
    LL.call n_pile_items_Pop [.p g 0] (sg.set g (hp h)) (sg.set g (hp h)).length = some (.ic t_pile_Item (eI h[h.length - 1]!), sg.set g (hp (h.take (h.length - 1))), (sg.set g (hp h)).length) := by
 have hpos : 0 < h.length := List.length_pos_iff.2 h0
 have hn : ((h.length : Int) - 1) = ((h.length - 1 : Nat) : Int) := by omega
 have w1 : IntKind.i64.wrap ((h.length : Int) - 1) = ((h.length - 1 : Nat) : Int) := by rw [wrap64 (by omega)]; omega
 have hlt : h.length - 1 < h.length := by omega
 refine wp_call e_pile_items_Pop rfl ?_
 have hnr : D.nrs 0 ((h.map eI).take (h.length - 1)) = true := by rw [← List.map_take]; exact nrs_flat eI 0 _
 simp [F_pile_items_Pop, hg, hp, w1, St.at, hlt, h0, hnr]
 exact List.take_of_length_le (by simp)
theorem heap_Pop {g : Nat} {h : List It} {sg : List (List D)} (hg : g < sg.length) (h0 : h ≠ []) (hl : h.length < 1000000000000) (hok : ∀ x ∈ h, x.ok) :
    LL.call n_container_heap_Pop [.ic t_pile_items_u (.p g 0)] (sg.set g (hp h)) (sg.set g (hp h)).length = some (.ic t_pile_Item (eI (popH h).1), sg.set g (hp (popH h).2), (sg.set g (hp h)).length) := by
 have hpos : 0 < h.length := List.length_pos_iff.2 h0
 have w1 : IntKind.i64.wrap ((h.length : Int) - 1) = ((h.length - 1 : Nat) : Int) := by rw [wrap64 (by omega)]; omega
 have hge : (sg.set g (hp h))[g]? = some (hp h) := by simp [hg]
 have L0 := c_items_Len hge
 have S1 := c_items_Swap hge 0 (h.length - 1) hpos (by omega)
 have D1 := heap_down (h := swp h 0 (h.length - 1)) hg 0 (h.length - 1) (by rw [swp_len]; omega) (by omega) (by rw [swp_len]; exact hl) (fun x hx => hok x (swp_mem hpos (by omega) hx))
 have hlen : (dn (swp h 0 (h.length - 1)) 0 (h.length - 1)).1.length = h.length := by rw [dn_len _ _ _ (by rw [swp_len]; omega), swp_len]
 have P1 := items_Pop (h := (dn (swp h 0 (h.length - 1)) 0 (h.length - 1)).1) hg (by rw [← List.length_pos_iff, hlen]; exact hpos) (by omega)
 rw [hlen] at P1
 refine wp_call e_container_heap_Pop rfl ?_
 simp at L0 S1 D1 P1
 simp [F_container_heap_Pop, L0, w1, S1, D1, P1, popH]
 exact List.take_of_length_le (by simp)
theorem popH_perm {h : List It} (h0 : h ≠ []) : ((popH h).1 :: (popH h).2).Perm h := by
 have hpos : 0 < h.length := List.length_pos_iff.2 h0
 have hlen : (dn (swp h 0 (h.length - 1)) 0 (h.length - 1)).1.length = h.length := by rw [dn_len _ _ _ (by rw [swp_len]; omega), swp_len]
 have e : (popH h).2 ++ [(popH h).1] = (dn (swp h 0 (h.length - 1)) 0 (h.length - 1)).1 := by
  unfold popH
  simp only
  rw [getElem!_pos _ _ (by omega)]
  conv => rhs; rw [← List.take_append_drop (h.length - 1) (dn (swp h 0 (h.length - 1)) 0 (h.length - 1)).1]
  rw [List.drop_eq_getElem_cons (by omega), List.drop_eq_nil_of_le (by omega)]
 have p1 : ((popH h).1 :: (popH h).2).Perm ((popH h).2 ++ [(popH h).1]) := (List.perm_append_singleton _ _).symm
 rw [e] at p1
 exact p1.trans ((dn_perm _ _ _ (by rw [swp_len]; omega)).trans (swp_perm hpos (by omega)))
theorem popH_len {h : List It} (h0 : h ≠ []) : (popH h).2.length = h.length - 1 := by
 have := (popH_perm h0).length_eq
 simp at this; omega
def newH (l : List It) : List It := hini (l.map It.canon) (l.length / 2)
theorem canon_okI {x : It} (h : x.ok) : x.canon.ok := ⟨canon_lt h.1, h.2⟩
theorem newH_perm (l : List It) : (newH l).Perm (l.map It.canon) := hini_perm _ _
theorem newH_len (l : List It) : (newH l).length = l.length := by have := (newH_perm l).length_eq; simpa using this
theorem newH_ok {l : List It} (h : ∀ x ∈ l, x.ok) : ∀ x ∈ newH l, x.ok := by
 intro x hx
 have := (newH_perm l).mem_iff.1 hx
 obtain ⟨y, hy, rfl⟩ := List.mem_map.1 this
 exact canon_okI (h y hy)
theorem pile_New (l : List It) (hl : l.length < 1000000000000) (hok : ∀ x ∈ l, x.ok) (sg : List (List D)) :
    LL.call n_pile_New [.l .z 2 (l.map eI)] sg sg.length = some (.p sg.length 0, sg ++ [hp (newH l)], sg.length) := by
 generalize hr : newH l = r
 refine wp_call e_pile_New rfl ?_
 simp [F_pile_New]
 refine wc_up l.length (fun i => ⟨[(3, .v (.p sg.length 0)), (8, .v (.l .z 2 (l.map eI))), (9, .v (.i .i64 l.length)), (10, .v (.i .i64 i))], [], sg ++ [hp ((l.take i).map It.canon)], sg.length⟩) (fun _ => True) ?_ ?_ 0 (by omega) trivial
 ·intro i hi _ ih
  have w1 : IntKind.i64.wrap ((i : Int) + 1) = ((i + 1 : Nat) : Int) := by rw [wrap64 (by omega)]; omega
  have C1 : callpv LL n_pile_Item_Canon [eI l[i]] = some (eI l[i].canon) := callpv_of rfl (c_pile_Item_Canon l[i] (hok _ (List.getElem_mem hi)) [])
  have ih := ih trivial
  simp at C1
  have hlen : (i + 1 : Int) * 16 ≤ 140737488355328 := by omega
  simp [hi, C1, hp, w1]
  refine ⟨by omega, ?_⟩
  have e : ((l.take (i + 1)).map It.canon).map eI = List.take i (List.map (eI ∘ It.canon) l) ++ [.a [.f .f64 l[i].canon.p, .i .i64 l[i].canon.v]] := by
   simp only [List.map_map, List.map_take]
   rw [List.take_succ_eq_append_getElem (by simpa using hi)]; simp
  simp only [hp, e] at ih
  simpa using ih
 ·intro _
  have hg : sg.length < (sg ++ [hp (l.map It.canon)]).length := by simp
  have I1 := heap_Init (h := l.map It.canon) hg (by simpa using hl) (by
   intro x hx
   obtain ⟨y, hy, rfl⟩ := List.mem_map.1 hx
   exact canon_okI (hok y hy))
  simp at I1
  simp [I1]
  rw [← hr]; rfl
theorem pile_Take {g : Nat} {h : List It} {sg : List (List D)} (hg : g < sg.length) (hl : h.length < 1000000000000) (hok : ∀ x ∈ h, x.ok) :
    LL.call n_pile_Pile_Take [.p g 0] (sg.set g (hp h)) (sg.set g (hp h)).length = some (if h = [] then .t [eI ⟨0, 0⟩, .b false] else .t [eI (popH h).1, .b true], if h = [] then sg.set g (hp h) else sg.set g (hp (popH h).2), (sg.set g (hp h)).length) := by
 refine wp_call e_pile_Pile_Take rfl ?_
 by_cases h0 : h = []
 ·subst h0
  simp [F_pile_Pile_Take, hg, hp, St.at]
  exact List.take_of_length_le (by simp)
 ·have P1 := heap_Pop hg h0 hl hok
  simp [hp] at P1
  have hpos := List.length_pos_iff.2 h0
  simp [F_pile_Pile_Take, hg, hp, St.at, h0]
  refine bq_i (fun c => ?_) (fun c => ?_) <;> (have c' := c) <;> simp at c'
  ·exact absurd c' h0
  ·simp [c, P1]
   refine ⟨h0, ?_⟩
   rw [if_neg h0]
   exact List.take_of_length_le (by simp)
def allH (h : List It) : List It := if h0 : h = [] then [] else (popH h).1 :: allH (popH h).2
termination_by h.length
decreasing_by
 rw [popH_len h0]
 have := List.length_pos_iff.2 h0
 omega
theorem cps_eI : ∀ l : List It, D.cps (l.map eI) = some (l.map eI)
 | [] => rfl
 | x :: l => by simp [D.cps, D.cp, cps_eI l]
theorem popH_ok {h : List It} (h0 : h ≠ []) (hok : ∀ x ∈ h, x.ok) : (popH h).1.ok ∧ ∀ x ∈ (popH h).2, x.ok :=
 ⟨hok _ ((popH_perm h0).mem_iff.1 (by simp)), fun x hx => hok _ ((popH_perm h0).mem_iff.1 (by simp [hx]))⟩
theorem pile_All {g : Nat} {h : List It} {sg : List (List D)} (hg : sg[g]? = some (hp h)) (hl : h.length < 1000000000) (hok : ∀ x ∈ h, x.ok) :
    LL.call n_pile_Pile_All [.p g 0] sg sg.length = some (.l .o 2 ((allH h).map eI), sg, sg.length) := by
 generalize hr : allH h = r
 refine wp_call e_pile_Pile_All rfl ?_
 have hlt : g < sg.length := by rw [List.getElem?_eq_some_iff] at hg; exact hg.1
 have hg2 : sg[g] = hp h := by rw [List.getElem?_eq_some_iff] at hg; exact hg.2
 have hc := cps_eI h
 simp [F_pile_Pile_All, hg2, hp, St.at, hlt, hc]
 refine ⟨by omega, ?_⟩
 refine wc_ind (fun a : List It × List It => ⟨[(3, .v (.p sg.length 0)), (4, .v (.l .o 2 (a.2.map eI)))], [], sg ++ [hp a.1], sg.length⟩) (fun a => a.1.length) (fun a => a.2 ++ allH a.1 = r ∧ a.1.length + a.2.length < 1000000000 ∧ ∀ x ∈ a.1, x.ok) ?_ (h, []) ⟨by simpa using hr, by simpa using hl, hok⟩
 rintro ⟨h', acc⟩ ⟨p1, p2, p3⟩ ih
 simp only at p1 p2 p3 ih
 have T1 := pile_Take (g := sg.length) (h := h') (sg := sg ++ [hp h']) (by simp) (by omega) p3
 by_cases h0 : h' = []
 ·subst h0
  rw [allH, dif_pos rfl] at p1
  simp at p1 T1
  subst p1
  simp [T1]
 ·rw [allH, dif_neg h0] at p1
  simp [h0] at T1
  have := popH_len h0
  have hpos := List.length_pos_iff.2 h0
  have ih := ih ((popH h').2, acc ++ [(popH h').1]) (by simp; omega) ⟨by simpa using p1, by simp; omega, (popH_ok h0 p3).2⟩
  simp [T1]
  exact ⟨by omega, by simpa using ih⟩
theorem c_pile_Sorted (l : List It) (hl : l.length < 1000000000) (hok : ∀ x ∈ l, x.ok) (sg : List (List D)) :
    LL.call n_pile_Sorted [.l .z 2 (l.map eI)] sg sg.length = some (.l .o 2 ((allH (newH l)).map eI), sg, sg.length) := by
 have N1 := pile_New l (by omega) hok sg
 have A1 := pile_All (g := sg.length) (h := newH l) (sg := sg ++ [hp (newH l)]) (by simp) (by rw [newH_len]; exact hl) (newH_ok hok)
 refine wp_call e_pile_Sorted rfl ?_
 simp at N1 A1
 simp [F_pile_Sorted, N1, A1]
end Go.AM

namespace Go.AM
theorem i64_mask (i : Nat) (hi : i ≤ 62) (x : Int) : bits .and .i64 x (2 ^ i - 1) = x % 2 ^ i := by
 have hpos : 0 < 2 ^ i := Nat.two_pow_pos i
 have hlt : 2 ^ i ≤ 2 ^ 62 := Nat.pow_le_pow_right (by decide) hi
 have hc : ((2 : Int) ^ i - 1) = ((2 ^ i - 1 : Nat) : Int) := by rw [Int.natCast_sub hpos]; simp
 rw [hc]
 show IntKind.i64.wrap ((BitVec.ofInt 64 x &&& BitVec.ofInt 64 ((2 ^ i - 1 : Nat) : Int) : BitVec 64).toNat : Int) = _
 rw [BitVec.ofInt_natCast, BitVec.toNat_and, BitVec.toNat_ofNat, Nat.mod_eq_of_lt (show 2 ^ i - 1 < 2 ^ 64 by omega), Nat.and_two_pow_sub_one_eq_mod]
 have e1 : ((BitVec.ofInt 64 x).toNat : Int) = x % 2 ^ 64 := by rw [BitVec.toNat_ofInt]; omega
 have hd : (2 : Int) ^ i ∣ 2 ^ 64 := by
  have := Nat.pow_dvd_pow 2 (show i ≤ 64 by omega)
  exact_mod_cast this
 have e2 : (((BitVec.ofInt 64 x).toNat % 2 ^ i : Nat) : Int) = x % 2 ^ i := by
  rw [Int.natCast_emod, e1, Int.natCast_pow]
  exact Int.emod_emod_of_dvd x hd
 rw [e2, wrap64]
 have := Int.emod_nonneg x (show (2 : Int) ^ i ≠ 0 by exact_mod_cast Nat.pos_iff_ne_zero.1 hpos)
 have h3 := Int.emod_lt_of_pos x (show (0 : Int) < 2 ^ i by exact_mod_cast hpos)
 have h4 : (2 : Int) ^ i ≤ 2 ^ 62 := by exact_mod_cast hlt
 constructor
 ·omega
 ·have : (2 : Int) ^ 62 = 4611686018427387904 := by decide
  omega
theorem i64_255 (x : Int) : bits .and .i64 x 255 = x % 256 := i64_mask 8 (by decide) x
theorem i64_40 (x : Int) : bits .and .i64 x 1099511627775 = x % 1099511627776 := i64_mask 40 (by decide) x
def legal (k p : Int) : Int := if k < 1 ∨ k > 4 then 6 else if p < 1 ∨ p > 16 ∨ (k = 4 ∧ p ≠ 1 ∧ p ≠ 2 ∧ p ≠ 4 ∧ p ≠ 8 ∧ p ≠ 16) then 5 else 0
def kindOf (k : Int) : Int := 1 + k % 4
def paramOf (k p : Int) : Int := if kindOf k = 4 then 2 ^ (p % 256 % 5).toNat else 1 + p % 16
theorem kindOf_le (k : Int) : 1 ≤ kindOf k ∧ kindOf k ≤ 4 := by unfold kindOf; omega
theorem paramOf_le (k p : Int) : 1 ≤ paramOf k p ∧ paramOf k p ≤ 16 := by
 unfold paramOf
 split
 ·have : (p % 256 % 5).toNat = 0 ∨ (p % 256 % 5).toNat = 1 ∨ (p % 256 % 5).toNat = 2 ∨ (p % 256 % 5).toNat = 3 ∨ (p % 256 % 5).toNat = 4 := by omega
  rcases this with h | h | h | h | h <;> rw [h] <;> decide
 ·omega
theorem tmod_nn (a b : Int) (h : 0 ≤ a) : a.tmod b = a % b := Int.tmod_eq_emod_of_nonneg h
theorem c_law12_Kind (k p : Int) (sg) : LL.call n_c_law12_Kind [.i .i64 k, .i .i64 p] sg sg.length = some (.t [.i .i64 (kindOf k), .i .i64 (paramOf k p)], sg, sg.length) := by
 refine wp_call e_c_law12_Kind rfl ?_
 have e1 : (k % 256).tmod 4 = k % 4 := by rw [tmod_nn _ _ (by omega)]; omega
 have e2 : (p % 256).tmod 5 = p % 256 % 5 := tmod_nn _ _ (by omega)
 have e3 : (p % 256).tmod 16 = p % 16 := by rw [tmod_nn _ _ (by omega)]; omega
 have e4 : IntKind.i64.wrap (1 + k % 4) = kindOf k := wrap64 (by omega)
 have e5 : IntKind.i64.wrap (1 + p % 16) = 1 + p % 16 := wrap64 (by omega)
 simp [F_c_law12_Kind, i64_255, e1, e4]
 refine bq_i (fun h => ?_) (fun h => ?_) <;> (have h' := h) <;> (try simp at h') <;> simp [h, h', i64_255, e2, e3, e5]
 ·refine ⟨by omega, ?_⟩
  have e6 : min (p % 256 % 5).toNat IntKind.i64.bits = (p % 256 % 5).toNat := by simp [IntKind.bits]; omega
  rw [e6, paramOf, if_pos h']
  refine wrap64 ?_
  have : (p % 256 % 5).toNat = 0 ∨ (p % 256 % 5).toNat = 1 ∨ (p % 256 % 5).toNat = 2 ∨ (p % 256 % 5).toNat = 3 ∨ (p % 256 % 5).toNat = 4 := by omega
  rcases this with h | h | h | h | h <;> rw [h] <;> decide
 ·simp [paramOf, h']
end Go.AM

namespace Go.AM
def shapeOf (k p : Int) : Int × Int := if k = 1 then (p, 0) else if k = 2 then (1, 0) else if k = 3 then (0, p) else if k = 4 then (0, 1) else (0, 0)
end Go.AM

namespace Go.AM
def ordered : List It → Bool
 | x :: y :: r => decide (0 ≤ cmpI y x) && ordered (y :: r)
 | _ => true
def orderE (k : Int) (l : List It) : Int := if k = 1 then (if 62 < l.length then 3 else if ordered l then 0 else 14) else 0
structure Im where
 k : Int
 p : Int
 c : Int
 ls : List (List It)
 cs : List Int
def eIm (x : Im) : D := .a [.i .i64 x.k, .i .i64 x.p, .i .u64 x.c, .l .z 1 (x.ls.map (eL 2 eI)), .l .z 1 (x.cs.map (.i .i64))]
def eRm (x : Im) : D := .a [.i .i64 x.k, .i .i64 x.p, .i .u64 x.c, .l .z 1 (x.ls.map (eL 2 eR)), .l .z 1 (x.cs.map (.i .i64))]
def Im.ok (x : Im) : Prop := (∀ l ∈ x.ls, ∀ y ∈ l, y.ok) ∧ (∀ n ∈ x.cs, -9223372036854775808 ≤ n ∧ n ≤ 9223372036854775807) ∧ (x.ls.map List.length).sum ≤ 1099511627776
def ordersE (k : Int) : List (List It) → Int
 | [] => 0
 | l :: r => if orderE k l ≠ 0 then orderE k l else ordersE k r
def badN (n : Int) : Bool := n < 0 || n > 1125899906842624
def countsE (l : List Int) : Int := if l.any badN || l.sum > 1125899906842624 then 4 else 0
def checkI (x : Im) : Int :=
 if legal x.k x.p ≠ 0 then legal x.k x.p else
 if (x.ls.length : Int) ≠ (shapeOf x.k x.p).1 ∨ (x.cs.length : Int) ≠ (shapeOf x.k x.p).2 then 2 else
 if ordersE x.k x.ls ≠ 0 then ordersE x.k x.ls else
 if (x.ls.map List.length).sum > 1000 then 3 else countsE x.cs
theorem cmpI_swap (x y : It) : cmpI y x = - cmpI x y := by
 unfold cmpI cmpV cmpN
 repeat' split
 all_goals omega
end Go.AM

namespace Go.AM
def ltI (x y : It) : Prop := key x.p < key y.p ∨ (key x.p = key y.p ∧ x.v < y.v)
instance (x y : It) : Decidable (ltI x y) := by unfold ltI; infer_instance
theorem cmpI_lt (x y : It) : cmpI x y < 0 ↔ ltI x y := by unfold cmpI cmpN cmpV ltI; repeat' split; all_goals omega
theorem cmpI_ge (x y : It) : 0 ≤ cmpI x y ↔ ¬ ltI x y := by rw [← cmpI_lt]; omega
theorem ltI_trans' {x y z : It} (h1 : ¬ ltI y x) (h2 : ¬ ltI z y) : ¬ ltI z x := by unfold ltI at *; omega
def backN (x : It) (l : List It) : Nat → Nat
 | 0 => 0
 | n + 1 => match l[n]? with
  | some y => if ltI x y then backN x l n else n + 1
  | none => n + 1
def insI (x : It) (l : List It) : List It := l.take (backN x l l.length) ++ x :: l.drop (backN x l l.length)
def sortI (l : List It) : List It := l.foldl (fun o x => insI x o) []
theorem backN_le (x : It) (l : List It) : ∀ n, backN x l n ≤ n
 | 0 => by simp [backN]
 | n + 1 => by
  unfold backN
  split
  ·split
   ·have := backN_le x l n; omega
   ·omega
  ·omega
theorem insI_len (x : It) (l : List It) : (insI x l).length = l.length + 1 := by
 have := backN_le x l l.length
 simp [insI]; omega
theorem sortI_len (l : List It) : (sortI l).length = l.length := by
 have : ∀ (l o : List It), (l.foldl (fun o x => insI x o) o).length = o.length + l.length := by
  intro l
  induction l with
  | nil => simp
  | cons x l ih => intro o; simp only [List.foldl_cons, ih, insI_len, List.length_cons]; omega
 have h := this l []
 simp only [List.length_nil, Nat.zero_add, List.nil_append] at h
 exact h
theorem insI_perm (x : It) (l : List It) : (insI x l).Perm (x :: l) := by
 unfold insI
 refine List.perm_middle.trans ?_
 rw [List.take_append_drop]
theorem sortI_perm (l : List It) : (sortI l).Perm l := by
 have : ∀ (l o : List It), (l.foldl (fun o x => insI x o) o).Perm (o ++ l) := by
  intro l
  induction l with
  | nil => simp
  | cons x l ih =>
   intro o
   simp only [List.foldl_cons]
   refine (ih (insI x o)).trans ?_
   refine ((insI_perm x o).append_right l).trans ?_
   exact List.perm_middle.symm
 have h := this l []
 simp only [List.length_nil, Nat.zero_add, List.nil_append] at h
 exact h
theorem ordered_pw : ∀ l : List It, ordered l = true ↔ l.Pairwise (fun a b => ¬ ltI b a)
 | [] => by simp [ordered]
 | [x] => by simp [ordered]
 | x :: y :: r => by
  have ih := ordered_pw (y :: r)
  simp only [ordered, Bool.and_eq_true, decide_eq_true_eq, ih, cmpI_ge]
  constructor
  ·rintro ⟨h1, h2⟩
   refine List.pairwise_cons.2 ⟨fun z hz => ?_, h2⟩
   rcases List.mem_cons.1 hz with rfl | hz
   ·exact h1
   ·exact ltI_trans' h1 ((List.pairwise_cons.1 h2).1 z hz)
  ·intro h
   have h' := List.pairwise_cons.1 h
   exact ⟨h'.1 y (by simp), h'.2⟩
theorem backN_above (x : It) (l : List It) : ∀ n, n ≤ l.length → ∀ j, backN x l n ≤ j → j < n → ∀ y, l[j]? = some y → ltI x y
 | 0 => by omega
 | n + 1 => by
  intro hn j h1 h2 y hy
  have q : l[n]? = some l[n] := List.getElem?_eq_getElem (by omega)
  rw [backN, q] at h1
  simp only at h1
  split at h1
  ·by_cases e : j = n
   ·subst e; rw [q] at hy; cases hy; assumption
   ·exact backN_above x l n (by omega) j h1 (by omega) y hy
  ·omega
theorem backN_below (x : It) (l : List It) : ∀ n, n ≤ l.length → 0 < backN x l n → ∃ y, l[backN x l n - 1]? = some y ∧ ¬ ltI x y
 | 0 => by simp [backN]
 | n + 1 => by
  intro hn h
  have q : l[n]? = some l[n] := List.getElem?_eq_getElem (by omega)
  rw [backN, q] at h ⊢
  simp only at h ⊢
  split
  ·rename_i e
   rw [if_pos e] at h
   exact backN_below x l n (by omega) h
  ·exact ⟨_, q, by assumption⟩
theorem insI_ordered (x : It) (l : List It) (h : ordered l = true) : ordered (insI x l) = true := by
 rw [ordered_pw] at h ⊢
 have hle := backN_le x l l.length
 unfold insI
 refine List.pairwise_append.2 ⟨h.sublist (List.take_sublist _ _), List.pairwise_cons.2 ⟨fun y hy => ?_, h.sublist (List.drop_sublist _ _)⟩, fun a ha b hb => ?_⟩
 ·obtain ⟨j, hj⟩ := List.mem_iff_getElem?.1 hy
  rw [List.getElem?_drop] at hj
  have : backN x l l.length + j < l.length := (List.getElem?_eq_some_iff.1 hj).1
  have := backN_above x l l.length (by omega) _ (by omega) this y hj
  unfold ltI at *; omega
 ·have hax : ¬ ltI x a := by
   obtain ⟨j, hj⟩ := List.mem_iff_getElem?.1 ha
   rw [List.getElem?_take] at hj
   split at hj
   ·rename_i hlt
    obtain ⟨y, hy, hxy⟩ := backN_below x l l.length (by omega) (by omega)
    by_cases e : j = backN x l l.length - 1
    ·subst e; rw [hj] at hy; cases hy; exact hxy
    ·obtain ⟨p1, q1⟩ := List.getElem?_eq_some_iff.1 hj
     obtain ⟨p2, q2⟩ := List.getElem?_eq_some_iff.1 hy
     have := List.pairwise_iff_getElem.1 h j (backN x l l.length - 1) p1 p2 (by omega)
     rw [q1, q2] at this
     exact ltI_trans' this hxy
   ·cases hj
  rcases List.mem_cons.1 hb with rfl | hb
  ·exact hax
  ·have : a ∈ l.take (backN x l l.length) := ha
   have h2 := List.take_append_drop (backN x l l.length) l
   rw [← h2] at h
   exact (List.pairwise_append.1 h).2.2 a ha b hb
theorem sortI_ordered (l : List It) : ordered (sortI l) = true := by
 have : ∀ (l o : List It), ordered o = true → ordered (l.foldl (fun o x => insI x o) o) = true := by
  intro l
  induction l with
  | nil => exact fun o h => h
  | cons x l ih => exact fun o h => ih _ (insI_ordered x o h)
 exact this l [] rfl
end Go.AM

namespace Go.AM
def eLK {α : Type} (K : K) (sz : Nat) (e : α → D) (l : List α) : D := .l K sz (l.map e)
theorem zzs_eLK {α : Type} (K : K) (sz : Nat) (e : α → D) [Flat e] : ∀ l : List (List α), D.zzs (l.map (eLK K sz e)) = l.map (eL sz e)
 | [] => rfl
 | x :: l => by simp [D.zzs, zzs_eLK K sz e l, eLK, eL]
theorem fzs_eLK {α : Type} (K : K) (hK : K = .o ∨ K = .x) (sz : Nat) (e : α → D) [Flat e] : ∀ l : List (List α), D.fzs (l.map (eLK K sz e)) = l.map (eL sz e)
 | [] => rfl
 | x :: l => by
  have ih := fzs_eLK K hK sz e l
  rcases hK with rfl | rfl <;> simp only [List.map_cons, D.fzs, ih] <;> simp [eLK, eL]
theorem fzs_eLo {α : Type} (sz : Nat) (e : α → D) [Flat e] (l : List (List α)) : D.fzs (l.map (eLK .o sz e)) = l.map (eL sz e) := fzs_eLK _ (.inl rfl) sz e l
theorem fzs_eLx {α : Type} (sz : Nat) (e : α → D) [Flat e] (l : List (List α)) : D.fzs (l.map (eLK .x sz e)) = l.map (eL sz e) := fzs_eLK _ (.inr rfl) sz e l
attribute [simp] zzs_eLK fzs_eLo fzs_eLx eL eLK
def eImK (K1 K2 K3 : K) (x : Im) : D := .a [.i .i64 x.k, .i .i64 x.p, .i .u64 x.c, .l K1 1 (x.ls.map (eLK K2 2 eI)), .l K3 1 (x.cs.map (.i .i64))]
theorem zz_eImK (K1 K2 K3 : K) (x : Im) : D.zz (eImK K1 K2 K3 x) = eIm x := by simp [eImK, eIm]
attribute [simp] zz_eImK
structure Raw where
 k : Int
 p : Int
 c : Int
 is : List It
 cs : List Int
 sp : Int
def eRaw (x : Raw) : D := .a [.i .i64 x.k, .i .i64 x.p, .i .u64 x.c, .l .z 2 (x.is.map eR), .l .z 1 (x.cs.map (.i .i64)), .i .i64 x.sp]
def Raw.ok (x : Raw) : Prop := (∀ y ∈ x.is, y.ok) ∧ (0 ≤ x.c ∧ x.c < 18446744073709551616) ∧ (-9223372036854775808 ≤ x.sp ∧ x.sp ≤ 9223372036854775807)
def dealI (n : Nat) : List (List It) → Nat → List It → List (List It)
 | a, _, [] => a
 | a, i, x :: r => dealI n (a.set (i % n) ((a[i % n]?).getD [] ++ [x.canon])) (i + 1) r
def makeCs (m : Nat) (cs : List Int) : List Int := (List.range m).map fun i => match cs[i]? with
 | some n => n % 1099511627776
 | none => 0
def makeI (x : Raw) : Im :=
 let k := kindOf x.k
 let p := paramOf x.k x.p
 let n := (shapeOf k p).1.toNat
 let ls := dealI n (List.replicate n []) 0 (if n = 0 then [] else x.is.take 60)
 ⟨k, p, x.c, if k = 1 then ls.map sortI else ls, makeCs (shapeOf k p).2.toNat x.cs⟩
end Go.AM

namespace Go.AM
def eRmK (K1 K2 K3 : K) (x : Im) : D := .a [.i .i64 x.k, .i .i64 x.p, .i .u64 x.c, .l K1 1 (x.ls.map (eLK K2 2 eR)), .l K3 1 (x.cs.map (.i .i64))]
theorem zz_eRmK (K1 K2 K3 : K) (x : Im) : D.zz (eRmK K1 K2 K3 x) = eRm x := by simp [eRmK, eRm]
attribute [simp] zz_eRmK
def toldI (x : Im) : Im := { x with ls := x.ls.map (·.map It.canon) }
def Im.small (x : Im) : Prop := x.ls.length ≤ 1099511627776 ∧ x.cs.length ≤ 1099511627776 ∧ ∀ l ∈ x.ls, l.length ≤ 1099511627776
end Go.AM

namespace Go.AM
end Go.AM

namespace Go.AM
theorem map_eq_iff {α β γ : Type} (f : α → γ) (g : β → γ) (a : List α) (b : List β) (hl : a.length = b.length) : a.map f = b.map g ↔ ∀ i, ∀ (h : i < a.length), f a[i] = g (b[i]'(hl ▸ h)) := by
 constructor
 ·intro h i hi
  have h1 : (a.map f)[i]? = (b.map g)[i]? := by rw [h]
  rw [List.getElem?_map, List.getElem?_map, List.getElem?_eq_getElem hi, List.getElem?_eq_getElem (hl ▸ hi)] at h1
  simpa using h1
 ·intro h
  apply List.ext_getElem (by simp [hl])
  intro i h1 h2
  simp at h1
  simp [h i h1]
theorem cmpI_zero {x y : It} (hx : x.ok) (hy : y.ok) : cmpI x y = 0 ↔ x.canon = y.canon := by
 have h1 : cmpN (key x.p) (key y.p) = 0 ↔ AM.canon x.p = AM.canon y.p := by
  constructor
  ·intro h
   refine keyC_inj (canon_lt hx.1) (canon_lt hy.1) ?_
   show key x.p = key y.p
   unfold cmpN at h
   split at h
   ·omega
   ·split at h <;> omega
  ·intro h
   have : key x.p = key y.p := by unfold key; rw [h]
   unfold cmpN; rw [this]; simp
 unfold It.canon cmpI
 by_cases h : AM.canon x.p = AM.canon y.p
 ·rw [if_neg (by simp [h1.2 h])]
  simp only [h, It.mk.injEq, true_and]
  unfold cmpV
  split
  ·omega
  ·split <;> omega
 ·have : cmpN (key x.p) (key y.p) ≠ 0 := fun h2 => h (h1.1 h2)
  rw [if_pos this]
  simp [h, this]
theorem c_law04_Is (x y : It) (sg) : LL.call n_c_law04_Is [eI x, eR y] sg sg.length = some (.i .i64 (if x = y then 0 else -1), sg, sg.length) := by
 refine wp_call e_c_law04_Is rfl ?_
 have hxy : x = y ↔ x.p = y.p ∧ x.v = y.v := by cases x; cases y; simp
 by_cases h1 : x.p = y.p
 ·have b1 : ((x.p : Int) != y.p) = false := by simp [h1]
  by_cases h2 : x.v = y.v
  ·have b2 : (x.v != y.v) = false := by simp [h2]
   have : x = y := hxy.2 ⟨h1, h2⟩
   simp [F_c_law04_Is, b1, b2]
   simp [this]
  ·have b2 : (x.v != y.v) = true := by simpa using h2
   have : ¬ x = y := fun h => h2 (hxy.1 h).2
   simp [F_c_law04_Is, b1, b2]
   simp [this]
 ·have b1 : ((x.p : Int) != y.p) = true := by simp; omega
  have : ¬ x = y := fun h => h1 (hxy.1 h).1
  simp [F_c_law04_Is, b1]
  simp [this]
theorem c_law04_Are (a b : List It) (ha : a.length ≤ 1099511627776) (sg) : LL.call n_c_law04_Are [.l .z 2 (a.map eI), .l .z 2 (b.map eR)] sg sg.length = some (.i .i64 (if a = b then 0 else -1), sg, sg.length) := by
 refine wp_call e_c_law04_Are rfl ?_
 by_cases hl : a.length = b.length
 ·have b0 : ((a.length : Int) != b.length) = false := by simp; omega
  have hiff := map_eq_iff id id a b hl
  simp only [List.map_id, id] at hiff
  simp [F_c_law04_Are, b0]
  refine wc_up a.length (fun i => ⟨[(0, .v (.l .z 2 (a.map eI))), (1, .v (.l .z 2 (b.map eR))), (12, .v (.i .i64 b.length)), (13, .v (.i .i64 i))], [], sg, sg.length⟩) (fun i => ∀ j, j < i → ∀ (h : j < a.length), a[j] = b[j]) ?_ ?_ 0 (by omega) (by omega)
  ·intro i hi hp ih
   have hib : i < b.length := by omega
   have hi' : (i : Int) < b.length := by omega
   have hi2 : (i : Int) < a.length := by omega
   have h1 := c_law04_Is a[i] b[i] sg
   have w1 : IntKind.i64.wrap ((i : Int) + 1) = i + 1 := wrap64 (by omega)
   simp at h1
   by_cases he : a[i] = b[i]
   ·rw [if_pos he] at h1
    simp [hi', hib, hi, hi2, h1]
    have := ih (fun j hj h => by
     by_cases e : j = i
     ·subst e; exact he
     ·exact hp j (by omega) h)
    simpa [w1] using this
   ·rw [if_neg he] at h1
    have : ¬ a = b := fun h => he (hiff.1 h i hi)
    simp [hi', hib, hi, hi2, h1]
    simp [this]
  ·intro hp
   have : a = b := hiff.2 (fun i h => hp i h h)
   simp [← hl]
   simp [this]
 ·have b0 : ((a.length : Int) != b.length) = true := by simp; omega
  have : ¬ a = b := fun h => hl (by rw [h])
  simp [F_c_law04_Are, b0]
  simp [this]
instance : DecidableEq Im := fun x y => decidable_of_iff (x.k = y.k ∧ x.p = y.p ∧ x.c = y.c ∧ x.ls = y.ls ∧ x.cs = y.cs) (by cases x; cases y; simp)
end Go.AM

namespace Go.AM
abbrev leI (a b : It) : Prop := ¬ ltI b a
theorem leI_refl (a : It) : leI a a := by unfold leI ltI; omega
theorem leI_trans {a b c : It} (h1 : leI a b) (h2 : leI b c) : leI a c := ltI_trans' h1 h2
theorem leI_of_lt {a b : It} (h : ltI a b) : leI a b := by unfold leI ltI at *; omega
theorem swp_get {h : List It} {i j : Nat} (hi : i < h.length) (hj : j < h.length) (k : Nat) : (swp h i j)[k]! = if k = j then h[i]! else if k = i then h[j]! else h[k]! := by
 unfold swp
 simp only [List.getElem!_eq_getElem?_getD, List.getElem?_set, List.length_set]
 by_cases e : j = k
 ·subst e; simp [hj]
 ·rw [if_neg e, if_neg (Ne.symm e)]
  by_cases e2 : i = k
  ·subst e2; simp [hi]
  ·rw [if_neg e2, if_neg (Ne.symm e2)]
def HP (h : List It) (s n : Nat) : Prop := ∀ j, 1 ≤ j → j < n → s ≤ (j - 1) / 2 → leI h[(j - 1) / 2]! h[j]!
def PreH (h : List It) (i s n : Nat) : Prop := s ≤ i ∧ (∀ j, 1 ≤ j → j < n → s ≤ (j - 1) / 2 → (j - 1) / 2 ≠ i → leI h[(j - 1) / 2]! h[j]!) ∧
 (1 ≤ i → s ≤ (i - 1) / 2 → ∀ c, (c - 1) / 2 = i → 1 ≤ c → c < n → leI h[(i - 1) / 2]! h[c]!)
theorem pre_swp {h : List It} {i s n c : Nat} (hn : n ≤ h.length) (hp : PreH h i s n) (hc : c = 2 * i + 1 ∨ c = 2 * i + 2) (hcn : c < n) (hlt : ltI h[c]! h[i]!)
    (hsib : ∀ d, (d = 2 * i + 1 ∨ d = 2 * i + 2) → d < n → leI h[c]! h[d]!) : PreH (swp h i c) c s n := by
 obtain ⟨h1, h2, h3⟩ := hp
 have hi : i < h.length := by omega
 have hcl : c < h.length := by omega
 refine ⟨by omega, fun j j1 j2 j3 j4 => ?_, fun _ _ d d1 d2 d3 => ?_⟩
 ·rw [swp_get hi hcl, swp_get hi hcl, if_neg j4]
  by_cases e : j = c
  ·rw [if_pos e, if_pos (by omega)]
   exact leI_of_lt hlt
  ·rw [if_neg e]
   by_cases e2 : j = i
   ·rw [if_pos e2, if_neg (by omega)]
    subst e2
    exact h3 j1 j3 c (by omega) (by omega) hcn
   ·rw [if_neg e2]
    by_cases e3 : (j - 1) / 2 = i
    ·rw [if_pos e3]
     exact hsib j (by omega) j2
    ·rw [if_neg e3]
     exact h2 j j1 j2 j3 e3
 ·rw [swp_get hi hcl, swp_get hi hcl, if_neg (by omega), if_pos (by omega), if_neg (by omega), if_neg (by omega)]
  have := h2 d d2 d3 (by omega) (by omega)
  rw [d1] at this; exact this
theorem hp_stop {h : List It} {i s n : Nat} (hp : PreH h i s n) (hle : ∀ d, (d = 2 * i + 1 ∨ d = 2 * i + 2) → d < n → leI h[i]! h[d]!) : HP h s n := by
 intro j j1 j2 j3
 by_cases e : (j - 1) / 2 = i
 ·rw [e]; exact hle j (by omega) j2
 ·exact hp.2.1 j j1 j2 j3 e
theorem dn_hp {h : List It} {i n s : Nat} (hn : n ≤ h.length) (hp : PreH h i s n) : HP (dn h i n).1 s n := by
 fun_induction dn h i n with
 | case1 h i h1 h2 h3 ih =>
  refine ih (by rw [swp_len]; exact hn) (pre_swp hn hp (.inr rfl) h2.1 ((cmpI_lt _ _).1 h3) ?_)
  rintro d (rfl | rfl) hd
  ·exact leI_of_lt ((cmpI_lt _ _).1 h2.2)
  ·exact leI_refl _
 | case2 h i h1 h2 h3 =>
  refine hp_stop hp ?_
  have e3 : leI h[i]! h[2 * i + 2]! := (cmpI_ge _ _).1 (by omega)
  rintro d (rfl | rfl) hd
  ·exact leI_trans e3 (leI_of_lt ((cmpI_lt _ _).1 h2.2))
  ·exact e3
 | case3 h i h1 h2 h3 ih =>
  refine ih (by rw [swp_len]; exact hn) (pre_swp hn hp (.inl rfl) h1 ((cmpI_lt _ _).1 h3) ?_)
  rintro d (rfl | rfl) hd
  ·exact leI_refl _
  ·exact (cmpI_ge _ _).1 (Int.not_lt.1 (fun e => h2 ⟨hd, e⟩))
 | case4 h i h1 h2 h3 =>
  refine hp_stop hp ?_
  have e3 : leI h[i]! h[2 * i + 1]! := (cmpI_ge _ _).1 (by omega)
  rintro d (rfl | rfl) hd
  ·exact e3
  ·exact leI_trans e3 ((cmpI_ge _ _).1 (Int.not_lt.1 (fun e => h2 ⟨hd, e⟩)))
 | case5 h i h1 =>
  refine hp_stop hp ?_
  rintro d (rfl | rfl) hd <;> omega
theorem dn_above {h : List It} {i n : Nat} (hn : n ≤ h.length) (k : Nat) (hk : n ≤ k) : (dn h i n).1[k]! = h[k]! := by
 fun_induction dn h i n with
 | case1 h i h1 h2 h3 ih => rw [ih (by rw [swp_len]; exact hn), swp_get (by omega) (by omega), if_neg (by omega), if_neg (by omega)]
 | case2 h i h1 h2 h3 => rfl
 | case3 h i h1 h2 h3 ih => rw [ih (by rw [swp_len]; exact hn), swp_get (by omega) (by omega), if_neg (by omega), if_neg (by omega)]
 | case4 h i h1 h2 h3 => rfl
 | case5 h i h1 => rfl
theorem hini_hp : ∀ (k : Nat) (h : List It), HP h k h.length → HP (hini h k) 0 h.length
 | 0, h, hp => hp
 | k + 1, h, hp => by
  rw [hini]
  have e := dn_len h k h.length (Nat.le_refl _)
  have := hini_hp k (dn h k h.length).1 (by
   rw [e]
   refine dn_hp (Nat.le_refl _) ⟨Nat.le_refl _, fun j j1 j2 j3 j4 => hp j j1 j2 (by omega), fun h1 h2 => by omega⟩)
  rw [e] at this; exact this
theorem newH_hp (l : List It) : HP (newH l) 0 (newH l).length := by
 rw [newH_len]
 have := hini_hp (l.length / 2) (l.map It.canon) (fun j j1 j2 j3 => by simp at j2; omega)
 simpa [newH] using this
theorem hp_min {h : List It} {n : Nat} (hp : HP h 0 n) : ∀ k, k < n → leI h[0]! h[k]! := by
 intro k
 induction k using Nat.strongRecOn with
 | ind k ih =>
  intro hk
  by_cases e : k = 0
  ·subst e; exact leI_refl _
  ·exact leI_trans (ih ((k - 1) / 2) (by omega) (by omega)) (hp k (by omega) hk (Nat.zero_le _))
theorem popH_first {h : List It} (h0 : h ≠ []) : (popH h).1 = h[0]! := by
 have hpos : 0 < h.length := List.length_pos_iff.2 h0
 show (dn (swp h 0 (h.length - 1)) 0 (h.length - 1)).1[h.length - 1]! = _
 rw [dn_above (by rw [swp_len]; omega) _ (Nat.le_refl _), swp_get hpos (by omega), if_pos rfl]
theorem popH_hp {h : List It} (h0 : h ≠ []) (hp : HP h 0 h.length) : HP (popH h).2 0 (popH h).2.length := by
 have hpos : 0 < h.length := List.length_pos_iff.2 h0
 rw [popH_len h0]
 have e : HP (dn (swp h 0 (h.length - 1)) 0 (h.length - 1)).1 0 (h.length - 1) := by
  refine dn_hp (by rw [swp_len]; omega) ⟨Nat.le_refl _, fun j j1 j2 j3 j4 => ?_, fun h1 => by omega⟩
  rw [swp_get hpos (by omega), swp_get hpos (by omega), if_neg (by omega), if_neg (by omega), if_neg (by omega), if_neg (by omega)]
  exact hp j j1 (by omega) j3
 intro j j1 j2 j3
 have e2 : ∀ k, k < h.length - 1 → (popH h).2[k]! = (dn (swp h 0 (h.length - 1)) 0 (h.length - 1)).1[k]! := by
  intro k hk
  simp only [popH, List.getElem!_eq_getElem?_getD, List.getElem?_take, if_pos hk]
 rw [e2 _ (by omega), e2 _ j2]
 exact e j j1 j2 j3
theorem allH_perm (h : List It) : (allH h).Perm h := by
 fun_induction allH h with
 | case1 => exact .refl _
 | case2 h h0 ih => exact (ih.cons _).trans (popH_perm h0)
theorem allH_ordered (h : List It) (hp : HP h 0 h.length) : (allH h).Pairwise leI := by
 fun_induction allH h with
 | case1 => exact .nil
 | case2 h h0 ih =>
  refine List.pairwise_cons.2 ⟨fun y hy => ?_, ih (popH_hp h0 hp)⟩
  have hy2 : y ∈ h := (popH_perm h0).mem_iff.1 (List.mem_cons_of_mem _ ((allH_perm _).mem_iff.1 hy))
  obtain ⟨k, hk, rfl⟩ := List.mem_iff_getElem.1 hy2
  rw [popH_first h0]
  have := hp_min hp k hk
  rwa [getElem!_pos h k hk] at this
theorem leI_antisymm {a b : It} (ha : a.ok) (hb : b.ok) (ca : a.canon = a) (cb : b.canon = b) (h1 : leI a b) (h2 : leI b a) : a = b := by
 have : cmpI a b = 0 := by
  have e1 := (cmpI_ge a b).2 h2
  have e2 := (cmpI_ge b a).2 h1
  rw [cmpI_swap] at e2
  omega
 have := (cmpI_zero ha hb).1 this
 rwa [ca, cb] at this
theorem ordered_unique {l m : List It} (hl : ∀ x ∈ l, x.ok ∧ x.canon = x) (h1 : l.Pairwise leI) (h2 : m.Pairwise leI) (hp : l.Perm m) : l = m := by
 refine List.Perm.eq_of_pairwise (le := leI) (fun a b ha hb e1 e2 => ?_) h1 h2 hp
 have hb' := hl b (hp.mem_iff.2 hb)
 have ha' := hl a ha
 exact leI_antisymm ha'.1 hb'.1 ha'.2 hb'.2 e1 e2
theorem allH_sort (l : List It) (hok : ∀ x ∈ l, x.ok) : allH (newH l) = sortI (l.map It.canon) := by
 refine ordered_unique (fun x hx => ?_) (allH_ordered _ (newH_hp l)) ((ordered_pw _).1 (sortI_ordered _)) ?_
 ·have := (newH_perm l).mem_iff.1 ((allH_perm _).mem_iff.1 hx)
  obtain ⟨y, hy, rfl⟩ := List.mem_map.1 this
  exact ⟨canon_okI (hok y hy), by simp [It.canon, canon_canon]⟩
 ·exact (allH_perm _).trans ((newH_perm l).trans (sortI_perm _).symm)
theorem c_Sorted (l : List It) (hl : l.length < 1000000000) (hok : ∀ x ∈ l, x.ok) (sg : List (List D)) :
    LL.call n_pile_Sorted [.l .z 2 (l.map eI)] sg sg.length = some (.l .o 2 ((sortI (l.map It.canon)).map eI), sg, sg.length) := by
 rw [c_pile_Sorted l hl hok sg, allH_sort l hok]
end Go.AM

namespace Go.AM
structure Vl where
 k : Int
 is : List It
 n : Int
 deriving DecidableEq
def eVl (K : K) (v : Vl) : D := .a [.i .i64 v.k, .l K 2 (v.is.map eI), .i .i64 v.n]
def eVr (K : K) (v : Vl) : D := .a [.i .i64 v.k, .l K 2 (v.is.map eR), .i .i64 v.n]
def valI (x : Im) : Vl := ⟨x.k, if x.k = 1 then sortI (x.ls.flatten.map It.canon) else x.ls.flatten, x.cs.sum⟩
end Go.AM

namespace Go.AM
def withI (x : It) : List It → List It
 | [] => [x]
 | y :: l => if cmpI x y < 0 then x :: y :: l else y :: withI x l
theorem c_ref04_With (x : It) (l : List It) (hx : x.ok) (hl : ∀ y ∈ l, y.ok) (hn : l.length < 1000000000) (sg) :
    LL.call n_c_ref04_With [.l .z 2 (l.map eR), eR x] sg sg.length = some (.l .o 2 ((withI x l).map eR), sg, sg.length) := by
 generalize hr : withI x l = r
 refine wp_call e_c_ref04_With rfl ?_
 simp [F_c_ref04_With]
 refine wc_list l (fun i (a : List It × Bool) => ⟨[(3, .q (.ptr 3 0)), (5, .v (.l .o 2 (a.1.map eR))), (6, .v (.b a.2)), (10, .v (.l .z 2 (l.map eR))), (11, .v (.i .i64 l.length)), (12, .v (.i .i64 i))],
  [(3, [.i .u64 x.p, .i .i64 x.v])], sg, sg.length⟩) (fun rest a => a.1 ++ (if a.2 then rest else withI x rest) = r ∧ a.1.length + rest.length ≤ l.length + (if a.2 then 1 else 0)) ?_ ?_ ([], false) ⟨by simpa using hr, by simp⟩
 ·rintro i y rest ⟨o, b⟩ hi hlt ⟨h1, h2⟩ ih
  simp only at h1 h2
  simp at h2
  have w1 : IntKind.i64.wrap ((i : Int) + 1) = (i : Int) + 1 := wrap64 (by omega)
  have hlt' : (i : Int) < l.length := by omega
  have C1 := c_ref04_Cmp x y hx (hl _ (mem_of_get hi)) sg
  simp at C1
  cases b with
  | true =>
   simp at h1
   have ih := ih (o ++ [y], true) ⟨by simpa using h1, by simp at h2 ⊢; omega⟩
   simp at h2
   simp [hlt', hi, w1]
   exact ⟨by omega, by simpa using ih⟩
  | false =>
   simp [withI] at h1
   simp at h2
   simp [hlt', hi, w1, C1]
   refine bq_i (fun c => ?_) (fun c => ?_) <;> (have c' := c) <;> simp at c'
   ·rw [if_pos c'] at h1
    have ih := ih (o ++ [x] ++ [y], true) ⟨by simpa using h1, by simp; omega⟩
    simp [c, w1]
    exact ⟨by omega, by omega, by simpa using ih⟩
   ·rw [if_neg (by omega)] at h1
    have ih := ih (o ++ [y], false) ⟨by simpa using h1, by simp; omega⟩
    simp [c, w1]
    exact ⟨by omega, by simpa using ih⟩
 ·rintro ⟨o, b⟩ ⟨h1, h2⟩
  simp only at h1 h2
  simp at h2
  cases b with
  | true =>
   simp at h1
   subst h1
   simp
  | false =>
   simp [withI] at h1
   subst h1
   simp at h2
   simp
   omega
theorem withI_perm (x : It) : ∀ l : List It, (withI x l).Perm (x :: l)
 | [] => .refl _
 | y :: l => by
  unfold withI
  split
  ·exact .refl _
  ·exact ((withI_perm x l).cons y).trans (.swap x y l)
theorem withI_ordered (x : It) : ∀ l : List It, l.Pairwise leI → (withI x l).Pairwise leI
 | [], _ => by simp [withI]
 | y :: l, h => by
  obtain ⟨h1, h2⟩ := List.pairwise_cons.1 h
  unfold withI
  split
  ·rename_i hc
   have hxy : leI x y := leI_of_lt ((cmpI_lt _ _).1 hc)
   refine List.pairwise_cons.2 ⟨fun z hz => ?_, h⟩
   rcases List.mem_cons.1 hz with rfl | hz
   ·exact hxy
   ·exact leI_trans hxy (h1 z hz)
  ·rename_i hc
   have hyx : leI y x := (cmpI_ge _ _).1 (by omega)
   refine List.pairwise_cons.2 ⟨fun z hz => ?_, withI_ordered x l h2⟩
   rcases List.mem_cons.1 ((withI_perm x l).mem_iff.1 hz) with rfl | hz
   ·exact hyx
   ·exact h1 z hz
def withs (l : List It) (o : List It) : List It := l.foldl (fun o x => withI x o) o
end Go.AM

namespace Go.AM
theorem call_lib {E : En} {f : FuncId} {ds : List D} {d : D} {sg : List (List D)} (hn : E.fn f = none) (hl : E.lib f ds = some d) : (lim E).call f ds sg sg.length = some (d, sg, sg.length) :=
 call_of (by unfold stepCall; simp [hn, hl])
def clnK (l : List It) : K := if l.length = 0 then .n else .x
theorem c_slices_Clone (l : List It) (h : l.length ≤ 1000000) (sg) : LL.call n_slices_Clone_pile_Item_pile_Item [.l .z 2 (l.map eI)] sg sg.length = some (.l (clnK l) 2 (l.map eI), sg, sg.length) := by
 refine call_lib (by kernel_rfl) ?_
 rw [show EE.lib = libL from rfl]
 have : clnD (l.map eI) = .l (clnK l) 2 (l.map eI) := by
  unfold clnD clnK
  cases l <;> simp
 unfold libL
 rw [if_neg (by decide), if_pos (by decide)]
 simp only [clnL]
 rw [if_pos (by simp; omega), this]
theorem c_slices_Delete (l : List It) (i : Nat) (hi : i < l.length) (sg) : LL.call n_slices_Delete_pile_Item_pile_Item [.l .x 2 (l.map eI), .i .i64 i, .i .i64 ((i : Int) + 1)] sg sg.length = some (.l .x 2 ((l.eraseIdx i).map eI), sg, sg.length) := by
 refine call_lib (by kernel_rfl) ?_
 rw [show EE.lib = libL from rfl]
 unfold libL
 rw [if_pos (by decide)]
 have e1 : ((i : Int) + 1).toNat = i + 1 := by omega
 have e2 : l.eraseIdx i = l.take i ++ l.drop (i + 1) := List.eraseIdx_eq_take_drop_succ l i
 simp only [delL]
 rw [if_pos ⟨by omega, by omega, by simp; omega⟩, e1, e2]
 simp
end Go.AM

namespace Go.AM
theorem wc_lst {α β : Type} {B : C} {Q : Rs → Prop} {s : St} (l : List α) (st : Nat → β → St) (P : Nat → List α → β → Prop) (b : β) (hs : s = st 0 b) (hb : P 0 l b)
    (h : ∀ i x r b (hi : i < l.length), l[i] = x → P i (x :: r) b → (∀ b', P (i + 1) r b' → @WC (.loop B) (st (i + 1) b') ⟨Q⟩ trivial) → @WC B (st i b) ⟨fun r => @SqQ (.loop B) ⟨Q⟩ r trivial⟩ trivial)
    (he : ∀ b, P l.length [] b → @WC B (st l.length b) ⟨fun r => @SqQ (.loop B) ⟨Q⟩ r trivial⟩ trivial) : @WC (.loop B) s ⟨Q⟩ trivial := by
 rw [hs]
 refine wc_ind (fun a : Nat × β => st a.1 a.2) (fun a => l.length - a.1) (fun a => a.1 ≤ l.length ∧ P a.1 (l.drop a.1) a.2) ?_ (0, b) ⟨by simp, by simpa using hb⟩
 rintro ⟨i, b⟩ ⟨h1, h2⟩ ih
 simp only at h1 h2 ih ⊢
 rcases Nat.lt_or_eq_of_le h1 with h3 | h3
 ·rw [List.drop_eq_getElem_cons h3] at h2
  exact h i l[i] _ b h3 rfl h2 (fun b' hb' => ih (i + 1, b') (by simp; omega) ⟨h3, hb'⟩)
 ·subst h3; rw [List.drop_length] at h2; exact he b h2
theorem c_without_1 (x y : It) (hx : x.ok) (hy : y.ok) (sg) (r : Nat) (hr : sg[r]? = some [.f .f64 x.p, .i .i64 x.v]) :
    LL.call n_value_Value_without_1 [eI y, .p r 0] sg sg.length = some (.b (decide (x.canon = y.canon)), sg, sg.length) := by
 refine wp_call e_value_Value_without_1 rfl ?_
 have h1 := c_pile_Item_Cmp x y hx hy sg
 simp at h1
 simp [F_value_Value_without_1, hr, h1]
 have hz := cmpI_zero hx hy
 by_cases h : cmpI x y = 0
 ·simp [h, hz.1 h]
 ·have h2 : ¬ x.canon = y.canon := fun h' => h (hz.2 h')
  simp [h, h2]
def findI (x : It) : List It → Nat → Int
 | [], _ => -1
 | y :: l, i => if x.canon = y.canon then i else findI x l (i + 1)
theorem c_IndexFunc (x : It) (hx : x.ok) (l : List It) (hl : ∀ y ∈ l, y.ok) (hn : l.length ≤ 1099511627776) (sg) (r : Nat) (hr : sg[r]? = some [.f .f64 x.p, .i .i64 x.v]) :
    LL.call n_slices_IndexFunc_pile_Item_pile_Item [.l .z 2 (l.map eI), .fn n_value_Value_without_1 [.p r 0]] sg sg.length = some (.i .i64 (findI x l 0), sg, sg.length) := by
 generalize hT : findI x l 0 = T
 refine wp_call e_slices_IndexFunc_pile_Item_pile_Item rfl ?_
 simp [F_slices_IndexFunc_pile_Item_pile_Item]
 refine wc_lst l (fun i (_ : Unit) => ⟨[(0, .v (.l .z 2 (l.map eI))), (1, .v (.fn n_value_Value_without_1 [.p r 0])), (7, .v (.i .i64 l.length)), (8, .v (.i .i64 i))], [], sg, sg.length⟩)
  (fun i rest _ => findI x rest i = T) () (by simp) hT ?_ ?_
 ·rintro i y rest _ hlt hx1 h1 ih
  have hlt' : (i : Int) < l.length := by omega
  have hy := hl y (by rw [← hx1]; exact List.getElem_mem _)
  have C1 := c_without_1 x y hx hy sg r hr
  have w1 : IntKind.i64.wrap ((i : Int) + 1) = i + 1 := wrap64 (by omega)
  simp at C1
  unfold findI at h1
  by_cases hc : x.canon = y.canon
  ·rw [if_pos hc] at h1
   subst h1
   simp [hlt, hlt', hx1, C1, hc]
  ·rw [if_neg hc] at h1
   have ih := ih () h1
   simp at ih
   simp [hlt, hlt', hx1, C1, hc, w1]
   exact ih
 ·intro _ h1
  simp [findI] at h1
  subst h1
  simp
theorem findI_rng (x : It) : ∀ (l : List It) (i : Nat), findI x l i = -1 ∨ ∃ j : Nat, findI x l i = ((i + j : Nat) : Int) ∧ j < l.length
 | [], i => .inl rfl
 | y :: l, i => by
  unfold findI
  split
  ·exact .inr ⟨0, by simp, by simp⟩
  ·rcases findI_rng x l (i + 1) with h | ⟨j, h, hj⟩
   ·exact .inl h
   ·exact .inr ⟨j + 1, by rw [h]; omega, by simp; omega⟩
def outI (x : It) (l : List It) (most : Int) : Option (List It) := if findI x l 0 < 0 ∨ most ≤ findI x l 0 then none else some (l.eraseIdx (findI x l 0).toNat)
theorem c_value_without (v : Vl) (x : It) (hx : x.ok) (most : Int) (hl : ∀ y ∈ v.is, y.ok) (hn : v.is.length ≤ 1000000) (sg) :
    LL.call n_value_Value_without [eVl .z v, eI x, .i .i64 most] sg sg.length = some (.t [match outI x v.is most with | some l => eVl .o ⟨v.k, l, v.n⟩ | none => eVl .z v, .b (outI x v.is most).isSome], sg, sg.length) := by
 generalize hT : outI x v.is most = T
 refine wp_call e_value_Value_without rfl ?_
 have hg : (sg ++ [[D.f .f64 x.p, D.i .i64 x.v]])[sg.length]? = some [.f .f64 x.p, .i .i64 x.v] := by simp
 have I1 := c_IndexFunc x hx v.is hl (by omega) (sg ++ [[.f .f64 x.p, .i .i64 x.v]]) sg.length hg
 have C1 := c_slices_Clone v.is hn (sg ++ [[.f .f64 x.p, .i .i64 x.v]])
 have C2 := c_slices_Clone v.is hn sg
 have hr := findI_rng x v.is 0
 unfold outI at hT
 generalize findI x v.is 0 = f at *
 simp at I1 C1 C2
 by_cases h1 : f < 0
 ·rw [if_pos (.inl h1)] at hT
  subst hT
  simp [F_value_Value_without, eVl, I1, h1]
 ·by_cases h2 : most ≤ f
  ·rw [if_pos (.inr h2)] at hT
   subst hT
   simp [F_value_Value_without, eVl, I1, h1, h2]
  ·rw [if_neg (by omega)] at hT
   obtain ⟨j, hj, hjl⟩ : ∃ j : Nat, f = j ∧ j < v.is.length := by
    rcases hr with h | ⟨j, h, hj⟩
    ·omega
    ·exact ⟨j, by simpa using h, hj⟩
   subst hj
   have hK : clnK v.is = .x := by unfold clnK; rw [if_neg (by omega)]
   have D1 := fun sg => c_slices_Delete v.is j hjl sg
   have D1a := D1 sg
   have D1b := D1 (sg ++ [[.f .f64 x.p, .i .i64 x.v]])
   have w1 : IntKind.i64.wrap ((j : Int) + 1) = j + 1 := wrap64 (by omega)
   simp at D1a D1b hT
   rw [hK] at C1 C2
   subst hT
   simp [F_value_Value_without, eVl, I1, h1, h2, C1, C2, D1a, D1b, w1]
end Go.AM

namespace Go.AM
theorem c_ref12_same (x y : It) (hx : x.ok) (hy : y.ok) (sg) : LL.call n_c_ref12_same [eR x, eR y] sg sg.length = some (.b (decide (x.canon = y.canon)), sg, sg.length) := by
 refine wp_call e_c_ref12_same rfl ?_
 have h1 := c_ref04_Cmp x y hx hy sg
 simp at h1
 simp [F_c_ref12_same, h1]
 have hz := cmpI_zero hx hy
 by_cases h : cmpI x y = 0
 ·simp [h, hz.1 h]
 ·have h2 : ¬ x.canon = y.canon := fun h' => h (hz.2 h')
  simp [h, h2]
theorem c_ref12_Without (l : List It) (i : Nat) (hi : i < l.length) (hn : l.length ≤ 1000000) (sg) : LL.call n_c_ref12_Without [.l .z 2 (l.map eR), .i .i64 i] sg sg.length = some (.l .o 2 ((l.eraseIdx i).map eR), sg, sg.length) := by
 refine wp_call e_c_ref12_Without rfl ?_
 have e2 : l.eraseIdx i = l.take i ++ l.drop (i + 1) := List.eraseIdx_eq_take_drop_succ l i
 have w1 : IntKind.i64.wrap ((i : Int) + 1) = i + 1 := wrap64 (by omega)
 have h1 : ((i : Int) + 1) ≤ l.length := by omega
 have h2 : (i : Int) ≤ l.length := by omega
 have h3 : i ≤ l.length := by omega
 have h4 : i + 1 ≤ l.length := by omega
 have e3 : ((i : Int) + 1).toNat = i + 1 := by omega
 simp [F_c_ref12_Without, w1, h1, h2, h3, h4, e3, e2]
 have ht : List.take l.length (l.map eR) = l.map eR := by
  have := List.take_length (l := l.map eR)
  rwa [List.length_map] at this
 exact ⟨by omega, by omega, by omega, by rw [ht]⟩
end Go.AM

namespace Go.AM
def opA (k : Int) : Int := 2 * k - 1
def opN (k : Int) : Int := if k = 4 then 1 else 2
theorem c_op_Of4 (k : Int) (hk : 1 ≤ k ∧ k ≤ 4) (sg) : LL.call n_op_Of [.i .i64 k] sg sg.length = some (.l .o 1 (if k = 4 then [.i .i64 7] else [.i .i64 (2 * k - 1), .i .i64 (2 * k)]), sg, sg.length) := by
 have : k = 1 ∨ k = 2 ∨ k = 3 ∨ k = 4 := by omega
 rcases this with rfl | rfl | rfl | rfl
 all_goals
  refine wp_call e_op_Of rfl ?_
  simp [F_op_Of]
theorem c_ref06_Of (k : Int) (hk : 1 ≤ k ∧ k ≤ 4) (sg) : LL.call n_c_ref06_Of [.i .i64 k] sg sg.length = some (.t [.i .i64 (2 * k - 1), .i .i64 (if k = 4 then 7 else 2 * k)], sg, sg.length) := by
 have : k = 1 ∨ k = 2 ∨ k = 3 ∨ k = 4 := by omega
 rcases this with rfl | rfl | rfl | rfl
 all_goals
  refine wp_call e_c_ref06_Of rfl ?_
  simp [F_c_ref06_Of]
theorem c_op_Check_ok (k o : Int) (hk : 1 ≤ k ∧ k ≤ 4) (ho : 2 * k - 1 ≤ o ∧ o ≤ if k = 4 then 7 else 2 * k) (p : Nat) (v a b : Int) (hv : o = 5 → 0 ≤ v ∧ v ≤ 4294967296) (sg) :
    LL.call n_op_Op_Check [.a [.i .i64 o, .f .f64 p, .i .i64 v, .i .i64 a, .i .i64 b], .i .i64 k] sg sg.length = some (.i .i64 0, sg, sg.length) := by
 have O := c_op_Of4 k hk sg
 have w1 : IntKind.i64.wrap 1 = 1 := by decide
 refine wp_call e_op_Op_Check rfl ?_
 have hc : (k = 1 ∧ (o = 1 ∨ o = 2)) ∨ (k = 2 ∧ (o = 3 ∨ o = 4)) ∨ (k = 3 ∧ (o = 5 ∨ o = 6)) ∨ (k = 4 ∧ o = 7) := by
  have : k = 1 ∨ k = 2 ∨ k = 3 ∨ k = 4 := by omega
  rcases this with rfl | rfl | rfl | rfl <;> simp at ho <;> omega
 rcases hc with ⟨rfl, rfl | rfl⟩ | ⟨rfl, rfl | rfl⟩ | ⟨rfl, rfl | rfl⟩ | ⟨rfl, rfl⟩
 all_goals
  simp at O
  simp [F_op_Op_Check, O]
  refine wc_loop ?_
  first
   | (simp; done)
   | (obtain ⟨v1, v2⟩ := hv rfl
      have v1 : ¬ v < 0 := by omega
      have v2 : ¬ 4294967296 < v := by omega
      simp [v1, v2]; done)
   | (simp [w1]
      refine wc_loop ?_
      simp [w1]; done)
end Go.AM

namespace Go.AM
theorem cp_zo {k : K} (h : k = .z ∨ k = .o) (sz : Nat) (xs : List D) : D.cp (.l k sz xs) = some (.l .z sz xs) := by rcases h with rfl | rfl <;> rfl
def aftV (v : Vl) (o : Int) (x : It) (ok : Bool) (ai : It) (param : Int) : Vl × Bool :=
 if ok = false then (v, decide (o ≤ 4)) else
 if o = 1 then (⟨v.k, sortI ((v.is ++ [x]).map It.canon), v.n⟩, true) else
 if o = 3 then (⟨v.k, v.is ++ [x.canon], v.n⟩, true) else
 if o = 2 then (match outI ai v.is v.is.length with | some l => (⟨v.k, l, v.n⟩, true) | none => (v, false)) else
 if o = 4 then (match outI ai v.is param with | some l => (⟨v.k, l, v.n⟩, true) | none => (v, false)) else
 if o = 5 then (⟨v.k, v.is, v.n + x.v⟩, true) else
 if o = 7 then (⟨v.k, v.is, v.n + 1⟩, true) else (v, true)
theorem c_value_After (v : Vl) (o : Int) (x : It) (a b : Int) (ok : Bool) (ai : It) (n param : Int) (hk : 1 ≤ v.k ∧ v.k ≤ 4) (ho : 2 * v.k - 1 ≤ o ∧ o ≤ if v.k = 4 then 7 else 2 * v.k) (hv : o = 5 → 0 ≤ x.v ∧ x.v ≤ 4294967296)
    (hx : x.ok) (hai : ai.ok) (hl : ∀ y ∈ v.is, y.ok) (hn : v.is.length ≤ 1000) (hvn : 0 ≤ v.n ∧ v.n ≤ 1125899906842624) (sg) :
    ∃ K, (K = .z ∨ K = .o) ∧ LL.call n_value_Value_After [eVl .z v, .a [.i .i64 o, .f .f64 x.p, .i .i64 x.v, .i .i64 a, .i .i64 b], .a [.b ok, .f .f64 ai.p, .i .i64 ai.v, .i .i64 n], .i .i64 param] sg sg.length =
     some (.t [eVl K (aftV v o x ok ai param).1, .b (aftV v o x ok ai param).2], sg, sg.length) := by
 have Ck := c_op_Check_ok v.k o hk ho x.p x.v a b hv sg
 have W1 := c_value_without v ai hai v.is.length hl (by omega) sg
 have W2 := c_value_without v ai hai param hl (by omega) sg
 have Cl := c_slices_Clone v.is (by omega) sg
 have So := c_pile_Sorted (v.is ++ [x]) (by simp; omega) (fun y hy => by
  rcases List.mem_append.1 hy with hy | hy
  ·exact hl y hy
  ·simp at hy; subst hy; exact hx) sg
 rw [allH_sort _ (fun y hy => by
  rcases List.mem_append.1 hy with hy | hy
  ·exact hl y hy
  ·simp at hy; subst hy; exact hx)] at So
 have Cn := c_pile_Item_Canon x hx sg
 simp [eVl] at W1 W2 So Cn
 have w5 : o = 5 → IntKind.i64.wrap (v.n + x.v) = v.n + x.v := fun h => wrap64 (by have := hv h; omega)
 have w7 : IntKind.i64.wrap (v.n + 1) = v.n + 1 := wrap64 (by omega)
 cases ok with
 | false =>
  refine ⟨.z, by simp, wp_call e_value_Value_After rfl ?_⟩
  by_cases h4 : o ≤ 4
  ·simp [F_value_Value_After, eVl, Ck, aftV, h4]
  ·simp [F_value_Value_After, eVl, Ck, aftV, h4]
 | true =>
  have hc : o = 1 ∨ o = 2 ∨ o = 3 ∨ o = 4 ∨ o = 5 ∨ o = 6 ∨ o = 7 := by
   have : v.k = 1 ∨ v.k = 2 ∨ v.k = 3 ∨ v.k = 4 := by omega
   rcases this with h | h | h | h <;> simp [h] at ho <;> omega
  rcases hc with rfl | rfl | rfl | rfl | rfl | rfl | rfl
  ·refine ⟨.o, by simp, wp_call e_value_Value_After rfl ?_⟩
   have hap : (v.is.length + 1) * 16 ≤ 140737488355328 := by omega
   unfold clnK at Cl
   by_cases h0 : v.is.length = 0
   ·have h00 : v.is = [] := List.length_eq_zero_iff.1 h0
    simp [h00] at Cl So
    simp [F_value_Value_After, eVl, Ck, Cl, So, aftV, h00]
   ·simp [h0] at Cl
    simp [F_value_Value_After, eVl, Ck, Cl, So, aftV, hap]
  ·cases hO : outI ai v.is v.is.length with
   | none =>
    rw [hO] at W1
    refine ⟨.z, by simp, wp_call e_value_Value_After rfl ?_⟩
    simp at W1
    simp [F_value_Value_After, eVl, Ck, W1, aftV, hO]
   | some l =>
    rw [hO] at W1
    refine ⟨.z, by simp, wp_call e_value_Value_After rfl ?_⟩
    simp at W1
    simp [F_value_Value_After, eVl, Ck, W1, aftV, hO]
  ·refine ⟨.o, by simp, wp_call e_value_Value_After rfl ?_⟩
   have hap : (v.is.length + 1) * 16 ≤ 140737488355328 := by omega
   unfold clnK at Cl
   by_cases h0 : v.is.length = 0
   ·have h00 : v.is = [] := List.length_eq_zero_iff.1 h0
    simp [h00] at Cl
    simp [F_value_Value_After, eVl, Ck, Cl, Cn, aftV, h00]
   ·simp [h0] at Cl
    simp [F_value_Value_After, eVl, Ck, Cl, Cn, aftV, hap]
  ·cases hO : outI ai v.is param with
   | none =>
    rw [hO] at W2
    refine ⟨.z, by simp, wp_call e_value_Value_After rfl ?_⟩
    simp at W2
    simp [F_value_Value_After, eVl, Ck, W2, aftV, hO]
   | some l =>
    rw [hO] at W2
    refine ⟨.z, by simp, wp_call e_value_Value_After rfl ?_⟩
    simp at W2
    simp [F_value_Value_After, eVl, Ck, W2, aftV, hO]
  ·refine ⟨.z, by simp, wp_call e_value_Value_After rfl ?_⟩
   simp [F_value_Value_After, eVl, Ck, aftV, w5 rfl]
  ·refine ⟨.z, by simp, wp_call e_value_Value_After rfl ?_⟩
   simp [F_value_Value_After, eVl, Ck, aftV]
  ·refine ⟨.z, by simp, wp_call e_value_Value_After rfl ?_⟩
   simp [F_value_Value_After, eVl, Ck, aftV, w7]
end Go.AM

namespace Go.AM
theorem c_law12_Is (v w : Vl) (hv : v.is.length ≤ 1099511627776) (sg) : LL.call n_c_law12_Is [eVl .z v, eVr .z w] sg sg.length = some (.i .i64 (if v = w then 0 else -1), sg, sg.length) := by
 generalize hr : (if v = w then (0 : Int) else -1) = r
 have A1 := c_law04_Are v.is w.is hv sg
 obtain ⟨k, is, n⟩ := v
 obtain ⟨k', is', n'⟩ := w
 simp at A1
 refine wp_call e_c_law12_Is rfl ?_
 simp [F_c_law12_Is, eVl, eVr]
 repeat' (refine bq_i (fun h => ?_) (fun h => ?_) <;> (have h' := h) <;> (try simp at h') <;> simp [h, h', A1])
 all_goals (subst hr; simp_all)
end Go.AM

namespace Go.AM
structure Rw where
 k : Int
 x : It
 a : Int
 b : Int
 deriving DecidableEq, Inhabited
def eRw (r : Rw) : D := .a [.i .i64 r.k, .i .u64 r.x.p, .i .i64 r.x.v, .i .i64 r.a, .i .i64 r.b]
def eOp (r : Rw) : D := .a [.i .i64 r.k, .f .f64 r.x.p, .i .i64 r.x.v, .i .i64 r.a, .i .i64 r.b]
instance : Flat eRw := ⟨fun _ => rfl, fun _ => rfl, fun _ _ => rfl⟩
instance : Flat eOp := ⟨fun _ => rfl, fun _ => rfl, fun _ _ => rfl⟩
def Rw.ok (r : Rw) : Prop := r.x.ok ∧ (-9223372036854775808 ≤ r.k ∧ r.k ≤ 9223372036854775807) ∧ (-9223372036854775808 ≤ r.a ∧ r.a ≤ 9223372036854775807) ∧ (-9223372036854775808 ≤ r.b ∧ r.b ≤ 9223372036854775807)
def into (d n : Int) : Int := if n < 1 then 0 else d % n
theorem tmod_emod (d n : Int) (h : 1 ≤ n) : (if d.tmod n < 0 then d.tmod n + n else d.tmod n) = d % n := by
 have h0 := Int.emod_nonneg d (show n ≠ 0 by omega)
 have h1 := Int.emod_lt_of_pos d (show 0 < n by omega)
 have e := @Int.tmod_eq_emod d n
 have hn : (n.natAbs : Int) = n := by omega
 by_cases hc : 0 ≤ d ∨ n ∣ d
 ·rw [if_pos hc] at e
  simp at e
  rw [e, if_neg (by omega)]
 ·rw [if_neg hc, hn] at e
  rw [e, if_pos (by omega)]; omega
theorem into_rng (d n : Int) (h : 1 ≤ n) : 0 ≤ into d n ∧ into d n < n := by
 unfold into
 rw [if_neg (by omega)]
 exact ⟨Int.emod_nonneg d (by omega), Int.emod_lt_of_pos d (by omega)⟩
theorem c_ref06_Into (d n : Int) (hn : n ≤ 1000000000) (sg) : LL.call n_c_ref06_Into [.i .i64 d, .i .i64 n] sg sg.length = some (.i .i64 (into d n), sg, sg.length) := by
 refine wp_call e_c_ref06_Into rfl ?_
 by_cases h : n < 1
 ·simp [F_c_ref06_Into, h, into]
 ·have e := tmod_emod d n (by omega)
  have h0 := Int.emod_nonneg d (show n ≠ 0 by omega)
  have h1 := Int.emod_lt_of_pos d (show 0 < n by omega)
  have hz : n ≠ 0 := by omega
  by_cases h2 : d.tmod n < 0
  ·rw [if_pos h2] at e
   have w1 : IntKind.i64.wrap (d.tmod n + n) = d % n := by rw [e]; exact wrap64 (by omega)
   simp [F_c_ref06_Into, h, into, hz, h2, w1]
  ·rw [if_neg h2] at e
   have h3 : ¬ d % n < 0 := by omega
   simp [F_c_ref06_Into, h, into, hz, h3, e]
theorem i64_32 (x : Int) : bits .and .i64 x 4294967295 = x % 4294967296 := i64_mask 32 (by decide) x
def ownO (kind : Int) (r : Rw) : Rw :=
 let k := opA kind + into r.k (opN kind)
 ⟨k, ⟨r.x.p, if k = 5 then r.x.v % 4294967296 else r.x.v⟩, r.a, r.b⟩
theorem ownO_rng (kind : Int) (hk : 1 ≤ kind ∧ kind ≤ 4) (r : Rw) : 2 * kind - 1 ≤ (ownO kind r).k ∧ (ownO kind r).k ≤ (if kind = 4 then 7 else 2 * kind) := by
 have h := into_rng r.k (opN kind) (by unfold opN; split <;> omega)
 unfold ownO opA
 unfold opN at h ⊢
 simp only
 split <;> rename_i h4 <;> simp only [h4, if_true, if_false] at h ⊢ <;> omega
theorem ownO_ok {kind : Int} (hk : 1 ≤ kind ∧ kind ≤ 4) {r : Rw} (h : r.ok) : (ownO kind r).ok ∧ ((ownO kind r).k = 5 → 0 ≤ (ownO kind r).x.v ∧ (ownO kind r).x.v ≤ 4294967296) := by
 have hr := ownO_rng kind hk r
 obtain ⟨⟨h1, h2⟩, h3, h4, h5⟩ := h
 have e : (ownO kind r).x.v = if (ownO kind r).k = 5 then r.x.v % 4294967296 else r.x.v := rfl
 refine ⟨⟨⟨h1, ?_⟩, ?_, h4, h5⟩, fun h5 => by rw [e, if_pos h5]; omega⟩
 ·rw [e]; split <;> omega
 ·split at hr <;> omega
theorem c_law06_Own (kind : Int) (hk : 1 ≤ kind ∧ kind ≤ 4) (r : Rw) (sg) : LL.call n_c_law06_Own [.i .i64 kind, eRw r] sg sg.length = some (eOp (ownO kind r), sg, sg.length) := by
 refine wp_call e_c_law06_Own rfl ?_
 have O := c_ref06_Of kind hk sg
 have I := c_ref06_Into r.k (opN kind) (by unfold opN; split <;> omega) sg
 have W := c_law04_Own r.x sg
 have hin := into_rng r.k (opN kind) (by unfold opN; split <;> omega)
 have hb : 1 ≤ opN kind ∧ opN kind ≤ 2 := by unfold opN; split <;> omega
 have e1 : IntKind.i64.wrap (IntKind.i64.wrap ((if kind = 4 then 7 else 2 * kind) - (2 * kind - 1)) + 1) = opN kind := by
  unfold opN
  split
  ·rename_i h; subst h; decide
  ·have e0 : IntKind.i64.wrap (2 * kind - (2 * kind - 1)) = 1 := by rw [show 2 * kind - (2 * kind - 1) = 1 by omega]; decide
   rw [e0]; decide
 have e2 : IntKind.i64.wrap (2 * kind - 1 + into r.k (opN kind)) = opA kind + into r.k (opN kind) := by unfold opA; exact wrap64 (by omega)
 simp at W
 simp [F_c_law06_Own, eRw, O, e1, I, W, e2]
 refine bq_i (fun c => ?_) (fun c => ?_) <;> (have c' := c) <;> simp at c'
 ·simp [c, i64_32, eOp, ownO, c']
 ·simp [c, eOp, ownO, c']
structure FrR where
 o : Rw
 pc : Int
 at_ : Int
 seen : Int
 seg : Int
 tot : Int
 em : Bool
 v0 : Nat
 v1 : Nat
 n0 : Int
 l0 : List It
 n1 : Int
 l1 : List It
 deriving DecidableEq, Inhabited
def eFrK (K0 K1 : K) (f : FrR) : D := .a [.i .i64 f.o.k, .i .u64 f.o.x.p, .i .i64 f.o.x.v, .i .i64 f.o.a, .i .i64 f.o.b, .i .i64 f.pc, .i .i64 f.at_, .i .i64 f.seen, .i .i64 f.seg, .i .i64 f.tot, .b f.em, .i .i64 f.v0, .i .i64 f.v1,
 .i .i64 f.n0, .l K0 2 (f.l0.map eR), .i .i64 f.n1, .l K1 2 (f.l1.map eR)]
def eFr : FrR → D := eFrK .z .z
def newF (o : Rw) : FrR := ⟨⟨o.k, o.x.canon, o.a, o.b⟩, 0, 0, 0, 0, 0, false, 0, 0, 0, [], 0, []⟩
theorem c_ref04_MakeC (b : Nat) (v : Int) (hb : b < 18446744073709551616) (sg) : LL.call n_c_ref04_Make [.i .u64 b, .i .i64 v] sg sg.length = some (eR (It.canon ⟨b, v⟩), sg, sg.length) := by
 refine wp_call e_c_ref04_Make rfl ?_
 simp [F_c_ref04_Make, c_ref03_Bits b hb, It.canon]
theorem c_law06_Told (kind : Int) (hk : 1 ≤ kind ∧ kind ≤ 4) (r : Rw) (hr : r.ok) (sg) : LL.call n_c_law06_Told [.i .i64 kind, eRw r] sg sg.length = some (eFrK .o .o (newF (ownO kind r)), sg, sg.length) := by
 refine wp_call e_c_law06_Told rfl ?_
 have O := c_law06_Own kind hk r sg
 have M := c_ref04_MakeC r.x.p (ownO kind r).x.v hr.1.1 sg
 simp [eOp, eRw, It.canon] at O M
 have ep : (ownO kind r).x.p = r.x.p := rfl
 have ea : (ownO kind r).a = r.a := rfl
 have eb : (ownO kind r).b = r.b := rfl
 simp [F_c_law06_Told, eRw, O, M, eFrK, newF, It.canon, ep, ea, eb]
structure An where
 ok : Bool
 x : It
 n : Int
 deriving DecidableEq, Inhabited
def eAn (a : An) : D := .a [.b a.ok, .f .f64 a.x.p, .i .i64 a.x.v, .i .i64 a.n]
def eAr (a : An) : D := .a [.b a.ok, .i .u64 a.x.p, .i .i64 a.x.v, .i .i64 a.n]
instance : Flat eAn := ⟨fun _ => rfl, fun _ => rfl, fun _ _ => rfl⟩
instance : Flat eAr := ⟨fun _ => rfl, fun _ => rfl, fun _ _ => rfl⟩
theorem c_law12_told (a : An) (h : a.x.ok) (sg) : LL.call n_c_law12_told [eAn a] sg sg.length = some (eAr ⟨a.ok, a.x.canon, a.n⟩, sg, sg.length) := by
 refine wp_call e_c_law12_told rfl ?_
 have B := c_law04_Bits a.x h sg
 simp at B
 simp [F_c_law12_told, eAn, eAr, B, It.canon]
theorem c_law12_Told (v : Vl) (h : ∀ y ∈ v.is, y.ok) (hn : v.is.length ≤ 1000000000) (sg) : LL.call n_c_law12_Told [eVl .z v] sg sg.length = some (eVr .o ⟨v.k, v.is.map It.canon, v.n⟩, sg, sg.length) := by
 generalize hr : eVr .o ⟨v.k, v.is.map It.canon, v.n⟩ = r
 refine wp_call e_c_law12_Told rfl ?_
 simp [F_c_law12_Told, eVl]
 refine wc_list v.is (fun i (o : List It) => ⟨[(2, .q (.ptr 2 0)), (3, .q (.ptr 3 0)), (12, .v (.l .z 2 (v.is.map eI))), (13, .v (.i .i64 v.is.length)), (14, .v (.i .i64 i))],
  [(2, [.i .i64 0, .l .o 2 [], .i .i64 0]), (3, [.i .i64 v.k, .l .o 2 (o.map eR), .i .i64 v.n])], sg, sg.length⟩) (fun r o => o ++ r.map It.canon = v.is.map It.canon ∧ o.length + r.length = v.is.length) ?_ ?_ [] ⟨rfl, by simp⟩
 ·rintro i y r o hi hlt ⟨h1, h2⟩ ih
  have hlt' : (i : Int) < v.is.length := by omega
  simp at h2
  have B := c_law04_Bits y (h y (mem_of_get hi)) sg
  simp at B
  have w : IntKind.i64.wrap (↑i + 1) = (i : Int) + 1 := wrap64 (by omega)
  have p1 : (o.length + 1) * 16 ≤ 140737488355328 := by omega
  simp [hlt', hi, B, w, p1]
  simpa [It.canon] using ih (o ++ [y.canon]) ⟨by rw [← h1]; simp, by simp; omega⟩
 ·rintro o ⟨h1, h2⟩
  simp at h1
  simp [h1, ← hr, eVr]
end Go.AM

namespace Go.AM
theorem map_canon_id (l : List It) (h : ∀ y ∈ l, y.canon = y) : l.map It.canon = l := (List.map_congr_left h).trans (List.map_id _)
theorem withI_sort (x : It) (l : List It) (hx : x.ok ∧ x.canon = x) (h : ∀ y ∈ l, y.ok ∧ y.canon = y) (hs : l.Pairwise leI) : withI x l = sortI ((l ++ [x]).map It.canon) := by
 have hm : (l ++ [x]).map It.canon = l ++ [x] := map_canon_id _ (fun y hy => by
  rcases List.mem_append.1 hy with hy | hy
  ·exact (h y hy).2
  ·simp at hy; subst hy; exact hx.2)
 rw [hm]
 have hp : (withI x l).Perm (l ++ [x]) := (withI_perm x l).trans (by simpa using (List.perm_append_comm (l₁ := [x]) (l₂ := l)))
 refine ordered_unique (fun y hy => ?_) (withI_ordered x l hs) ((ordered_pw _).1 (sortI_ordered _)) (hp.trans (sortI_perm _).symm)
 rcases List.mem_cons.1 ((withI_perm x l).mem_iff.1 hy) with rfl | hy
 ·exact hx
 ·exact h y hy
theorem c_ref12_After (v : Vl) (f : FrR) (a : An) (param : Int) (hk : 1 ≤ v.k ∧ v.k ≤ 4) (ho : 1 ≤ f.o.k ∧ f.o.k ≤ 7) (hv : f.o.k = 5 → 0 ≤ f.o.x.v ∧ f.o.x.v ≤ 4294967296)
    (hx : f.o.x.ok ∧ f.o.x.canon = f.o.x) (hai : a.x.ok) (hl : ∀ y ∈ v.is, y.ok ∧ y.canon = y) (hso : f.o.k = 1 → v.is.Pairwise leI) (hn : v.is.length ≤ 1000000) (hvn : 0 ≤ v.n ∧ v.n ≤ 1152921504606846976) (sg) :
    ∃ K, (K = .z ∨ K = .o) ∧ LL.call n_c_ref12_After [eVr .z v, eFr f, eAr a, .i .i64 param] sg sg.length = some (.t [eVr K (aftV v f.o.k f.o.x a.ok a.x param).1, .b (aftV v f.o.k f.o.x a.ok a.x param).2], sg, sg.length) := by
 obtain ⟨⟨o, x, d0, d1⟩, pc, at_, seen, seg, tot, em, v0, v1, n0, l0, n1, l1⟩ := f
 obtain ⟨ok, ai, n⟩ := a
 simp only at ho hv hx hai hso
 have hlk : ∀ y ∈ v.is, y.ok := fun y hy => (hl y hy).1
 have hap : v.is.length * 16 ≤ 140737488355328 := by omega
 have ht : List.take v.is.length (v.is.map eR) = v.is.map eR := by
  have := List.take_length (l := v.is.map eR)
  rwa [List.length_map] at this
 cases ok with
 | false =>
  refine ⟨.z, by simp, wp_call e_c_ref12_After rfl ?_⟩
  by_cases h4 : o ≤ 4
  ·have h5 : o < 5 := by omega
   simp [F_c_ref12_After, eVr, eFr, eFrK, eAr, aftV, h4, h5]
  ·have h5 : ¬ o < 5 := by omega
   simp [F_c_ref12_After, eVr, eFr, eFrK, eAr, aftV, h4, h5]
 | true =>
  have W := c_ref04_With x v.is hx.1 hlk (by omega) sg
  simp at W
  have hc : o = 1 ∨ o = 3 ∨ (o = 2 ∨ o = 4) ∨ o = 5 ∨ o = 6 ∨ o = 7 := by omega
  rcases hc with rfl | rfl | hc | rfl | rfl | rfl
  ·rw [withI_sort x v.is hx hl (hso rfl)] at W
   refine ⟨.o, by simp, wp_call e_c_ref12_After rfl ?_⟩
   simp [F_c_ref12_After, eVr, eFr, eFrK, eAr, aftV, W, hap, ht] at W ⊢
  ·have hap2 : (v.is.length + 1) * 16 ≤ 140737488355328 := by omega
   refine ⟨.o, by simp, wp_call e_c_ref12_After rfl ?_⟩
   simp [F_c_ref12_After, eVr, eFr, eFrK, eAr, aftV, hap, ht, hap2, hx.2]
  ·have hcs : ∃ most, aftV v o x true ai param = (match outI ai v.is most with | some l => (⟨v.k, l, v.n⟩, true) | none => (v, false)) ∧ (most = if o = 4 then param else v.is.length) := by
    rcases hc with rfl | rfl
    ·exact ⟨_, rfl, rfl⟩
    ·exact ⟨_, rfl, rfl⟩
   obtain ⟨most, hm, hmost⟩ := hcs
   rw [hm]
   have hrng := findI_rng ai v.is 0
   generalize hT : findI ai v.is 0 = T at hrng
   have key : ∀ r, r = (match outI ai v.is most with | some l => (.t [eVr .o ⟨v.k, l, v.n⟩, .b true], sg, sg.length) | none => (D.t [eVr .z v, .b false], sg, sg.length)) →
       LL.call n_c_ref12_After [eVr .z v, eFr ⟨⟨o, x, d0, d1⟩, pc, at_, seen, seg, tot, em, v0, v1, n0, l0, n1, l1⟩, eAr ⟨true, ai, n⟩, .i .i64 param] sg sg.length = some r := by
    intro r hr
    refine wp_call e_c_ref12_After rfl ?_
    unfold outI at hr
    rw [hT] at hr
    obtain ⟨oo, hoo⟩ : ∃ oo, oo = o := ⟨_, rfl⟩
    rcases hc with rfl | rfl
    all_goals
     simp at hmost
     simp [F_c_ref12_After, eVr, eFr, eFrK, eAr, hap, ht]
     refine wc_lst v.is (fun i (_ : Unit) => ⟨[(3, .v (.i .i64 param)), (4, .q (.ptr 4 0)), (5, .q (.ptr 5 0)), (6, .q (.ptr 6 0)), (8, .q (.ptr 8 0)), (10, .q (.ptr 10 0)), (52, .v (.i .i64 v.is.length)), (53, .v (.i .i64 i))],
      [(4, [.i .i64 v.k, .l .z 2 (v.is.map eR), .i .i64 v.n]), (5, [.i .i64 oo, .i .u64 x.p, .i .i64 x.v, .i .i64 d0, .i .i64 d1, .i .i64 pc, .i .i64 at_, .i .i64 seen, .i .i64 seg, .i .i64 tot, .b em, .i .i64 v0, .i .i64 v1, .i .i64 n0, .l .z 2 (l0.map eR), .i .i64 n1, .l .z 2 (l1.map eR)]),
       (6, [.b true, .i .u64 ai.p, .i .i64 ai.v, .i .i64 n]), (8, [.i .i64 0, .l .o 2 [], .i .i64 0]), (10, [.i .i64 v.k, .l .o 2 (v.is.map eR), .i .i64 v.n])], sg, sg.length⟩)
      (fun i rest _ => findI ai rest i = T) () (by simp [hoo]) hT ?_ ?_
     ·rintro i y rest _ hlt hx1 h1 ih
      have hlt' : (i : Int) < v.is.length := by omega
      have hy := hlk y (by rw [← hx1]; exact List.getElem_mem _)
      have S := c_ref12_same y ai hy hai sg
      have Wo := c_ref12_Without v.is i hlt (by omega) sg
      have w1 : IntKind.i64.wrap ((i : Int) + 1) = i + 1 := wrap64 (by omega)
      have h0 : ¬ (i : Int) < 0 := by omega
      have h9 : ¬ v.is.length ≤ i := by omega
      simp at S Wo
      unfold findI at h1
      by_cases hcn : ai.canon = y.canon
      ·rw [if_pos hcn] at h1
       subst h1
       by_cases hp : param ≤ i
       ·simp [hlt, hlt', hx1, S, hcn.symm, hoo, hp, Wo]
        simp [hr, hmost, hp, eVr, h0, h9]
       ·simp [hlt, hlt', hx1, S, hcn.symm, hoo, hp, Wo]
        simp [hr, hmost, hp, eVr, h0, h9]
      ·rw [if_neg hcn] at h1
       have hcn' : ¬ y.canon = ai.canon := fun h => hcn h.symm
       have ih := ih () h1
       simp at ih
       simp [hlt, hlt', hx1, S, hcn', w1]
       exact ih
     ·intro _ h1
      simp [findI] at h1
      subst h1
      simp [hr, eVr]
   cases hO : outI ai v.is most with
   | none => rw [hO] at key; exact ⟨.z, by simp, key _ rfl⟩
   | some l => rw [hO] at key; exact ⟨.o, by simp, key _ rfl⟩
  ·have w : IntKind.i64.wrap (v.n + x.v) = v.n + x.v := wrap64 (by have := hv rfl; omega)
   refine ⟨.o, by simp, wp_call e_c_ref12_After rfl ?_⟩
   simp [F_c_ref12_After, eVr, eFr, eFrK, eAr, aftV, hap, ht, w]
  ·refine ⟨.o, by simp, wp_call e_c_ref12_After rfl ?_⟩
   simp [F_c_ref12_After, eVr, eFr, eFrK, eAr, aftV, hap, ht]
  ·have w : IntKind.i64.wrap (v.n + 1) = v.n + 1 := wrap64 (by omega)
   refine ⟨.o, by simp, wp_call e_c_ref12_After rfl ?_⟩
   simp [F_c_ref12_After, eVr, eFr, eFrK, eAr, aftV, hap, ht, w]
end Go.AM

namespace Go.AM
theorem wf_i64 {n : Int} (h : (Lit.int .i64 n).wf = true) : -9223372036854775808 ≤ n ∧ n ≤ 9223372036854775807 := by
 simpa [Lit.wf, IntKind.min, IntKind.max, IntKind.signed, IntKind.bits] using h
theorem wf_u64 {n : Int} (h : (Lit.int .u64 n).wf = true) : 0 ≤ n ∧ n < 18446744073709551616 := by
 have : 0 ≤ n ∧ n ≤ 18446744073709551615 := by simpa [Lit.wf, IntKind.min, IntKind.max, IntKind.signed, IntKind.bits] using h
 omega
theorem fits_i {k : IntKind} {d : D} (h : Fits (.i k) [d]) : ∃ n, d = .i k n ∧ (Lit.int k n).wf = true := by
 cases h with | i k n h => exact ⟨n, rfl, h⟩
theorem fits_b {d : D} (h : Fits .b [d]) : ∃ x, d = .b x := by
 cases h with | b x => exact ⟨x, rfl⟩
abbrev tItem : Ty := .st [.i .u64, .i .i64]
abbrev tRaw : Ty := .st [.i .i64, .i .i64, .i .u64, .l 2 true tItem, .l 1 false (.i .i64), .i .i64]
theorem fitss_cons1 {f : Ty} {fs : List Ty} {cs : List D} (h : Fitss (f :: fs) cs) (hf : ∀ c, Fits f c → ∃ d, c = [d]) : ∃ d r, cs = d :: r ∧ Fits f [d] ∧ Fitss fs r := by
 cases h with
 | cons h k => obtain ⟨d, rfl⟩ := hf _ h; exact ⟨d, _, rfl, h, k⟩
theorem one_i (k : IntKind) (c : List D) (h : Fits (.i k) c) : ∃ d, c = [d] := by cases h; exact ⟨_, rfl⟩
theorem fitss_nil {cs : List D} (h : Fitss [] cs) : cs = [] := by cases h; rfl
theorem fits_item {cs : List D} (h : Fits tItem cs) : ∃ x : It, D.a cs = eR x ∧ x.ok := by
 cases h with
 | st h =>
  obtain ⟨d1, r, rfl, h1, h⟩ := fitss_cons1 h (one_i _)
  obtain ⟨d2, r, rfl, h2, h⟩ := fitss_cons1 h (one_i _)
  have := fitss_nil h; subst this
  obtain ⟨n1, rfl, w1⟩ := fits_i h1
  obtain ⟨n2, rfl, w2⟩ := fits_i h2
  have := wf_u64 w1
  have := wf_i64 w2
  refine ⟨⟨n1.toNat, n2⟩, ?_, ?_, ?_⟩
  ·have : ((n1.toNat : Nat) : Int) = n1 := by omega
   simp [this]
  ·simp; omega
  ·simpa using this
theorem fits_items : ∀ xs : List D, (∀ x ∈ xs, Fits tItem x.cells) → (∀ x ∈ xs, ∃ cs, x = .a cs) → ∃ ns : List It, xs = ns.map eR ∧ ∀ n ∈ ns, n.ok
 | [], _, _ => ⟨[], rfl, by simp⟩
 | x :: xs, h, hc => by
  obtain ⟨ns, e, hn⟩ := fits_items xs (fun y hy => h y (by simp [hy])) (fun y hy => hc y (by simp [hy]))
  obtain ⟨cs, rfl⟩ := hc x (by simp)
  obtain ⟨y, e2, hy⟩ := fits_item (h _ (by simp : D.a cs ∈ D.a cs :: xs))
  exact ⟨y :: ns, by rw [e, List.map_cons, ← e2]; rfl, by simpa [hy] using hn⟩
end Go.AM

namespace Go.AM
abbrev tRw : Ty := .st [.i .i64, tItem, .i .i64, .i .i64]
theorem fits_rw {cs : List D} (h : Fits tRw cs) : ∃ r : Rw, D.a cs = eRw r ∧ r.ok := by
 cases h with
 | st h =>
  cases h with
  | cons h1 h =>
   cases h with
   | cons h2 h =>
    cases h with
    | cons h3 h =>
     cases h with
     | cons h4 h =>
      cases h
      obtain ⟨x, ex, hx⟩ := fits_item h2
      cases h1 with
      | i _ n1 w1 =>
       cases h3 with
       | i _ n3 w3 =>
        cases h4 with
        | i _ n4 w4 =>
         cases ex
         exact ⟨⟨n1, x, n3, n4⟩, rfl, hx, wf_i64 w1, wf_i64 w3, wf_i64 w4⟩
end Go.AM

namespace Go.AM
def chkM (P : Program) (t : TypeId) (nm : String) (f : FuncId) : Bool := match P.info? t with
 | some i => match i.methods.find? (·.name == nm) with
  | some m => m.path.toList.isEmpty && (match m.func with
   | some (g, true) => (match P.underlying t with | some (.pointer _) => g == f && decide (f < Q0) | _ => false)
   | some (g, false) => (match P.underlying t with
    | some (.pointer e) => decide (Q0 ≤ f) && g == f - Q0 && aggT P e == some false && szT P e == some 1
    | some _ => g == f && decide (f < Q0)
    | none => false)
   | none => false)
  | none => false
 | none => false
theorem wrap_ok (ts : Array TypeId) (t : TypeId) (a : Addr) (s1 s2 : String) : Builtin.ssaWrapNilChk_ ts t #[.pointer (some a), strVal s1, strVal s2] = pure (.pointer (some a)) := rfl
theorem meth_one {P : Program} {t nm f} (h : chkM P t nm f = true) :
    (f < Q0 → ∀ v w, (method (P.types.size + Made.depth) t v nm).run P w = .ok (f, v) w) ∧
    (Q0 ≤ f → ∀ b off u w, World.cell? w ⟨b, off, none⟩ = some u → (method (P.types.size + Made.depth) t (.pointer (some ⟨b, off, none⟩)) nm).run P w = .ok (f - Q0, u) w) := by
 unfold chkM at h
 split at h
 ·rename_i i hi
  split at h
  ·rename_i m hm
   simp only [Bool.and_eq_true] at h
   obtain ⟨hp, h⟩ := h
   have hp' : m.path.toList = [] := List.isEmpty_iff.1 hp
   obtain ⟨n, hn⟩ : ∃ n, P.types.size + Made.depth = n + 1 := ⟨P.types.size + 99, rfl⟩
   rw [hn]
   split at h
   ·rename_i g hg
    split at h
    ·rename_i e hu
     simp only [Bool.and_eq_true, beq_iff_eq, decide_eq_true_eq] at h
     obtain ⟨rfl, hf⟩ := h
     refine ⟨fun _ v w => ?_, fun hq => absurd hf (Nat.not_lt.2 hq)⟩
     simp [method, typeInfo, hi, hm, hp', follow, hg, receiverAt, underlying, hu, Place.get]
    ·cases h
   ·rename_i g hg
    split at h
    ·rename_i e hu
     simp only [Bool.and_eq_true, beq_iff_eq, decide_eq_true_eq] at h
     obtain ⟨⟨⟨hf, hgf⟩, ha⟩, hs⟩ := h
     refine ⟨fun hq => absurd hq (Nat.not_lt.2 hf), fun _ b off u w hc => ?_⟩
     have hrun := run_load' (P := P) (w := w) (t := e) (b := b) (off := off) (us := [u]) ha hs (.inr rfl) rfl (fun j v hj => by
      cases j with
      | zero => simp at hj; subst hj; simpa using hc
      | succ j => simp at hj)
     simp only [Instr.loadAt, Instr.sureAddr] at hrun
     have hpe : m.path = #[] := by simpa using hp
     simp at hrun
     simp [method, typeInfo, hi, hm, hp', hpe, follow, hg, receiverAt, underlying, hu, Place.get, wrap_ok, asAddr, hrun, hgf]
    ·rename_i d hne hu
     simp only [Bool.and_eq_true, beq_iff_eq, decide_eq_true_eq] at h
     obtain ⟨rfl, hf⟩ := h
     refine ⟨fun _ v w => ?_, fun hq => absurd hf (Nat.not_lt.2 hq)⟩
     simp [method, typeInfo, hi, hm, hp', follow, hg, receiverAt, underlying, hu, Place.get]
    ·cases h
   ·cases h
  ·cases h
 ·cases h
theorem meth_all {P : Program} {T : List (TypeId × String × FuncId)} (h : T.all (fun p => chkM P p.1 p.2.1 p.2.2) = true) :
    MethOK P (fun t nm => (T.find? fun p => p.1 == t && p.2.1 == nm).map (·.2.2)) := by
 intro t nm f hf
 simp only [Option.map_eq_some_iff] at hf
 obtain ⟨⟨t', nm', f'⟩, h1, rfl⟩ := hf
 have h2 := List.find?_some h1
 simp only [Bool.and_eq_true, beq_iff_eq] at h2
 obtain ⟨rfl, rfl⟩ := h2
 exact meth_one (List.all_eq_true.1 h _ (List.mem_of_find?_eq_some h1))
end Go.AM

namespace Go.AM
open Go.Proofs
set_option maxRecDepth 100000
theorem fol : Try.prog.follows .mixedOrders = true := by kernel_rfl
theorem tab_ok : tab.all (fun p => chkFn Try.prog EE.fbits EE.frb (rid p.1) p.2) = true := by kernel_rfl
theorem look_in {α : Type} {k : Nat} {x : α} : ∀ {l : List (Nat × α)}, look k l = some x → (k, x) ∈ l
 | (j, y) :: r, h => by
  simp only [look] at h
  split at h
  ·rename_i e; cases h; subst e; simp
  ·exact List.mem_cons_of_mem _ (look_in h)
theorem libF : LibF Try.prog EE := toldF fun f ds d h => by
 have h : libL f ds = some d := h
 unfold libL at h
 split at h
 ·rename_i e; exact .inl ⟨e, h⟩
 split at h
 ·rename_i e; exact .inr ⟨e, h⟩
 ·cases h
theorem env_ok : EnvOK Try.prog EE := ⟨fun f af h => List.all_eq_true.1 tab_ok (f, af) (look_in h), libF, fun _ _ _ _ _ h => nomatch h⟩
theorem meth_ok : methL.all (fun p => chkM Try.prog p.1 p.2.1 p.2.2) = true := by kernel_rfl
theorem lib_ok : Lib Try.prog EE.fbits EE.frb EE.meth where
 bits := fun f h n w => by cases h; rfl
 frb := fun f h n w => by cases h; rfl
 meth := meth_all meth_ok
end Go.AM

namespace Go.AM
open Go.Proofs
theorem c_law12_awake : LL.call n_c_law12_awake [] [] 0 = some (.b true, [], 0) := lim_call.2 ⟨60, by kernel_rfl⟩
theorem aftV_canon (v : Vl) (o : Int) (x : It) (ok : Bool) (ai : It) (param : Int) : aftV v o x.canon ok ai param = aftV v o x ok ai param := by
 have e : x.canon.canon = x.canon := by simp [It.canon, canon_canon]
 have e2 : x.canon.v = x.v := rfl
 simp only [aftV, List.map_append, List.map_cons, List.map_nil, e, e2]
def begV (k : Int) (l : List It) (n : Int) : Vl :=
 let is := (l.take (min l.length 20)).map It.canon
 if k = 1 then ⟨k, sortI (is.map It.canon), 0⟩ else if k = 2 then ⟨k, is, 0⟩ else ⟨k, [], n % 1099511627776⟩
theorem canon_ok' {x : It} (h : x.ok) : x.canon.ok := ⟨canon_lt h.1, h.2⟩
theorem canon2 (x : It) : x.canon.canon = x.canon := by simp [It.canon, canon_canon]
theorem begV_facts (k : Int) (hk : 1 ≤ k ∧ k ≤ 4) (l : List It) (hl : ∀ x ∈ l, x.ok) (n : Int) :
    (begV k l n).k = k ∧ (∀ y ∈ (begV k l n).is, y.ok ∧ y.canon = y) ∧ (k = 1 → (begV k l n).is.Pairwise leI) ∧ (begV k l n).is.length ≤ 20 ∧ 0 ≤ (begV k l n).n ∧ (begV k l n).n ≤ 1125899906842624 := by
 have hm : ∀ y ∈ (l.take (min l.length 20)).map It.canon, y.ok ∧ y.canon = y := by
  intro y hy
  obtain ⟨z, hz, rfl⟩ := List.mem_map.1 hy
  exact ⟨canon_ok' (hl z (List.mem_of_mem_take hz)), canon2 z⟩
 have hlen : ((l.take (min l.length 20)).map It.canon).length ≤ 20 := by simp; omega
 unfold begV
 simp only
 split
 ·refine ⟨rfl, ?_, fun _ => (ordered_pw _).1 (sortI_ordered _), ?_, by simp, by simp⟩
  ·intro y hy
   simp only at hy
   have := (sortI_perm _).mem_iff.1 hy
   obtain ⟨z, hz, rfl⟩ := List.mem_map.1 this
   exact ⟨canon_ok' (hm z hz).1, canon2 z⟩
  ·rw [sortI_len, List.length_map]; exact hlen
 ·split
  ·rename_i h1 h2
   exact ⟨rfl, hm, fun h => absurd h h1, hlen, by simp, by simp⟩
  ·rename_i h1 h2
   exact ⟨rfl, by simp, fun h => absurd h h1, by simp, by simp only; omega, by simp only; omega⟩
theorem outI_len {x : It} {l l' : List It} {m : Int} (h : outI x l m = some l') : l'.length ≤ l.length := by
 unfold outI at h
 split at h
 ·cases h
 ·cases h
  rw [List.length_eraseIdx]; split <;> omega
theorem aftV_len (v : Vl) (o : Int) (x : It) (ok : Bool) (ai : It) (param : Int) : (aftV v o x ok ai param).1.is.length ≤ v.is.length + 1 := by
 unfold aftV
 repeat' split
 all_goals simp only [sortI_len, List.length_map, List.length_append, List.length_singleton]
 all_goals first
  | omega
  | (rename_i h; have := outI_len h; omega)
set_option maxRecDepth 20000 in
set_option maxHeartbeats 4000000 in
theorem valueAfter (kind param : Int) (l : List It) (n : Int) (o : Rw) (ok : Bool) (at_ : Int) (hl : ∀ x ∈ l, x.ok) (ho : o.ok) :
    LL.call n_c_law12_ValueAfter [.i .i64 kind, .i .i64 param, .l .z 2 (l.map eR), .i .i64 n, eRw o, .b ok, .i .i64 at_] [] 0 = some (.b true, [], 0) := by
 have hA := c_law12_awake
 have hK := c_law12_Kind kind param []
 have hk := kindOf_le kind
 have hp := paramOf_le kind param
 generalize kindOf kind = k at *
 generalize paramOf kind param = p at *
 obtain ⟨v, hv⟩ : ∃ v, v = begV k l n := ⟨_, rfl⟩
 obtain ⟨f1, f2, f3, f4, f5, f6⟩ := begV_facts k hk l hl n
 rw [← hv] at f1 f2 f3 f4 f5 f6
 obtain ⟨ai, hai⟩ : ∃ ai, ai = if 0 ≤ at_ ∧ at_ < v.is.length then v.is[at_.toNat]! else o.x.canon := ⟨_, rfl⟩
 have hai2 : ai.ok ∧ ai.canon = ai := by
  rw [hai]
  split
  ·rename_i h
   rw [getElem!_pos v.is _ (by omega)]
   exact f2 _ (List.getElem_mem _)
  ·exact ⟨canon_ok' ho.1, canon2 _⟩
 have hoo := ownO_ok hk ho
 have hor := ownO_rng k hk o
 have hor7 : 1 ≤ (ownO k o).k ∧ (ownO k o).k ≤ 7 := by split at hor <;> omega
 have T1 := c_law12_Told v (fun y hy => (f2 y hy).1) (by omega) []
 have T2 := c_law06_Told k hk o ho []
 have W1 := c_law04_Own o.x []
 have C1 := c_pile_Item_Canon o.x ho.1 []
 have O1 := c_law06_Own k hk o []
 obtain ⟨K1, hK1, A1⟩ := c_value_After v (ownO k o).k (ownO k o).x (ownO k o).a (ownO k o).b ok ai 0 p (by rw [f1]; exact hk) (by rw [f1]; exact hor) hoo.2 hoo.1.1 hai2.1 (fun y hy => (f2 y hy).1) (by omega) ⟨f5, f6⟩ []
 have T3 := c_law12_told ⟨ok, ai, 0⟩ hai2.1 []
 obtain ⟨K2, hK2, R1⟩ := c_ref12_After v (newF (ownO k o)) ⟨ok, ai, 0⟩ p (by rw [f1]; exact hk) hor7 hoo.2 ⟨canon_ok' hoo.1.1, canon2 _⟩ hai2.1 f2 (fun h => f3 (by
  have : (ownO k o).k = 1 := h
  split at hor <;> omega)) (by omega) ⟨f5, by omega⟩ []
 have ex : (newF (ownO k o)).o.x = (ownO k o).x.canon := rfl
 have ek : (newF (ownO k o)).o.k = (ownO k o).k := rfl
 simp only [ex, ek, aftV_canon] at R1
 have hwl0 := aftV_len v (ownO k o).k (ownO k o).x ok ai p
 have hwl : (aftV v (ownO k o).k (ownO k o).x ok ai p).1.is.length ≤ 1099511627776 := by omega
 generalize aftV v (ownO k o).k (ownO k o).x ok ai p = wv at A1 R1 hwl
 obtain ⟨w, may⟩ := wv
 generalize ownO k o = oo at *
 have I1 := c_law12_Is w w (by simpa using hwl) []
 have I2 := c_law12_Is v v (by omega) []
 rw [map_canon_id _ (fun y hy => (f2 y hy).2)] at T1
 rw [show (⟨v.k, v.is, v.n⟩ : Vl) = v from rfl] at T1
 rw [hai2.2] at T3
 refine wp_call e_c_law12_ValueAfter rfl ?_
 obtain ⟨t, ht⟩ : ∃ t, t = min l.length 20 := ⟨_, rfl⟩
 simp [eRw, eOp, eAn, eAr, eFr, eFrK, newF, It.canon] at T2 T3 W1 C1 O1 A1 R1
 simp at hK T1 I1 I2
 simp [F_c_law12_ValueAfter, hA, hK, eRw]
 refine wc_up t (fun i => ⟨[(0, .v (.i .i64 k)), (1, .v (.i .i64 p)), (2, .v (.l .z 2 (l.map eR))), (3, .v (.i .i64 n)), (5, .v (.b ok)), (6, .v (.i .i64 at_)), (11, .q (.ptr 11 0)), (15, .q (.ptr 15 0)), (16, .v (.i .i64 i))],
  [(11, [.i .i64 o.k, .i .u64 o.x.p, .i .i64 o.x.v, .i .i64 o.a, .i .i64 o.b]), (15, [.i .i64 k, .l .o 2 (((l.take i).map It.canon).map eI), .i .i64 0])], [], 0⟩) (fun _ => True) ?_ ?_ 0 (by omega) trivial
 ·intro i hi _ ih
  have ih := ih trivial
  have hi1 : i < l.length := by omega
  have hi2 : (i : Int) < 20 := by omega
  have q1 : l[i]? = some l[i] := List.getElem?_eq_getElem hi1
  have w1 : IntKind.i64.wrap ((i : Int) + 1) = (i : Int) + 1 := wrap64 (by omega)
  have o1 := c_law04_Own l[i] []
  have o2 := c_pile_Item_Canon l[i] (hl _ (List.getElem_mem hi1)) []
  simp at o1 o2
  have e : ((l.take (i + 1)).map It.canon).map eI = ((l.take i).map It.canon).map eI ++ [eI l[i].canon] := by
   rw [List.take_succ_eq_append_getElem hi1, List.map_append, List.map_append]; rfl
  rw [e] at ih
  simp at ih
  simp [hi1, hi2, q1, o1, o2, w1]
  refine ⟨by omega, ?_⟩
  simpa using ih
 ·intro _
  have hcase : (t < l.length ∧ ¬ (t : Int) < 20) ∨ (¬ t < l.length) := by omega
  obtain ⟨is1, his⟩ : ∃ is1, is1 = (l.take t).map It.canon := ⟨_, rfl⟩
  have hisl : is1.length ≤ 20 := by rw [his]; simp; omega
  have hiso : ∀ y ∈ is1, y.ok := by
   intro y hy
   rw [his] at hy
   obtain ⟨z, hz, rfl⟩ := List.mem_map.1 hy
   exact canon_ok' (hl z (List.mem_of_mem_take hz))
  have S1 := c_Sorted is1 (by omega) hiso []
  simp at S1
  obtain ⟨vk, vis, vn⟩ := v
  simp only at f1 f2 f3 f4 f5 f6 hai hwl0
  subst f1
  have hvc : (vk = 1 ∧ sortI (is1.map It.canon) = vis ∧ vn = 0) ∨ (vk = 2 ∧ is1 = vis ∧ vn = 0) ∨ (2 < vk ∧ vis = [] ∧ vn = n % 1099511627776) := by
   rw [his, ht]
   unfold begV at hv
   have : vk = 1 ∨ vk = 2 ∨ 2 < vk := by omega
   rcases this with h | h | h
   ·simp only [h, if_true] at hv
    cases hv
    exact .inl ⟨h, rfl, rfl⟩
   ·simp only [h, if_true] at hv
    cases hv
    exact .inr (.inl ⟨h, rfl, rfl⟩)
   ·simp only at hv
    rw [if_neg (by omega), if_neg (by omega)] at hv
    cases hv
    exact .inr (.inr ⟨h, rfl, rfl⟩)
  simp only [← his]
  have q1 : 2 < vk → ¬ vk = 1 := by omega
  simp [eVl, eVr] at T1 A1 R1 I1 I2
  have hat : (∃ (j : Nat) (hj : j < vis.length), at_ = j ∧ vis[j] = ai) ∨ (¬ 0 ≤ at_ ∧ ai = o.x.canon) ∨ (0 ≤ at_ ∧ ¬ at_ < vis.length ∧ ai = o.x.canon) := by
   by_cases h : 0 ≤ at_ ∧ at_ < vis.length
   ·rw [if_pos h, getElem!_pos vis _ (by omega)] at hai
    exact .inl ⟨at_.toNat, by omega, by omega, hai.symm⟩
   ·rw [if_neg h] at hai
    by_cases h2 : 0 ≤ at_
    ·exact .inr (.inr ⟨h2, fun h3 => h ⟨h2, h3⟩, hai⟩)
    ·exact .inr (.inl ⟨h2, hai⟩)
  rcases hvc with ⟨rfl, hvi, rfl⟩ | ⟨rfl, rfl, rfl⟩ | ⟨h3, rfl, rfl⟩
  ·rw [hvi] at S1
   rcases hcase with ⟨h1, h2⟩ | h1
   rotate_left
   have h2 := trivial
   rotate_left
   all_goals
    rcases hat with ⟨j, hj, rfl, g3⟩ | ⟨g1, g2⟩ | ⟨g0, g1, g2⟩
    ·simp [h1, h2, S1, T1, T2, T3, W1, C1, O1, A1, R1, I1, I2, ↓cp_zo hK1, ↓cp_zo hK2, hj, g3]
    ·subst g2
     simp [It.canon] at T3 A1 R1
     simp [h1, h2, S1, T1, T2, T3, W1, C1, O1, A1, R1, I1, I2, ↓cp_zo hK1, ↓cp_zo hK2, g1]
    ·subst g2
     simp [It.canon] at T3 A1 R1
     simp [h1, h2, S1, T1, T2, T3, W1, C1, O1, A1, R1, I1, I2, ↓cp_zo hK1, ↓cp_zo hK2, g0, g1]
  ·skip
   rcases hcase with ⟨h1, h2⟩ | h1
   rotate_left
   have h2 := trivial
   rotate_left
   all_goals
    rcases hat with ⟨j, hj, rfl, g3⟩ | ⟨g1, g2⟩ | ⟨g0, g1, g2⟩
    ·simp [h1, h2, S1, T1, T2, T3, W1, C1, O1, A1, R1, I1, I2, ↓cp_zo hK1, ↓cp_zo hK2, hj, g3]
    ·subst g2
     simp [It.canon] at T3 A1 R1
     simp [h1, h2, S1, T1, T2, T3, W1, C1, O1, A1, R1, I1, I2, ↓cp_zo hK1, ↓cp_zo hK2, g1]
    ·subst g2
     simp [It.canon] at T3 A1 R1
     simp [h1, h2, S1, T1, T2, T3, W1, C1, O1, A1, R1, I1, I2, ↓cp_zo hK1, ↓cp_zo hK2, g0, g1]
  ·have q2 : (vk == 1) = false := by simp; omega
   simp only [List.map_nil] at T1 A1 R1 I2
   have e40 := i64_40 n
   rcases hcase with ⟨h1, h2⟩ | h1
   rotate_left
   have h2 := trivial
   rotate_left
   all_goals
    rcases hat with ⟨j, hj, rfl, g3⟩ | ⟨g1, g2⟩ | ⟨g0, g1, g2⟩
    ·simp at hj
    ·subst g2
     simp [It.canon] at T3 A1 R1
     simp [h1, h2, S1, T1, T2, T3, W1, C1, O1, A1, R1, I1, I2, ↓cp_zo hK1, ↓cp_zo hK2, g1, q2, h3, e40]
    ·subst g2
     simp [It.canon] at T3 A1 R1
     simp [h1, h2, S1, T1, T2, T3, W1, C1, O1, A1, R1, I1, I2, ↓cp_zo hK1, ↓cp_zo hK2, g0, g1, q2, h3, e40, Int.not_lt.2 g0]
def args_ValueAfter : List (Bool × Ty) := [(false, .i .i64), (false, .i .i64), (false, .l 2 true tItem), (false, .i .i64), (true, tRw), (false, .b), (false, .i .i64)]
theorem args_ValueAfter_ok : tyA Try.prog [3, 3, 22, 2, 27, 4, 3] = some args_ValueAfter := by kernel_rfl
theorem law_ValueAfter (ds : List D) (h : FitA args_ValueAfter ds) : ∃ sg lo, (lim EE).call n_c_law12_ValueAfter ds [] 0 = some (.b true, sg, lo) := by
 cases h with
 | c h1 k =>
 obtain ⟨n1, rfl, w1⟩ := fits_i h1
 cases k with
 | c h2 k =>
 obtain ⟨n2, rfl, w2⟩ := fits_i h2
 cases k with
 | c h3 k =>
 cases h3 with
 | l sz agg e xs hl hx ha =>
 obtain ⟨is, rfl, hi⟩ := fits_items xs hx (by simpa using ha)
 cases k with
 | c h4 k =>
 obtain ⟨n4, rfl, w4⟩ := fits_i h4
 cases k with
 | a h5 k =>
 obtain ⟨r, er, hr⟩ := fits_rw h5
 cases k with
 | c h6 k =>
 obtain ⟨b, rfl⟩ := fits_b h6
 cases k with
 | c h7 k =>
 obtain ⟨n7, rfl, w7⟩ := fits_i h7
 cases k
 rw [er]
 exact ⟨[], 0, valueAfter n1 n2 is n4 r b n7 hi hr⟩
end Go.AM
