/- Lemmas: an abstract machine over the loaded program, proved sound against the model once; what the program's functions compute. -/
import Derived.Test.YtpckpfohnpljgaaK2
import Derived.Test.YtpckpfohnpljgaaK4
import Derived.Test.YtpckpfohnpljgaaProg
/-
Stepping through abstract code: rules for the simplifier.
-/
namespace Go.AM
set_option linter.unusedSimpArgs false
set_option linter.unusedVariables false

noncomputable abbrev LL : Or := lim EE

mutual
theorem beq_self : ∀ d : D, D.beq d d = true
  | .b _ | .i _ _ | .f _ _ | .nilp | .p _ _ | .nili | .nilf | .u | .w => by simp [D.beq]
  | .s x => by simp only [D.beq]; show (x.data == x.data) = true; simp
  | .q cs _ => by simp [D.beq, beqs_self cs]
  | .l _ _ xs => by simp [D.beq, beqs_self xs]
  | .a cs => by simp [D.beq, beqs_self cs]
  | .t cs => by simp [D.beq, beqs_self cs]
  | .ic _ v => by simp [D.beq, beq_self v]
  | .fn _ cs => by simp [D.beq, beqs_self cs]
theorem beqs_self : ∀ ds : List D, D.beqs ds ds = true
  | [] => rfl
  | d :: ds => by simp [D.beqs, beq_self d, beqs_self ds]
end

/-- What is asked of an outcome; the simplifier does not look into it. -/
class Kt (α : Type) where
  q : α → Prop
class K3 where
  q : R → St → Ac → Prop
class Pr where
  p : Prop
/-- Code, and what is asked of what comes of it. -/
def WC (c : C) (s : St) [k : Kt Rs] (_ : True) : Prop := ∃ r, evC EE LL c s = some r ∧ k.q r
def WG (gs : List Gh) (s : St) [k : Kt St] (_ : True) : Prop := ∃ t, evGs gs s = some t ∧ k.q t
def WO (ops : List I) (s : St) [k : Kt St] (_ : True) : Prop := ∃ t, evOps EE LL ops s = some t ∧ k.q t
def WD (ops : List I) (acs : List Ac) (s : St) [k : Kt St] (_ : True) : Prop := ∃ t, evOpsD EE LL ops acs s = some t ∧ k.q t
/-- One operation's outcome. -/
def W1 (x : Option (R × St × Ac)) [k : K3] (_ : True) : Prop := ∃ r s ac, x = some (r, s, ac) ∧ k.q r s ac
def SqQ (b : C) [k : Kt Rs] (r : Rs) (_ : True) : Prop := match r with
  | .n s => @WC b s k trivial
  | .x i s => k.q (.x i s)
  | .r s => k.q (.r s)
def BkQ (n : Nat) [k : Kt Rs] (r : Rs) (_ : True) : Prop := match r with
  | .n s => k.q (.n s)
  | .x i s => if i = n then k.q (.n s) else k.q (.x i s)
  | .r s => k.q (.r s)
def CdQ (x : Option R) [A : Pr] [B : Pr] (_ : True) : Prop := match x with
  | some (.v (.b t)) => if t = true then A.p else B.p
  | _ => False
def GdQ (x : Option R) (b : Bool) [A : Pr] [B : Pr] (_ : True) : Prop := match x with
  | some (.v (.b t)) => if t = b then A.p else B.p
  | some (.v .u) => B.p
  | _ => False
def FnQ (res : List (Sum Nat (Nat × Bool × Nat))) (n : Nat) (x : D × List (List D) × Nat) (r : Rs) : Prop := fin ⟨0, res, .skip⟩ n (some r) = some x

theorem w1_some (r s ac Q) : @W1 (some (r, s, ac)) ⟨Q⟩ trivial ↔ Q r s ac := by
  unfold W1
  constructor
  · rintro ⟨_, _, _, h, hq⟩; cases h; exact hq
  · exact fun h => ⟨_, _, _, rfl, h⟩
theorem w1_none (Q) : @W1 none ⟨Q⟩ trivial ↔ False := by simp [W1]
theorem wc_skip (s Q) : @WC .skip s ⟨Q⟩ trivial ↔ Q (.n s) := by simp [WC, evC]
theorem wc_ret (s Q) : @WC .ret s ⟨Q⟩ trivial ↔ Q (.r s) := by simp [WC, evC]
theorem wc_exit (n s Q) : @WC (.exit n) s ⟨Q⟩ trivial ↔ Q (.x n s) := by simp [WC, evC]
theorem wc_seq (a b s Q) : @WC (.seq a b) s ⟨Q⟩ trivial ↔ @WC a s ⟨fun r => @SqQ b ⟨Q⟩ r trivial⟩ trivial := by
  unfold WC
  simp only [evC]
  constructor
  · rintro ⟨r, h, hq⟩
    cases h1 : evC EE LL a s with
    | none => rw [h1] at h; simp [sq] at h
    | some r1 =>
      rw [h1] at h
      refine ⟨r1, rfl, ?_⟩
      cases r1 with
      | n s1 => exact ⟨r, h, hq⟩
      | x i s1 => simp [sq] at h; subst h; exact hq
      | r s1 => simp [sq] at h; subst h; exact hq
  · rintro ⟨r1, h1, hq⟩
    rw [h1]
    cases r1 with
    | n s1 => exact hq
    | x i s1 => exact ⟨_, rfl, hq⟩
    | r s1 => exact ⟨_, rfl, hq⟩
theorem wc_blk (n a s Q) : @WC (.blk n a) s ⟨Q⟩ trivial ↔ @WC a s ⟨fun r => @BkQ n ⟨Q⟩ r trivial⟩ trivial := by
  unfold WC
  simp only [evC]
  constructor
  · rintro ⟨r, h, hq⟩
    cases h1 : evC EE LL a s with
    | none => rw [h1] at h; simp [bk] at h
    | some r1 =>
      rw [h1] at h
      refine ⟨r1, rfl, ?_⟩
      cases r1 with
      | n s1 => simp [bk] at h; subst h; exact hq
      | r s1 => simp [bk] at h; subst h; exact hq
      | x i s1 =>
        simp only [bk] at h
        simp only [BkQ]
        split at h <;> rename_i e <;> cases h
        · rw [if_pos e]; exact hq
        · rw [if_neg e]; exact hq
  · rintro ⟨r1, h1, hq⟩
    rw [h1]
    cases r1 with
    | n s1 => exact ⟨_, rfl, hq⟩
    | r s1 => exact ⟨_, rfl, hq⟩
    | x i s1 =>
      simp only [BkQ] at hq
      simp only [bk]
      split at hq <;> rename_i e
      · exact ⟨_, by rw [if_pos e], hq⟩
      · exact ⟨_, by rw [if_neg e], hq⟩
theorem wc_cond (x a b s Q) : @WC (.cond x a b) s ⟨Q⟩ trivial ↔ @CdQ (look x s.fr) ⟨@WC a s ⟨Q⟩ trivial⟩ ⟨@WC b s ⟨Q⟩ trivial⟩ trivial := by
  unfold WC
  simp only [evC]
  cases h : look x s.fr with
  | none => simp [CdQ]
  | some r =>
    cases r with
    | q q => simp [CdQ]
    | v d =>
      cases d <;> simp [CdQ]
      rename_i t; cases t <;> simp
theorem wc_reg (gs ops ls os s Q) : @WC (.reg gs ops false ls os) s ⟨Q⟩ trivial ↔ @WG gs s ⟨fun s => @WO ops s ⟨fun s => Q (.n { s with fr := forget (AM.Q.dead os) (keep ls s.fr), ob := keep os s.ob })⟩ trivial⟩ trivial := by
  unfold WC WG WO
  simp only [evC]
  cases h : evGs gs s with
  | none => simp
  | some t =>
    simp only [Bool.false_eq_true, if_false]
    cases h2 : evOps EE LL ops t with
    | none => simp [h2]
    | some t2 => simp [h2]
theorem wc_regd (gs ops ls os s Q) : @WC (.reg gs ops true ls os) s ⟨Q⟩ trivial ↔ @WG gs s ⟨fun s => @WD ops [] s ⟨fun s => Q (.n { s with fr := forget (AM.Q.dead os) (keep ls s.fr), ob := keep os s.ob })⟩ trivial⟩ trivial := by
  unfold WC WG WD
  simp only [evC]
  cases h : evGs gs s with
  | none => simp
  | some t =>
    simp only [if_true]
    cases h2 : evOpsD EE LL ops [] t with
    | none => simp [h2]
    | some t2 => simp [h2]
theorem wg_nil (s Q) : @WG [] s ⟨Q⟩ trivial ↔ Q s := by simp [WG, evGs]
theorem wg_cons (g gs s Q) : @WG (g :: gs) s ⟨Q⟩ trivial ↔ ∃ t, evG g s = some t ∧ @WG gs t ⟨Q⟩ trivial := by
  unfold WG
  simp only [evGs]
  cases h : evG g s with
  | none => simp
  | some t => simp
theorem wo_nil (s Q) : @WO [] s ⟨Q⟩ trivial ↔ Q s := by simp [WO, evOps]
theorem wo_cons (d op un fz r s Q) : @WO (⟨d, none, op, un, fz⟩ :: r) s ⟨Q⟩ trivial ↔ @W1 (evO LL EE.meth op s d) ⟨fun x t _ => @WO r (t.put d (if fz = true then x.fo else x)) ⟨Q⟩ trivial⟩ trivial := by
  cases h : evO LL EE.meth op s d with
  | none => rw [w1_none]; simp [WO, evOps, evI, wants, h]
  | some p =>
    obtain ⟨x, t, ac⟩ := p
    rw [w1_some]
    unfold WO
    simp only [evOps, evI, wants, h, Option.map_some]
theorem wo_guard (d k b op un fz r s Q) : @WO (⟨d, some (k, b), op, un, fz⟩ :: r) s ⟨Q⟩ trivial ↔ @GdQ (look k s.fr) b ⟨@W1 (evO LL EE.meth op s d) ⟨fun x t _ => @WO r (t.put d (if fz = true then x.fo else x)) ⟨Q⟩ trivial⟩ trivial⟩ ⟨@WO r (s.put d (.v .u)) ⟨Q⟩ trivial⟩ trivial := by
  have h0 : ∀ t : Bool, look k s.fr = some (.v (.b t)) → (@WO (⟨d, some (k, b), op, un, fz⟩ :: r) s ⟨Q⟩ trivial ↔ @WO (⟨d, none, op, un, fz⟩ :: r) s ⟨Q⟩ trivial ∧ t = b ∨ t ≠ b ∧ @WO r (s.put d (.v .u)) ⟨Q⟩ trivial) := by
    intro t ht
    unfold WO
    simp only [evOps, evI, wants, ht]
    cases t <;> cases b <;> simp
  cases hl : look k s.fr with
  | none => simp [WO, evOps, evI, wants, hl, GdQ]
  | some x =>
    cases x with
    | q q => simp [WO, evOps, evI, wants, hl, GdQ]
    | v v =>
      cases v <;> try (simp [WO, evOps, evI, wants, hl, GdQ]; done)
      rename_i t
      rw [h0 t hl, wo_cons]
      simp only [GdQ]
      cases t <;> cases b <;> simp
theorem wd_nil (acs s Q) : @WD [] acs s ⟨Q⟩ trivial ↔ Q s := by simp [WD, evOpsD]
theorem wd_cons (d op un fz r acs s Q) : @WD (⟨d, none, op, un, fz⟩ :: r) acs s ⟨Q⟩ trivial ↔ @W1 (evO LL EE.meth op s d) ⟨fun x t ac => okA un acs ac = true ∧ @WD r (acs ++ [ac]) (t.put d (if fz = true then x.fo else x)) ⟨Q⟩ trivial⟩ trivial := by
  cases h : evO LL EE.meth op s d with
  | none => rw [w1_none]; simp [WD, evOpsD, evI, wants, h]
  | some p =>
    obtain ⟨x, t, ac⟩ := p
    rw [w1_some]
    unfold WD
    simp only [evOpsD, evI, wants, h, Option.map_some]
    constructor
    · rintro ⟨t', h1, h2⟩
      split at h1
      · rename_i hk; exact ⟨hk, t', h1, h2⟩
      · cases h1
    · rintro ⟨hk, t2, h1, h2⟩
      exact ⟨t2, by rw [if_pos hk]; exact h1, h2⟩
theorem wd_guard (d k b op un fz r acs s Q) : @WD (⟨d, some (k, b), op, un, fz⟩ :: r) acs s ⟨Q⟩ trivial ↔ @GdQ (look k s.fr) b ⟨@W1 (evO LL EE.meth op s d) ⟨fun x t ac => okA un acs ac = true ∧ @WD r (acs ++ [ac]) (t.put d (if fz = true then x.fo else x)) ⟨Q⟩ trivial⟩ trivial⟩ ⟨okA un acs .no = true ∧ @WD r (acs ++ [.no]) (s.put d (.v .u)) ⟨Q⟩ trivial⟩ trivial := by
  have hu : @WD (⟨d, none, .mv (.c .u), un, false⟩ :: r) acs s ⟨Q⟩ trivial ↔ (okA un acs .no = true ∧ @WD r (acs ++ [.no]) (s.put d (.v .u)) ⟨Q⟩ trivial) := by
    rw [wd_cons]
    simp only [evO, rx, Option.map_some, R.ac, w1_some, Bool.false_eq_true, if_false]
  have h0 : ∀ t : Bool, look k s.fr = some (.v (.b t)) → (@WD (⟨d, some (k, b), op, un, fz⟩ :: r) acs s ⟨Q⟩ trivial ↔ @WD (⟨d, none, op, un, fz⟩ :: r) acs s ⟨Q⟩ trivial ∧ t = b ∨ t ≠ b ∧ @WD (⟨d, none, .mv (.c .u), un, false⟩ :: r) acs s ⟨Q⟩ trivial) := by
    intro t ht
    unfold WD
    simp only [evOpsD, evI, wants, ht, evO, rx, Option.map_some, R.ac]
    cases t <;> cases b <;> simp
  cases hl : look k s.fr with
  | none => simp [WD, evOpsD, evI, wants, hl, GdQ]
  | some x =>
    cases x with
    | q q => simp [WD, evOpsD, evI, wants, hl, GdQ]
    | v v =>
      cases v <;> try (simp [WD, evOpsD, evI, wants, hl, GdQ]; done)
      · rename_i t
        rw [h0 t hl, hu, wd_cons]
        simp only [GdQ]
        cases t <;> cases b <;> simp
      · have : @WD (⟨d, some (k, b), op, un, fz⟩ :: r) acs s ⟨Q⟩ trivial ↔ @WD (⟨d, none, .mv (.c .u), un, false⟩ :: r) acs s ⟨Q⟩ trivial := by
          unfold WD
          simp only [evOpsD, evI, wants, hl, evO, rx, Option.map_some, R.ac]
          simp
        rw [this, hu]
        simp [GdQ]

theorem cd_b (t A B) : @CdQ (some (.v (.b t))) ⟨A⟩ ⟨B⟩ trivial ↔ if t = true then A else B := Iff.rfl
theorem gd_b (t b A B) : @GdQ (some (.v (.b t))) b ⟨A⟩ ⟨B⟩ trivial ↔ if t = b then A else B := Iff.rfl
theorem gd_u (b A B) : @GdQ (some (.v .u)) b ⟨A⟩ ⟨B⟩ trivial ↔ B := Iff.rfl
theorem sq_n (b Q s) : @SqQ b ⟨Q⟩ (.n s) trivial ↔ @WC b s ⟨Q⟩ trivial := Iff.rfl
theorem sq_x (b Q i s) : @SqQ b ⟨Q⟩ (.x i s) trivial ↔ Q (.x i s) := Iff.rfl
theorem sq_r (b Q s) : @SqQ b ⟨Q⟩ (.r s) trivial ↔ Q (.r s) := Iff.rfl
theorem bk_n (n Q s) : @BkQ n ⟨Q⟩ (.n s) trivial ↔ Q (.n s) := Iff.rfl
theorem bk_x (n Q i s) : @BkQ n ⟨Q⟩ (.x i s) trivial ↔ if i = n then Q (.n s) else Q (.x i s) := Iff.rfl
theorem bk_r (n Q s) : @BkQ n ⟨Q⟩ (.r s) trivial ↔ Q (.r s) := Iff.rfl

/-- A function's call, by its code. -/
theorem wp_call {f : FuncId} {F : F} {ds : List D} {sg : List (List D)} {x : D × List (List D) × Nat} (hF : EE.fn f = some F) (hn : ds.length = F.np)
    (h : @WC F.body ⟨ini 0 ds, [], sg, sg.length⟩ ⟨fun r => FnQ F.res sg.length x r⟩ trivial) : LL.call f ds sg sg.length = some x := by
  obtain ⟨r, h1, h2⟩ := h
  refine call_of ?_
  unfold stepCall
  simp only [hF, if_pos hn]
  rw [h1]; exact h2
/-- A loop, by its next round. -/
theorem wc_loop {c s Q} (h : @WC c s ⟨fun r => @SqQ (.loop c) ⟨Q⟩ r trivial⟩ trivial) : @WC (.loop c) s ⟨Q⟩ trivial := by
  obtain ⟨r1, h1, h2⟩ := h
  cases r1 with
  | n s1 =>
    obtain ⟨r, h3, h4⟩ := h2
    refine ⟨r, ?_, h4⟩
    simp only [evC] at h3 ⊢
    refine loop_of ?_
    unfold stepLoop
    rw [h1]; exact h3
  | x i s1 =>
    refine ⟨.x i s1, ?_, h2⟩
    simp only [evC]
    refine loop_of ?_
    unfold stepLoop
    rw [h1]; rfl
  | r s1 =>
    refine ⟨.r s1, ?_, h2⟩
    simp only [evC]
    refine loop_of ?_
    unfold stepLoop
    rw [h1]; rfl
theorem wc_mono {c s} {Q Q' : Rs → Prop} (h : @WC c s ⟨Q⟩ trivial) (hq : ∀ r, Q r → Q' r) : @WC c s ⟨Q'⟩ trivial := by
  obtain ⟨r, h1, h2⟩ := h
  exact ⟨r, h1, hq r h2⟩

/-- What a function gives, where no object was made. -/
theorem fn_same {f : F} {s : St} {ds : List D} {s' : St} {r : Rs} (hr : r = .n s ∨ r = .r s) (h : resv f.res s = some (ds, s')) (n : Nat) (hn : s'.sg.length = n) : fin f n (some r) = some (tup ds, s'.sg, s'.lo) := by
  rcases hr with rfl | rfl <;> (simp only [fin, h]; split <;> simp [← hn])
end Go.AM

/-
Stepping through abstract operations: what each asks, and gives.
-/
namespace Go.AM
set_option linter.unusedSimpArgs false
set_option linter.unusedVariables false

def O1 {α : Type} (o : Option α) [k : Kt α] (_ : True) : Prop := ∃ a, o = some a ∧ k.q a
theorem o1_some {α : Type} (a : α) (Q) : @O1 _ (some a) ⟨Q⟩ trivial ↔ Q a := by simp [O1]
theorem o1_none {α : Type} (Q : α → Prop) : @O1 _ none ⟨Q⟩ trivial ↔ False := by simp [O1]
theorem o1_map {α β : Type} (o : Option α) (f : α → β) (Q) : @O1 _ (o.map f) ⟨Q⟩ trivial ↔ @O1 _ o ⟨fun a => Q (f a)⟩ trivial := by cases o <;> simp [O1]
theorem o1_if_none {α : Type} (c : Prop) [Decidable c] (o : Option α) (Q) : @O1 _ (if c then none else o) ⟨Q⟩ trivial ↔ ¬ c ∧ @O1 _ o ⟨Q⟩ trivial := by by_cases h : c <;> simp [h, O1]
theorem o1_if {α : Type} (c : Prop) [Decidable c] (o : Option α) (Q) : @O1 _ (if c then o else none) ⟨Q⟩ trivial ↔ c ∧ @O1 _ o ⟨Q⟩ trivial := by by_cases h : c <;> simp [h, O1]
theorem o1_ite {α : Type} (c : Prop) [Decidable c] (a b : α) (Q) : @O1 _ (if c then some a else some b) ⟨Q⟩ trivial ↔ Q (if c then a else b) := by by_cases h : c <;> simp [h, O1]
theorem o1_get {α : Type} (o : Option α) (Q) : @O1 _ o ⟨Q⟩ trivial ↔ ∃ a, o = some a ∧ Q a := Iff.rfl

section
variable (OO : Or) (m : TypeId → String → Option FuncId) (s : St) (d : Option Nat) (Q : R → St → Ac → Prop)

theorem w1_map {α : Type} (o : Option α) (f : α → R × St × Ac) : @W1 (o.map f) ⟨Q⟩ trivial ↔ @O1 _ o ⟨fun a => Q (f a).1 (f a).2.1 (f a).2.2⟩ trivial := by
  cases o with
  | none => simp [W1, O1]
  | some a => rw [Option.map_some, o1_some]; exact w1_some _ _ _ _
theorem w1_o1 (o : Option (R × St × Ac)) : @W1 o ⟨Q⟩ trivial ↔ @O1 _ o ⟨fun p => Q p.1 p.2.1 p.2.2⟩ trivial := by
  cases o with
  | none => simp [W1, O1]
  | some a => obtain ⟨x, t, ac⟩ := a; rw [w1_some, o1_some]

theorem w_mv (x : X) : @W1 (evO OO m (.mv x) s d) ⟨Q⟩ trivial ↔ @O1 _ (rx x s) ⟨fun p => Q p.1 p.2 p.1.ac⟩ trivial := by simp only [evO]; rw [w1_map]
theorem w_bin (op : BinOp) (x y : X) : @W1 (evO OO m (.bin op x y) s d) ⟨Q⟩ trivial ↔ @O1 _ (rxv x s) ⟨fun p => @O1 _ (rxv y p.2) ⟨fun q => @O1 _ (binv op p.1 q.1) ⟨fun r => Q (.v r) q.2 .no⟩ trivial⟩ trivial⟩ trivial := by
  simp only [evO]
  cases rxv x s with
  | none => simp [w1_none, o1_none]
  | some p =>
    obtain ⟨a, s1⟩ := p
    simp only [o1_some]
    cases rxv y s1 with
    | none => simp [w1_none, o1_none]
    | some q => obtain ⟨b, s2⟩ := q; simp only [o1_some]; rw [w1_map]
theorem w_eq (neg : Bool) (c : Ec) (x y : X) : @W1 (evO OO m (.eq neg c x y) s d) ⟨Q⟩ trivial ↔ @O1 _ (rxv x s) ⟨fun p => @O1 _ (rxv y p.2) ⟨fun q => @O1 _ (eq1 c p.1 q.1) ⟨fun t => Q (.v (.b (if neg then !t else t))) q.2 .no⟩ trivial⟩ trivial⟩ trivial := by
  simp only [evO]
  cases rxv x s with
  | none => simp [w1_none, o1_none]
  | some p =>
    obtain ⟨a, s1⟩ := p
    simp only [o1_some]
    cases rxv y s1 with
    | none => simp [w1_none, o1_none]
    | some q => obtain ⟨b, s2⟩ := q; simp only [o1_some]; rw [w1_map]
theorem w_un (op : UnOp) (x : X) : @W1 (evO OO m (.un op x) s d) ⟨Q⟩ trivial ↔ @O1 _ (rxv x s) ⟨fun p => @O1 _ (unv op p.1) ⟨fun r => Q (.v r) p.2 .no⟩ trivial⟩ trivial := by
  simp only [evO]
  cases rxv x s with
  | none => simp [w1_none, o1_none]
  | some p => obtain ⟨a, s1⟩ := p; simp only [o1_some]; rw [w1_map]
theorem w_cv (c : Cv) (x : X) : @W1 (evO OO m (.cv c x) s d) ⟨Q⟩ trivial ↔ @O1 _ (rxv x s) ⟨fun p => @O1 _ (cvv c p.1) ⟨fun r => Q (.v r) p.2 .no⟩ trivial⟩ trivial := by
  simp only [evO]
  cases rxv x s with
  | none => simp [w1_none, o1_none]
  | some p => obtain ⟨a, s1⟩ := p; simp only [o1_some]; rw [w1_map]
theorem w_ia (sz : Nat) (len : Option Nat) (x y : X) : @W1 (evO OO m (.ia sz len x y) s d) ⟨Q⟩ trivial ↔ @O1 _ (rx x s) ⟨fun p => @O1 _ (rxv y p.2) ⟨fun q => match q.1 with | .i _ n => @O1 _ (iav q.2 sz len p.1.fz n) ⟨fun r => Q r.1 q.2 r.2⟩ trivial | _ => False⟩ trivial⟩ trivial := by
  simp only [evO]
  cases rx x s with
  | none => simp [w1_none, o1_none]
  | some p =>
    obtain ⟨a, s1⟩ := p
    simp only [o1_some]
    cases h2 : rxv y s1 with
    | none => simp [w1_none, o1_none, h2]
    | some q =>
      obtain ⟨b, s2⟩ := q
      simp only [o1_some, h2]
      cases b <;> first | rw [w1_none] | skip
      simp only
      rw [w1_map]
theorem o1_iav_l (sz : Nat) (k : K) (sz' : Nat) (xs : List D) (n : Int) (Q : R × Ac → Prop) : @O1 _ (iav s sz none (.v (.l k sz' xs)) n) ⟨Q⟩ trivial ↔ 0 ≤ n ∧ (sz' = sz ∧ k ≠ .x) ∧ @O1 _ xs[n.toNat]? ⟨fun d => Q (.v (.q d.cells 0), .no)⟩ trivial := by
  unfold iav
  by_cases hn : n < 0
  · simp [hn, o1_none]; omega
  · rw [if_neg hn]
    simp only
    by_cases hc : sz' = sz ∧ k ≠ .x
    · rw [if_pos hc]
      cases h : xs[n.toNat]? with
      | none => simp [o1_none]
      | some d => simp [o1_some, hc]; omega
    · rw [if_neg hc]
      simp only [o1_none, hc, false_and, and_false]
theorem o1_iav_hd (sz : Nat) (pl : Pl) (n : Int) (sz' : Nat) (xs : List D) (h : s.at pl = some (.l .x sz' xs)) (Q : R × Ac → Prop) : @O1 _ (iav s sz none (.q (.hd pl)) n) ⟨Q⟩ trivial ↔ 0 ≤ n ∧ (sz' = sz ∧ n.toNat < xs.length) ∧ Q (.q (.el pl n.toNat 0), pl.rb) := by
  unfold iav
  by_cases hn : n < 0
  · simp [hn, o1_none]; omega
  · rw [if_neg hn]
    simp only [hpl, h]
    by_cases hc : sz' = sz ∧ n.toNat < xs.length
    · rw [if_pos hc, o1_some, hd_ac]; simp [hc]; omega
    · rw [if_neg hc, o1_none]; simp only [hc, false_and, and_false]
theorem o1_iav_hdr (sz : Nat) (k : Nat) (n : Int) (sz' : Nat) (xs : List D) (h : s.at (.ob k 0) = some (.l .x sz' xs)) (Q : R × Ac → Prop) : @O1 _ (iav s sz none (.q (.hdr k)) n) ⟨Q⟩ trivial ↔ 0 ≤ n ∧ (sz' = sz ∧ n.toNat < xs.length) ∧ Q (.q (.el (.ob k 0) n.toNat 0), .rb k) := by
  unfold iav
  by_cases hn : n < 0
  · simp [hn, o1_none]; omega
  · rw [if_neg hn]
    simp only [hpl, h]
    by_cases hc : sz' = sz ∧ n.toNat < xs.length
    · rw [if_pos hc, o1_some]; simp [hc]; omega
    · rw [if_neg hc, o1_none]; simp only [hc, false_and, and_false]
theorem w_sl (sz : Nat) (x : X) (lo hi mx : Option X) : @W1 (evO OO m (.sl sz x lo hi mx) s d) ⟨Q⟩ trivial ↔ @O1 _ (rxv x s) ⟨fun p => @O1 _ (evO.rxo lo p.2) ⟨fun l => @O1 _ (evO.rxo hi l.2) ⟨fun h => @O1 _ (evO.rxo mx h.2) ⟨fun m => @O1 _ (slv sz p.1 l.1 h.1 m.1) ⟨fun r => Q (.v r) m.2 .no⟩ trivial⟩ trivial⟩ trivial⟩ trivial⟩ trivial := by
  simp only [evO]
  cases rxv x s with
  | none => simp [w1_none, o1_none]
  | some p =>
    obtain ⟨a, s1⟩ := p
    simp only [o1_some]
    cases evO.rxo lo s1 with
    | none => simp [w1_none, o1_none]
    | some q =>
      obtain ⟨l, s2⟩ := q
      simp only [o1_some]
      cases evO.rxo hi s2 with
      | none => simp [w1_none, o1_none]
      | some q =>
        obtain ⟨h, s3⟩ := q
        simp only [o1_some]
        cases evO.rxo mx s3 with
        | none => simp [w1_none, o1_none]
        | some q => obtain ⟨mm, s4⟩ := q; simp only [o1_some]; rw [w1_map]
theorem w_ss (x : X) (lo hi : Option X) : @W1 (evO OO m (.ss x lo hi) s d) ⟨Q⟩ trivial ↔ @O1 _ (rxv x s) ⟨fun p => @O1 _ (evO.rxo lo p.2) ⟨fun l => @O1 _ (evO.rxo hi l.2) ⟨fun h => @O1 _ (ssv p.1 l.1 h.1) ⟨fun r => Q (.v r) h.2 .no⟩ trivial⟩ trivial⟩ trivial⟩ trivial := by
  simp only [evO]
  cases rxv x s with
  | none => simp [w1_none, o1_none]
  | some p =>
    obtain ⟨a, s1⟩ := p
    simp only [o1_some]
    cases evO.rxo lo s1 with
    | none => simp [w1_none, o1_none]
    | some q =>
      obtain ⟨l, s2⟩ := q
      simp only [o1_some]
      cases evO.rxo hi s2 with
      | none => simp [w1_none, o1_none]
      | some q => obtain ⟨h, s3⟩ := q; simp only [o1_some]; rw [w1_map]
theorem rxo_none (s : St) : evO.rxo none s = some (none, s) := rfl
theorem rxo_some (x : X) (s : St) : evO.rxo (some x) s = (rxv x s).map fun p => (some p.1, p.2) := rfl
/-- Bounds. -/
def BdQ (o : Option D) (dflt top : Nat) [k : Kt Nat] (_ : True) : Prop := @O1 _ (bnd o dflt top) k trivial
theorem bd_none (dflt top Q) : @BdQ none dflt top ⟨Q⟩ trivial ↔ Q dflt := by simp [BdQ, bnd, o1_some]
theorem bd_some (k n dflt top Q) : @BdQ (some (.i k n)) dflt top ⟨Q⟩ trivial ↔ (0 ≤ n ∧ n ≤ top) ∧ Q n.toNat := by simp only [BdQ, bnd, o1_if, o1_some]
theorem o1_ssv (v : ByteArray) (lo hi : Option D) (Q : D → Prop) : @O1 _ (ssv (.s v) lo hi) ⟨Q⟩ trivial ↔ @BdQ hi v.size v.size ⟨fun h => @BdQ lo 0 h ⟨fun l => Q (.s (v.extract l h))⟩ trivial⟩ trivial := by
  unfold ssv BdQ
  simp only
  cases bnd hi v.size v.size with
  | none => simp [o1_none]
  | some h =>
    simp only [o1_some]
    cases bnd lo 0 h with
    | none => simp [o1_none]
    | some l => simp [o1_some]
theorem o1_slv2 (sz : Nat) (k : K) (sz' : Nat) (xs : List D) (lo hi : Option D) (Q : D → Prop) : @O1 _ (slv sz (.l k sz' xs) lo hi none) ⟨Q⟩ trivial ↔ sz' = sz ∧ @BdQ hi xs.length xs.length ⟨fun h => @BdQ lo 0 h ⟨fun l => Q (.l (slk k hi.isNone lo.isNone) sz ((xs.take h).drop l))⟩ trivial⟩ trivial := by
  unfold slv BdQ
  simp only [o1_if]
  cases bnd hi xs.length xs.length with
  | none => simp [o1_none]
  | some h =>
    simp only [o1_some]
    cases bnd lo 0 h with
    | none => simp [o1_none]
    | some l => simp [o1_some]
theorem o1_slv3 (sz : Nat) (k : K) (sz' : Nat) (xs : List D) (lo : Option D) (h m : D) (Q : D → Prop) : @O1 _ (slv sz (.l k sz' xs) lo (some h) (some m)) ⟨Q⟩ trivial ↔ sz' = sz ∧ @BdQ (some m) 0 xs.length ⟨fun m => @BdQ (some h) 0 m ⟨fun h => h = m ∧ @BdQ lo 0 h ⟨fun l => k ≠ .x ∧ Q (.l .n sz ((xs.take h).drop l))⟩ trivial⟩ trivial⟩ trivial := by
  unfold slv BdQ
  simp only [o1_if]
  cases bnd (some m) 0 xs.length with
  | none => simp [o1_none]
  | some m =>
    simp only [o1_some]
    cases bnd (some h) 0 m with
    | none => simp [o1_none]
    | some h =>
      simp only [o1_some, o1_if]
      cases bnd lo 0 h with
      | none => simp [o1_none]
      | some l => cases k <;> simp [o1_some, o1_none]
theorem w_ixs (x y : X) : @W1 (evO OO m (.ixs x y) s d) ⟨Q⟩ trivial ↔ @O1 _ (rxv x s) ⟨fun p => @O1 _ (rxv y p.2) ⟨fun q => match p.1, q.1 with | .s v, .i _ n => 0 ≤ n ∧ @O1 _ v.data.toList[n.toNat]? ⟨fun c => Q (.v (.i .u8 c.toNat)) q.2 .no⟩ trivial | _, _ => False⟩ trivial⟩ trivial := by
  simp only [evO]
  cases rxv x s with
  | none => simp [w1_none, o1_none]
  | some p =>
    obtain ⟨a, s1⟩ := p
    simp only [o1_some]
    cases h2 : rxv y s1 with
    | none => cases a <;> simp [w1_none, o1_none, h2]
    | some q =>
      obtain ⟨b, s2⟩ := q
      simp only [o1_some]
      cases a <;> simp only [h2, w1_none]
      cases b <;> simp only [w1_none]
      rename_i v k n
      by_cases hn : 0 ≤ n
      · rw [if_pos hn]
        cases v.data.toList[n.toNat]? with
        | none => simp [w1_none, o1_none]
        | some c => simp [w1_some, o1_some, hn]
      · rw [if_neg hn]; simp [w1_none, hn]
theorem w_ixa (agg : Bool) (sz len : Nat) (x y : X) : @W1 (evO OO m (.ixa agg sz len x y) s d) ⟨Q⟩ trivial ↔ @O1 _ (rxv x s) ⟨fun p => @O1 _ (rxv y p.2) ⟨fun q => match p.1, q.1 with | .a cs, .i _ n => (0 ≤ n ∧ n < len) ∧ @O1 _ (sub cs (n.toNat * sz) sz) ⟨fun ds => @O1 _ (ofc agg ds) ⟨fun r => Q (.v r) q.2 .no⟩ trivial⟩ trivial | _, _ => False⟩ trivial⟩ trivial := by
  simp only [evO]
  cases rxv x s with
  | none => simp [w1_none, o1_none]
  | some p =>
    obtain ⟨a, s1⟩ := p
    simp only [o1_some]
    cases h2 : rxv y s1 with
    | none => cases a <;> simp [w1_none, o1_none, h2]
    | some q =>
      obtain ⟨b, s2⟩ := q
      simp only [o1_some]
      cases a <;> simp only [h2, w1_none]
      cases b <;> simp only [w1_none]
      rename_i cs k n
      by_cases hn : 0 ≤ n ∧ n < len
      · rw [if_pos hn]
        cases sub cs (n.toNat * sz) sz with
        | none => simp [w1_none, o1_none]
        | some c => simp only [o1_some, w1_map, hn, true_and]
      · rw [if_neg hn]; simp only [w1_none, hn, false_and]
theorem w_app (sz bytes : Nat) (x y : X) : @W1 (evO OO m (.app sz bytes x y) s d) ⟨Q⟩ trivial ↔ @O1 _ (rxv x s) ⟨fun p => @O1 _ (rx y p.2) ⟨fun q => @O1 _ (elems q.2 q.1) ⟨fun e => e.1 = sz ∧ @O1 _ (appv sz bytes p.1 e.2) ⟨fun r => Q (.v r) q.2 q.1.acE⟩ trivial⟩ trivial⟩ trivial⟩ trivial := by
  simp only [evO]
  cases rxv x s with
  | none => simp [w1_none, o1_none]
  | some p =>
    obtain ⟨a, s1⟩ := p
    simp only [o1_some]
    cases h2 : rx y s1 with
    | none => simp [w1_none, o1_none, h2]
    | some q =>
      obtain ⟨b, s2⟩ := q
      simp only [o1_some, h2]
      cases elems s2 b with
      | none => simp [w1_none, o1_none]
      | some e =>
        obtain ⟨sz', ys⟩ := e
        simp only [o1_some]
        by_cases hz : sz' = sz
        · rw [if_pos hz]; simp only [hz, true_and]; rw [w1_map]
        · rw [if_neg hz]; simp [w1_none, hz]
theorem w_apps (x y : X) : @W1 (evO OO m (.apps x y) s d) ⟨Q⟩ trivial ↔ @O1 _ (rxv x s) ⟨fun p => @O1 _ (rxv y p.2) ⟨fun q => match q.1 with | .s v => @O1 _ (appv 1 1 p.1 (ofBy v)) ⟨fun r => Q (.v r) q.2 .no⟩ trivial | _ => False⟩ trivial⟩ trivial := by
  simp only [evO]
  cases rxv x s with
  | none => simp [w1_none, o1_none]
  | some p =>
    obtain ⟨a, s1⟩ := p
    simp only [o1_some]
    cases h2 : rxv y s1 with
    | none => simp [w1_none, o1_none, h2]
    | some q =>
      obtain ⟨b, s2⟩ := q
      simp only [o1_some, h2]
      cases b <;> first | rw [w1_none] | skip
      simp only
      rw [w1_map]
/-- What is appended to. -/
theorem o1_app_x (sz bytes sz' : Nat) (xs ys : List D) (Q : D → Prop) : @O1 _ (appv sz bytes (.l .x sz' xs) ys) ⟨Q⟩ trivial ↔ (sz' = sz ∧ (xs.length + ys.length) * bytes ≤ 140737488355328) ∧ Q (.l .x sz (xs ++ ys)) := by
  unfold appv; simp only [o1_if, o1_some]
theorem o1_app_o (sz bytes sz' : Nat) (xs ys : List D) (Q : D → Prop) : @O1 _ (appv sz bytes (.l .o sz' xs) ys) ⟨Q⟩ trivial ↔ (sz' = sz ∧ (xs.length + ys.length) * bytes ≤ 140737488355328) ∧ Q (.l .o sz (xs ++ D.fzs ys)) := by
  unfold appv; simp only [o1_if, o1_some]
theorem o1_app_n (sz bytes sz' : Nat) (xs ys : List D) (Q : D → Prop) : @O1 _ (appv sz bytes (.l .n sz' xs) ys) ⟨Q⟩ trivial ↔ (sz' = sz ∧ (xs.length + ys.length) * bytes ≤ 140737488355328) ∧ Q (if ys.length = 0 then .l .n sz xs else .l .x sz (xs ++ ys)) := by
  unfold appv; simp only [o1_if]; by_cases h : ys.length = 0 <;> simp [h, o1_some]
theorem w_ms (sz bytes : Nat) (z : D) (x y : X) : @W1 (evO OO m (.ms sz bytes z x y) s d) ⟨Q⟩ trivial ↔ @O1 _ (rxv x s) ⟨fun p => @O1 _ (rxv y p.2) ⟨fun q => match p.1, q.1 with | .i .i64 n, .i .i64 c => (0 ≤ n ∧ n ≤ c ∧ c ≤ 9223372036854775807 ∧ c.toNat * bytes ≤ 140737488355328) ∧ Q (.v (.l .x sz (List.replicate n.toNat z))) q.2 .no | _, _ => False⟩ trivial⟩ trivial := by
  simp only [evO]
  cases rxv x s with
  | none => simp [w1_none, o1_none]
  | some p =>
    obtain ⟨a, s1⟩ := p
    simp only [o1_some]
    cases h2 : rxv y s1 with
    | none => cases a <;> simp [w1_none, o1_none, h2]; rename_i k _; cases k <;> simp [w1_none, h2]
    | some q =>
      obtain ⟨b, s2⟩ := q
      simp only [o1_some]
      cases a <;> (try simp only [h2, w1_none])
      rename_i k n
      cases k <;> (try simp only [h2, w1_none])
      cases b <;> (try simp only [w1_none])
      rename_i k c
      cases k <;> (try simp only [w1_none])
      split
      · rename_i h; simp [w1_some, h]
      · rename_i h; rw [w1_none]; simp only [h, false_and]
theorem w_call (f : FuncId) (xs : List X) : @W1 (evO OO m (.call f xs) s d) ⟨Q⟩ trivial ↔ @O1 _ (rxs xs s) ⟨fun p => @O1 _ (OO.call f p.1 p.2.sg p.2.sg.length) ⟨fun r => Q (.v r.1) { p.2 with sg := r.2.1, lo := min p.2.lo r.2.2, fr := forget AM.Q.gl p.2.fr } (.cl (D.beqs (r.2.1.map .t) (p.2.sg.map .t) && decide (p.2.lo ≤ r.2.2)))⟩ trivial⟩ trivial := by
  simp only [evO]
  cases rxs xs s with
  | none => simp [w1_none, o1_none]
  | some p =>
    obtain ⟨ds, s1⟩ := p
    simp only [o1_some]
    rw [w1_map]
theorem w_callv (x : X) (xs : List X) : @W1 (evO OO m (.callv x xs) s d) ⟨Q⟩ trivial ↔ @O1 _ (rxv x s) ⟨fun q => match q.1 with
    | .fn f cs => @O1 _ (rxs xs q.2) ⟨fun p => @O1 _ (OO.call f (p.1 ++ cs) p.2.sg p.2.sg.length) ⟨fun r => Q (.v r.1) { p.2 with sg := r.2.1, lo := min p.2.lo r.2.2, fr := forget AM.Q.gl p.2.fr } (.cl (D.beqs (r.2.1.map .t) (p.2.sg.map .t) && decide (p.2.lo ≤ r.2.2)))⟩ trivial⟩ trivial
    | _ => False⟩ trivial := by
  simp only [evO]
  cases rxv x s with
  | none => simp [w1_none, o1_none]
  | some q =>
    obtain ⟨a, s1⟩ := q
    simp only [o1_some]
    cases a <;> simp only [w1_none]
    rename_i f cs
    cases rxs xs s1 with
    | none => simp [w1_none, o1_none]
    | some p =>
      obtain ⟨ds, s1⟩ := p
      simp only [o1_some]
      rw [w1_map]
theorem w_ex (tk : Bool) (n k : Nat) : @W1 (evO OO m (.ex tk n k) s d) ⟨Q⟩ trivial ↔ (match look k s.fr with
    | some (.v (.t ds)) => @O1 _ ds[n]? ⟨fun e => if tk = true then Q (.v e) { s with fr := (k, .v (.t (ds.set n .w))) :: s.fr } .no else @O1 _ e.cp ⟨fun e => Q (.v e) s .no⟩ trivial⟩ trivial
    | _ => False) := by
  simp only [evO]
  cases look k s.fr with
  | none => simp [w1_none]
  | some r =>
    cases r with
    | q x => simp [w1_none]
    | v a =>
      cases a <;> simp only [w1_none]
      rename_i ds
      cases ds[n]? with
      | none => simp [w1_none, o1_none]
      | some e =>
        simp only [o1_some]
        cases tk
        · simp only [Bool.false_eq_true, if_false]; rw [w1_map]
        · simp only [if_true, w1_some]
theorem w_len (str : Bool) (x : X) : @W1 (evO OO m (.len str x) s d) ⟨Q⟩ trivial ↔ @O1 _ (rx x s) ⟨fun p => @O1 _ (lenv p.2 str p.1) ⟨fun r => Q (.v (.i .i64 r.1)) p.2 r.2⟩ trivial⟩ trivial := by
  simp only [evO]
  cases rx x s with
  | none => simp [w1_none, o1_none]
  | some p => obtain ⟨a, s1⟩ := p; simp only [o1_some]; rw [w1_map]
theorem w_mx (big : Bool) (xs : List X) : @W1 (evO OO m (.mx big xs) s d) ⟨Q⟩ trivial ↔ @O1 _ (rxs xs s) ⟨fun p => match p.1 with | .i k m :: ds => @O1 _ (mxv big m ds k) ⟨fun r => Q (.v r) p.2 .no⟩ trivial | _ => False⟩ trivial := by
  simp only [evO]
  cases rxs xs s with
  | none => simp [w1_none, o1_none]
  | some p =>
    obtain ⟨ds, s1⟩ := p
    simp only [o1_some]
    cases ds with
    | nil => simp [w1_none]
    | cons d0 ds => cases d0 <;> simp only [w1_none]; rw [w1_map]
theorem w_ld (agg : Bool) (n : Nat) (md : M) (x : X) : @W1 (evO OO m (.ld agg n md x) s d) ⟨Q⟩ trivial ↔ @O1 _ (rx x s) ⟨fun p => @O1 _ (ldp p.2 agg n md p.1) ⟨fun r => Q r.1 r.2.1 r.2.2⟩ trivial⟩ trivial := by
  simp only [evO]
  cases rx x s with
  | none => simp [w1_none, o1_none]
  | some p => obtain ⟨a, s1⟩ := p; simp only [o1_some]; rw [w1_o1]
theorem w_lda (n : Nat) (x : X) : @W1 (evO OO m (.lda n x) s d) ⟨Q⟩ trivial ↔ @O1 _ (rx x s) ⟨fun p => @O1 _ (ldp p.2 false n (auM p.2 p.1) p.1) ⟨fun r => Q r.1 r.2.1 r.2.2⟩ trivial⟩ trivial := by
  simp only [evO]
  cases rx x s with
  | none => simp [w1_none, o1_none]
  | some p => obtain ⟨a, s1⟩ := p; simp only [o1_some]; rw [w1_o1]
theorem w_st (n : Nat) (x y : X) : @W1 (evO OO m (.st n x y) s d) ⟨Q⟩ trivial ↔ @O1 _ (rx x s) ⟨fun p => @O1 _ (rxv y p.2) ⟨fun q => stb q.1 = true ∧ @O1 _ (stp q.2 n p.1 q.1) ⟨fun r => Q (.v .u) r.1 r.2⟩ trivial⟩ trivial⟩ trivial := by
  simp only [evO]
  cases rx x s with
  | none => simp [w1_none, o1_none]
  | some p =>
    obtain ⟨a, s1⟩ := p
    simp only [o1_some]
    cases h2 : rxv y s1 with
    | none => simp [w1_none, o1_none, h2]
    | some q =>
      obtain ⟨b, s2⟩ := q
      simp only [o1_some, h2]
      by_cases hb : stb b = true
      · rw [if_pos hb, w1_map]; simp [hb]
      · rw [if_neg hb]; simp [w1_none, hb]
/-- A choice of values. -/
theorem w_pick (c a b : X) : @W1 (evO OO m (.pick c a b) s d) ⟨Q⟩ trivial ↔ @O1 _ (rxv c s) ⟨fun p => match p.1 with | .b t => if t = true then @O1 _ (rxv a p.2) ⟨fun q => Q (.v q.1) q.2 .no⟩ trivial else @O1 _ (rxv b p.2) ⟨fun q => Q (.v q.1) q.2 .no⟩ trivial | _ => False⟩ trivial := by
  simp only [evO]
  cases rxv c s with
  | none => simp [w1_none, o1_none]
  | some p =>
    obtain ⟨x, s1⟩ := p
    simp only [o1_some]
    cases x <;> simp only [w1_none]
    rename_i t
    cases t
    · simp only [Bool.false_eq_true, if_false]; rw [w1_map]
    · simp only [if_true]; rw [w1_map]
/-- An element of a list that stands. -/
theorem o1_ld_el (agg : Bool) (n : Nat) (pl : Pl) (ix fo sz : Nat) (xs : List D) (h : s.at pl = some (.l .x sz xs)) (Q : R × St × Ac → Prop) :
    @O1 _ (ldp s agg n .cp (.q (.el pl ix fo))) ⟨Q⟩ trivial ↔ @O1 _ xs[ix]? ⟨fun d => @O1 _ (sub d.cells fo n) ⟨fun ds => @O1 _ (D.cps ds) ⟨fun es => @O1 _ (ofc agg es) ⟨fun r => Q (.v r, s, pl.re)⟩ trivial⟩ trivial⟩ trivial⟩ trivial := by
  unfold ldp
  simp only [h]
  cases xs[ix]? with
  | none => simp [o1_none]
  | some d =>
    simp only [o1_some]
    cases sub d.cells fo n with
    | none => simp [o1_none]
    | some ds =>
      simp only [o1_some]
      cases D.cps ds with
      | none => simp [o1_none]
      | some es => simp only [o1_some, o1_map]
theorem o1_tk_el (agg : Bool) (n : Nat) (pl : Pl) (ix fo sz : Nat) (xs : List D) (h : s.at pl = some (.l .x sz xs)) (Q : R × St × Ac → Prop) :
    @O1 _ (ldp s agg n .tk (.q (.el pl ix fo))) ⟨Q⟩ trivial ↔ @O1 _ xs[ix]? ⟨fun d => @O1 _ (sub d.cells fo n) ⟨fun ds => @O1 _ (rec_ d (ovr d.cells fo (List.replicate n .w))) ⟨fun d' => @O1 _ (ofc agg ds) ⟨fun r => Q (.v r, s.setAt pl (.l .x sz (xs.set ix d')), pl.we)⟩ trivial⟩ trivial⟩ trivial⟩ trivial := by
  unfold ldp
  simp only [h]
  cases xs[ix]? with
  | none => simp [o1_none]
  | some d =>
    simp only [o1_some]
    cases sub d.cells fo n with
    | none => simp [o1_none]
    | some ds =>
      simp only [o1_some]
      cases rec_ d (ovr d.cells fo (List.replicate n .w)) with
      | none => simp [o1_none]
      | some es => simp only [o1_some, o1_map]
theorem o1_st_el (n : Nat) (pl : Pl) (ix fo sz : Nat) (xs : List D) (v : D) (h : s.at pl = some (.l .x sz xs)) (Q : St × Ac → Prop) :
    @O1 _ (stp s n (.q (.el pl ix fo)) v) ⟨Q⟩ trivial ↔ v.cells.length = n ∧ @O1 _ xs[ix]? ⟨fun d => fo + n ≤ d.cells.length ∧ @O1 _ (rec_ d (ovr d.cells fo v.cells)) ⟨fun d' => Q ({ s.setAt pl (.l .x sz (xs.set ix d')) with lo := s.loAt v pl }, pl.we)⟩ trivial⟩ trivial := by
  unfold stp
  by_cases hl : v.cells.length = n
  · rw [if_pos hl]
    simp only [h, hl, true_and]
    cases xs[ix]? with
    | none => simp [o1_none]
    | some d =>
      simp only [o1_some, o1_if]
      cases rec_ d (ovr d.cells fo v.cells) with
      | none => simp [o1_none]
      | some es => simp only [o1_some]
  · rw [if_neg hl]; simp [o1_none, hl]
end
end Go.AM

/-
The rules in use: what the simplifier turns, and in which order.
-/
namespace Go.AM
set_option linter.unusedSimpArgs false
set_option linter.unusedVariables false

/-- A case; each knows what it is. -/
def BQ (t : Bool) [A : Pr] [B : Pr] (_ : True) : Prop := if t = true then A.p else B.p
theorem bq_i {t : Bool} {A B : Pr} (h : t = true → A.p) (k : t = false → B.p) : @BQ t A B trivial := by
  cases t
  · exact k rfl
  · exact h rfl
theorem bq_true (A B) : @BQ true ⟨A⟩ ⟨B⟩ trivial ↔ A := by simp [BQ]
theorem bq_false (A B) : @BQ false ⟨A⟩ ⟨B⟩ trivial ↔ B := by simp [BQ]
theorem cd_t (t A B) : @CdQ (some (.v (.b t))) ⟨A⟩ ⟨B⟩ trivial ↔ @BQ t ⟨A⟩ ⟨B⟩ trivial := Iff.rfl
theorem cd_u (A B) : @CdQ (some (.v .u)) ⟨A⟩ ⟨B⟩ trivial ↔ False := Iff.rfl
theorem gd_t (t A B) : @GdQ (some (.v (.b t))) true ⟨A⟩ ⟨B⟩ trivial ↔ @BQ t ⟨A⟩ ⟨B⟩ trivial := Iff.rfl
theorem gd_f (t A B) : @GdQ (some (.v (.b t))) false ⟨A⟩ ⟨B⟩ trivial ↔ @BQ t ⟨B⟩ ⟨A⟩ trivial := by cases t <;> simp [GdQ, BQ]

section
variable (OO : Or) (m : TypeId → String → Option FuncId) (s : St) (d : Option Nat) (Q : R → St → Ac → Prop)
theorem w_al (z : List D) (k : Nat) : @W1 (evO OO m (.al z) s (some k)) ⟨Q⟩ trivial ↔ Q (.q (.ptr k 0)) { s with ob := (k, z) :: s.ob, fr := forget (AM.Q.ofk k) s.fr } (.wk k) := by simp only [evO]; rw [w1_some]
theorem w_ag (z : List D) : @W1 (evO OO m (.ag z) s d) ⟨Q⟩ trivial ↔ Q (.v (.p s.sg.length 0)) { s with sg := s.sg ++ [z] } .ag := by simp only [evO]; rw [w1_some]
theorem w_bx (x : X) (k : Nat) : @W1 (evO OO m (.bx x) s (some k)) ⟨Q⟩ trivial ↔ @O1 _ (rxv x s) ⟨fun p => stb p.1 = true ∧ Q (.q (.ptr k 0)) { p.2 with ob := (k, p.1.cells) :: p.2.ob, fr := forget (AM.Q.ofk k) p.2.fr } (.wk k)⟩ trivial := by
  simp only [evO]
  cases rxv x s with
  | none => simp [w1_none, o1_none]
  | some p =>
    obtain ⟨a, s1⟩ := p
    simp only [o1_some]
    by_cases h : stb a = true
    · rw [if_pos h, w1_some]; simp [h]
    · rw [if_neg h, w1_none]; simp [h]
theorem w_bg (x : X) : @W1 (evO OO m (.bg x) s d) ⟨Q⟩ trivial ↔ @O1 _ (rxv x s) ⟨fun p => stb p.1 = true ∧ Q (.v (.p p.2.sg.length 0)) { p.2 with sg := p.2.sg ++ [p.1.cells] } .ag⟩ trivial := by
  simp only [evO]
  cases rxv x s with
  | none => simp [w1_none, o1_none]
  | some p =>
    obtain ⟨a, s1⟩ := p
    simp only [o1_some]
    by_cases h : stb a = true
    · rw [if_pos h, w1_some]; simp [h]
    · rw [if_neg h, w1_none]; simp [h]
theorem w_bd (z : List D) (ps : List (Nat × Nat × X)) : @W1 (evO OO m (.bd z ps) s d) ⟨Q⟩ trivial ↔ @O1 _ (rxs (ps.map (·.2.2)) s) ⟨fun p => stbs p.1 = true ∧ @O1 _ (fillc z ((ps.zip p.1).map fun (a, d) => (a.1, a.2.1, d))) ⟨fun cs => Q (.v (.a cs)) p.2 .no⟩ trivial⟩ trivial := by
  simp only [evO]
  cases rxs (ps.map (·.2.2)) s with
  | none => simp [w1_none, o1_none]
  | some p =>
    obtain ⟨a, s1⟩ := p
    simp only [o1_some]
    by_cases h : stbs a = true
    · rw [if_pos h, w1_map]; simp [h]
    · rw [if_neg h, w1_none]; simp [h]
theorem w_bs (sz n : Nat) (z : D) (ps : List (Nat × X)) : @W1 (evO OO m (.bs sz n z ps) s d) ⟨Q⟩ trivial ↔ @O1 _ (rxs (ps.map (·.2)) s) ⟨fun p => stbs p.1 = true ∧ @O1 _ (fille (List.replicate n z) sz ((ps.zip p.1).map fun (a, d) => (a.1, d))) ⟨fun xs => Q (.v (.l .x sz xs)) p.2 .no⟩ trivial⟩ trivial := by
  simp only [evO]
  cases rxs (ps.map (·.2)) s with
  | none => simp [w1_none, o1_none]
  | some p =>
    obtain ⟨a, s1⟩ := p
    simp only [o1_some]
    by_cases h : stbs a = true
    · rw [if_pos h, w1_map]; simp [h]
    · rw [if_neg h, w1_none]; simp [h]
theorem w_nc (x : X) : @W1 (evO OO m (.nc x) s d) ⟨Q⟩ trivial ↔ @O1 _ (rx x s) ⟨fun p => match p.1 with
    | .v (.p g o) => Q (.v (.p g o)) p.2 .no
    | .v (.q cs o) => Q (.v (.q cs o)) p.2 .no
    | .q (.ptr k o) => Q (.q (.ptr k o)) p.2 (.rl k 0 0)
    | .q (.el pl i o) => Q (.q (.el pl i o)) p.2 (AM.Q.ac (.el pl i o))
    | _ => False⟩ trivial := by
  simp only [evO]
  cases rx x s with
  | none => simp [w1_none, o1_none]
  | some p =>
    obtain ⟨a, s1⟩ := p
    simp only [o1_some]
    cases a with
    | v a => cases a <;> simp only [w1_none, w1_some]
    | q a => cases a <;> simp only [w1_none, w1_some, AM.Q.ac]
theorem w_fa (off : Nat) (x : X) : @W1 (evO OO m (.fa off x) s d) ⟨Q⟩ trivial ↔ @O1 _ (rx x s) ⟨fun p => @O1 _ (fav off p.1) ⟨fun r => Q r p.2 r.ac⟩ trivial⟩ trivial := by
  simp only [evO]
  cases rx x s with
  | none => simp [w1_none, o1_none]
  | some p => obtain ⟨a, s1⟩ := p; simp only [o1_some]; rw [w1_map]
theorem w_fd (agg : Bool) (off n : Nat) (x : X) : @W1 (evO OO m (.fd agg off n x) s d) ⟨Q⟩ trivial ↔ @O1 _ (rxv x s) ⟨fun p => match p.1 with | .a cs => @O1 _ (sub cs off n) ⟨fun ds => @O1 _ (ofc agg ds) ⟨fun r => Q (.v r) p.2 .no⟩ trivial⟩ trivial | _ => False⟩ trivial := by
  simp only [evO]
  cases rxv x s with
  | none => simp [w1_none, o1_none]
  | some p =>
    obtain ⟨a, s1⟩ := p
    simp only [o1_some]
    cases a <;> simp only [w1_none]
    rename_i cs
    cases sub cs off n with
    | none => simp [w1_none, o1_none]
    | some ds => simp only [o1_some]; rw [w1_map]
theorem w_mi (t : TypeId) (x : X) : @W1 (evO OO m (.mi t x) s d) ⟨Q⟩ trivial ↔ @O1 _ (rxv x s) ⟨fun p => @O1 _ p.1.cp ⟨fun r => Q (.v (.ic t r)) p.2 .no⟩ trivial⟩ trivial := by
  simp only [evO]
  cases rxv x s with
  | none => simp [w1_none, o1_none]
  | some p => obtain ⟨a, s1⟩ := p; simp only [o1_some]; rw [w1_map]
theorem w_mf (f : FuncId) (xs : List X) : @W1 (evO OO m (.mf f xs) s d) ⟨Q⟩ trivial ↔ @O1 _ (rxs xs s) ⟨fun p => @O1 _ (D.cps p.1) ⟨fun r => Q (.v (.fn f r)) p.2 .no⟩ trivial⟩ trivial := by
  simp only [evO]
  cases rxs xs s with
  | none => simp [w1_none, o1_none]
  | some p => obtain ⟨a, s1⟩ := p; simp only [o1_some]; rw [w1_map]
theorem w_eqa (neg : Bool) (cs : List Ec) (x y : X) : @W1 (evO OO m (.eqa neg cs x y) s d) ⟨Q⟩ trivial ↔ @O1 _ (rxv x s) ⟨fun p => @O1 _ (rxv y p.2) ⟨fun q => match p.1, q.1 with | .a ds, .a es => @O1 _ (eqs cs ds es) ⟨fun t => Q (.v (.b (if neg then !t else t))) q.2 .no⟩ trivial | _, _ => False⟩ trivial⟩ trivial := by
  simp only [evO]
  cases rxv x s with
  | none => simp [w1_none, o1_none]
  | some p =>
    obtain ⟨a, s1⟩ := p
    simp only [o1_some]
    cases h2 : rxv y s1 with
    | none => cases a <;> simp [w1_none, o1_none, h2]
    | some q =>
      obtain ⟨b, s2⟩ := q
      simp only [o1_some]
      cases a <;> simp only [h2, w1_none]
      cases b <;> simp only [w1_none]
      rw [w1_map]
theorem w_bits (x : X) : @W1 (evO OO m (.bits x) s d) ⟨Q⟩ trivial ↔ @O1 _ (rxv x s) ⟨fun p => match p.1 with | .f .f64 n => Q (.v (.i .u64 n)) p.2 .no | _ => False⟩ trivial := by
  simp only [evO]
  cases rxv x s with
  | none => simp [w1_none, o1_none]
  | some p =>
    obtain ⟨a, s1⟩ := p
    simp only [o1_some]
    cases a <;> (try simp only [w1_none])
    rename_i k n; cases k <;> simp only [w1_none, w1_some]
theorem w_frbits (x : X) : @W1 (evO OO m (.frbits x) s d) ⟨Q⟩ trivial ↔ @O1 _ (rxv x s) ⟨fun p => match p.1 with | .i .u64 n => 0 ≤ n ∧ Q (.v (.f .f64 n.toNat)) p.2 .no | _ => False⟩ trivial := by
  simp only [evO]
  cases rxv x s with
  | none => simp [w1_none, o1_none]
  | some p =>
    obtain ⟨a, s1⟩ := p
    simp only [o1_some]
    cases a <;> (try simp only [w1_none])
    rename_i k n; cases k <;> (try simp only [w1_none])
    by_cases h : 0 ≤ n
    · rw [if_pos h, w1_some]; simp [h]
    · rw [if_neg h, w1_none]; simp [h]
theorem w_ta (t : TypeId) (x : X) : @W1 (evO OO m (.ta t x) s d) ⟨Q⟩ trivial ↔ @O1 _ (rxv x s) ⟨fun p => match p.1 with | .ic t' e => t = t' ∧ Q (.v e) p.2 .no | _ => False⟩ trivial := by
  simp only [evO]
  cases rxv x s with
  | none => simp [w1_none, o1_none]
  | some p =>
    obtain ⟨a, s1⟩ := p
    simp only [o1_some]
    cases a <;> (try simp only [w1_none])
    rename_i t' e
    by_cases h : t = t'
    · rw [if_pos h, w1_some]; simp [h]
    · rw [if_neg h, w1_none]; simp [h]
theorem w_inv (nm : String) (x : X) (xs : List X) : @W1 (evO OO m (.inv nm x xs) s d) ⟨Q⟩ trivial ↔ @O1 _ (rxv x s) ⟨fun q => match q.1 with
    | .ic t v => @O1 _ (m t nm) ⟨fun f => @O1 _ (rxs xs q.2) ⟨fun p => @O1 _ (OO.call f (v :: p.1) p.2.sg p.2.sg.length) ⟨fun r => Q (.v r.1) { p.2 with sg := r.2.1, lo := min p.2.lo r.2.2, fr := forget AM.Q.gl p.2.fr } (.cl (D.beqs (r.2.1.map .t) (p.2.sg.map .t) && decide (p.2.lo ≤ r.2.2)))⟩ trivial⟩ trivial⟩ trivial
    | _ => False⟩ trivial := by
  simp only [evO]
  cases rxv x s with
  | none => simp [w1_none, o1_none]
  | some q =>
    obtain ⟨a, s1⟩ := q
    simp only [o1_some]
    cases a <;> (try simp only [w1_none])
    rename_i t v
    cases m t nm with
    | none => simp [w1_none, o1_none]
    | some f =>
      simp only [o1_some]
      cases rxs xs s1 with
      | none => simp [w1_none, o1_none]
      | some p =>
        obtain ⟨ds, s1⟩ := p
        simp only [o1_some]
        rw [w1_map]
end

theorem w_pickb (OO : Or) (m : TypeId → String → Option FuncId) (s : St) (d : Option Nat) (Q : R → St → Ac → Prop) (c a b : X) : @W1 (evO OO m (.pick c a b) s d) ⟨Q⟩ trivial ↔ @O1 _ (rxv c s) ⟨fun p => match p.1 with | .b t => @BQ t ⟨@O1 _ (rxv a p.2) ⟨fun q => Q (.v q.1) q.2 .no⟩ trivial⟩ ⟨@O1 _ (rxv b p.2) ⟨fun q => Q (.v q.1) q.2 .no⟩ trivial⟩ trivial | _ => False⟩ trivial := w_pick OO m s d Q c a b
theorem fn_r (res n x s) : FnQ res n x (.r s) ↔ @O1 _ (resv res s) ⟨fun p => (if D.nr n (tup p.1) = true ∧ n ≤ p.2.lo then (tup p.1, p.2.sg.take n, p.2.lo) else (tup p.1, p.2.sg, p.2.lo)) = x⟩ trivial := by
  unfold FnQ fin
  simp only
  cases resv res s with
  | none => simp [O1]
  | some p =>
    obtain ⟨ds, s1⟩ := p
    simp only [O1, Option.some.injEq, exists_eq_left', Bool.and_eq_true, decide_eq_true_eq]
    split <;> simp
theorem fn_n (res n x s) : FnQ res n x (.n s) ↔ @O1 _ (resv res s) ⟨fun p => (if D.nr n (tup p.1) = true ∧ n ≤ p.2.lo then (tup p.1, p.2.sg.take n, p.2.lo) else (tup p.1, p.2.sg, p.2.lo)) = x⟩ trivial := fn_r res n x s
theorem resv_nil (s : St) : resv [] s = some ([], s) := rfl

attribute [simp ↓] wc_skip wc_ret wc_exit wc_seq wc_blk wc_cond wc_reg wc_regd wg_nil wg_cons wo_nil wo_cons wo_guard wd_nil wd_cons wd_guard w_mv w_bin w_eq w_un w_cv w_ia w_sl w_ss w_ixs w_ixa w_app w_apps w_ms w_call w_callv w_ex w_len w_mx w_ld w_lda w_st w_pickb w_al w_ag w_bx w_bg w_bd w_bs w_nc w_fa w_fd w_mi w_mf w_eqa w_bits w_frbits w_ta w_inv
attribute [simp] w1_some w1_none cd_t gd_t gd_f gd_u cd_u bq_true bq_false sq_n sq_x sq_r bk_n bk_x bk_r o1_some o1_none o1_map o1_if_none o1_if o1_ite o1_iav_l bd_none bd_some o1_ssv o1_slv2 o1_slv3 rxo_none rxo_some o1_app_x o1_app_o o1_app_n
attribute [simp] look drp keep forget rx rxv rxs St.put evG D.cp D.cps binv bini unv cvv resv tup fn_r fn_n AM.Q.dead AM.Q.gl AM.Q.bor AM.Q.ofk ini mxv R.fo D.fo D.fos R.fz D.fz D.fzs D.zz D.zzs okA Ac.ok R.ac AM.Q.ac R.acE Pl.rb Pl.re Pl.we stb stbs D.cells fillc fille ovr sub ofc fav ldp auM stp St.at St.setAt St.loAt lenv elems slk beqs_self D.nr D.nrs eq1 eqs rec_

/-- Rounds, by a measure. -/
theorem wc_ind {α : Type} (st : α → St) (μ : α → Nat) (P : α → Prop) {B : C} {Q : Rs → Prop}
    (h : ∀ a, P a → (∀ b, μ b < μ a → P b → @WC (.loop B) (st b) ⟨Q⟩ trivial) → @WC B (st a) ⟨fun r => @SqQ (.loop B) ⟨Q⟩ r trivial⟩ trivial) : ∀ a, P a → @WC (.loop B) (st a) ⟨Q⟩ trivial := by
  have : ∀ n a, μ a < n → P a → @WC (.loop B) (st a) ⟨Q⟩ trivial := by
    intro n
    induction n with
    | zero => intro a ha; omega
    | succ n ih => intro a ha hp; exact wc_loop (h a hp (fun b hb hpb => ih b (by omega) hpb))
  exact fun a hp => this _ a (Nat.lt_succ_self _) hp

theorem wrap64 {x : Int} (h : -9223372036854775808 ≤ x ∧ x ≤ 9223372036854775807) : IntKind.i64.wrap x = x := by
  simp [IntKind.wrap, IntKind.signed, IntKind.bits]; omega

end Go.AM

/-
Small facts about numbers.
-/
namespace Go.AM
set_option linter.unusedSimpArgs false
set_option linter.unusedVariables false
theorem max1 (k : Int) : (if k < 1 then 1 else k) = max k 1 := by split <;> omega
end Go.AM

/-
Images: shapes, room.
-/
namespace Go.AM
set_option linter.unusedSimpArgs false
set_option linter.unusedVariables false
/-- How many lists, and counts, an image has. -/
def shapeOf (k p : Int) : Int × Int := if k = 1 then (p, 0) else if k = 2 then (1, 0) else if k = 3 then (0, p) else if k = 4 then (0, 1) else (0, 0)
theorem c_image_Shape (k p : Int) (sg) : LL.call n_image_Shape [.i .i64 k, .i .i64 p] sg sg.length = some (.t [.i .i64 (shapeOf k p).1, .i .i64 (shapeOf k p).2], sg, sg.length) := by
  refine wp_call e_image_Shape rfl ?_
  simp [F_image_Shape]
  repeat' (refine bq_i (fun h => ?_) (fun h => ?_) <;> simp [h])
  all_goals simp_all [shapeOf]
theorem c_image_Room (k : Int) (sg) : LL.call n_image_Room [.i .i64 k] sg sg.length = some (.i .i64 (998 / max k 1 * max k 1), sg, sg.length) := by
  refine wp_call e_image_Room rfl ?_
  have hm : 1 ≤ max k 1 := by omega
  have hd : Int.tdiv 998 (max k 1) = 998 / max k 1 := Int.tdiv_eq_ediv_of_nonneg (by omega)
  have h0 : 0 ≤ 998 / max k 1 := Int.ediv_nonneg (by omega) (by omega)
  have h1 : 998 / max k 1 * max k 1 ≤ 998 := Int.ediv_mul_le _ (by omega)
  have h2 : 0 ≤ 998 / max k 1 * max k 1 := Int.mul_nonneg h0 (by omega)
  have h3 : 998 / max k 1 ≤ 998 := Int.ediv_le_self _ (by omega)
  simp [F_image_Room, max1, hd]
  rw [wrap64 (x := 998 / max k 1) (by omega), wrap64 (by omega)]
  exact ⟨by omega, rfl⟩
theorem c_law17_awake : LL.call n_c_law17_awake [] [] 0 = some (.b true, [], 0) := lim_call.2 ⟨30, by kernel_rfl⟩
end Go.AM

/- Every function of the table is the program's. -/
namespace Go.AM
set_option linter.unusedVariables false
open Go.Proofs
set_option maxRecDepth 100000
theorem fol : Try.prog.follows .mixedOrders = true := by kernel_rfl
theorem tab_ok : tab.all (fun p => chkFn Try.prog EE.fbits EE.frb p.1 p.2) = true := by kernel_rfl
theorem look_in {α : Type} {k : Nat} {x : α} : ∀ {l : List (Nat × α)}, look k l = some x → (k, x) ∈ l
  | (j, y) :: r, h => by
    simp only [look] at h
    split at h
    · rename_i e; cases h; subst e; simp
    · exact List.mem_cons_of_mem _ (look_in h)
theorem env_ok : EnvOK Try.prog EE := fun f af h => List.all_eq_true.1 tab_ok (f, af) (look_in h)
theorem lib_ok : Lib Try.prog EE.fbits EE.frb EE.meth where
  bits := fun f h n w => by cases h; rfl
  frb := fun f h n w => by cases h; rfl
  meth := fun t nm f h => (nomatch h)
end Go.AM

namespace Go.AM
open Go.Proofs
set_option linter.unusedSimpArgs false
set_option linter.unusedVariables false
def args_ImageShapes : List (Bool × Ty) := [(false, .i .i64), (false, .i .i64), (false, .i .i64)]
theorem args_ImageShapes_ok : tyA Try.prog [3, 3, 3] = some args_ImageShapes := by kernel_rfl
theorem imageShapes (k p n : Int) (hn : -9223372036854775808 ≤ n ∧ n ≤ 9223372036854775807) : LL.call n_c_law17_ImageShapes [.i .i64 k, .i .i64 p, .i .i64 n] [] 0 = some (.b true, [], 0) := by
  refine wp_call e_c_law17_ImageShapes rfl ?_
  have hs := c_image_Shape k p []
  have hr := c_image_Room n []
  have ha := c_law17_awake
  simp at hs hr
  have hm : 1 ≤ max n 1 := by omega
  have h0 : 0 ≤ 998 / max n 1 := Int.ediv_nonneg (by omega) (by omega)
  have h1 : 998 / max n 1 * max n 1 ≤ 998 := Int.ediv_mul_le _ (by omega)
  have h2 : 0 ≤ 998 / max n 1 * max n 1 := Int.mul_nonneg h0 (by omega)
  have h3 : (998 / max n 1 * max n 1).tmod (max n 1) = 0 := Int.mul_tmod_left ..
  have h4 : 998 - max n 1 < 998 / max n 1 * max n 1 := by
    have := Int.mul_ediv_add_emod 998 (max n 1)
    have := Int.emod_lt_of_pos 998 (b := max n 1) (by omega)
    rw [Int.mul_comm (998 / max n 1)]
    omega
  generalize 998 / max n 1 * max n 1 = q at *
  have hm0 : ¬ max n 1 = 0 := by omega
  simp [F_c_law17_ImageShapes, ha, hs, hr, max1]
  repeat' (refine bq_i (fun h => ?_) (fun h => ?_) <;> (try simp at h) <;> simp [h, hr, max1, hm0, h1, h2, h3, shapeOf, *] <;> try omega)
  all_goals (rw [wrap64 (by omega)]; omega)
theorem law_ImageShapes (ds : List D) (h : FitA args_ImageShapes ds) : ∃ sg lo, (lim EE).call 4 ds [] 0 = some (.b true, sg, lo) := by
  cases h with
  | c h1 k =>
    cases h1 with
    | i k1 n1 w1 =>
      cases k with
      | c h2 k =>
        cases h2 with
        | i k2 n2 w2 =>
          cases k with
          | c h3 k =>
            cases h3 with
            | i k3 n3 w3 =>
              cases k with
              | nil =>
                refine ⟨[], 0, imageShapes n1 n2 n3 ?_⟩
                simpa [Lit.wf, IntKind.min, IntKind.max, IntKind.signed, IntKind.bits] using w3
end Go.AM
