/- Lemmas: an abstract machine over the loaded program, proved sound against the model once; what the program's functions compute. -/
import Derived.Test.YteiahfpnjjdkoaaGreatK2
import Derived.Test.YteiahfpnjjdkoaaGreatK3
import Derived.Laws.BitsLemmas
set_option linter.all false
namespace Go.AM
noncomputable abbrev LL:Or:=lim EE
class Kt (α : Type) where
 q:α → Prop
class K3 where
 q:R → St → Ac → Prop
class Pr where
 p:Prop
def WC (c:C) (s:St) [k:Kt Rs] (_:True):Prop:=∃ r,evC EE LL c s=some r ∧ k.q r
def WG (gs:List Gh) (s:St) [k:Kt St] (_:True):Prop:=∃ t,evGs gs s=some t ∧ k.q t
def WO (ops:List I) (s:St) [k:Kt St] (_:True):Prop:=∃ t,evOps EE LL ops s=some t ∧ k.q t
def WD (ops:List I) (acs:List Ac) (s:St) [k:Kt St] (_:True):Prop:=∃ t,evOpsD EE LL ops acs s=some t ∧ k.q t
def W1 (x:Option (R × St × Ac)) [k:K3] (_:True):Prop:=∃ r s ac,x=some (r,s,ac) ∧ k.q r s ac
def SqQ (b:C) [k:Kt Rs] (r:Rs) (_:True):Prop:=match r with
 | .n s=>@WC b s k trivial
 | .x i s=>k.q (.x i s)
 | .r s=>k.q (.r s)
def BkQ (n:Nat) [k:Kt Rs] (r:Rs) (_:True):Prop:=match r with
 | .n s=>k.q (.n s)
 | .x i s=>if i=n then k.q (.n s) else k.q (.x i s)
 | .r s=>k.q (.r s)
def CdQ (x:Option R) [A:Pr] [B:Pr] (_:True):Prop:=match x with
 | some (.v (.b t))=>if t=true then A.p else B.p
 | _=>False
def GdQ (x:Option R) (b:Bool) [A:Pr] [B:Pr] (_:True):Prop:=match x with
 | some (.v (.b t))=>if t=b then A.p else B.p
 | some (.v .u)=>B.p
 | _=>False
def FnQ (res:List (Sum Nat (Nat × Bool × Nat))) (n:Nat) (x:D × List (List D) × Nat) (r:Rs):Prop:=fin ⟨0,res,.skip⟩ n (some r)=some x
theorem w1_some (r s ac Q):@W1 (some (r,s,ac)) ⟨Q⟩ trivial ↔ Q r s ac:=by
 unfold W1
 constructor
 ·rintro ⟨_,_,_,h,hq⟩; cases h; exact hq
 ·exact fun h=>⟨_,_,_,rfl,h⟩
theorem w1_none (Q):@W1 none ⟨Q⟩ trivial ↔ False:=by simp [W1]
theorem wc_skip (s Q):@WC .skip s ⟨Q⟩ trivial ↔ Q (.n s):=by simp [WC,evC]
theorem wc_ret (s Q):@WC .ret s ⟨Q⟩ trivial ↔ Q (.r s):=by simp [WC,evC]
theorem wc_exit (n s Q):@WC (.exit n) s ⟨Q⟩ trivial ↔ Q (.x n s):=by simp [WC,evC]
theorem wc_seq (a b s Q):@WC (.seq a b) s ⟨Q⟩ trivial ↔ @WC a s ⟨fun r=>@SqQ b ⟨Q⟩ r trivial⟩ trivial:=by
 unfold WC
 simp only [evC]
 constructor
 ·rintro ⟨r,h,hq⟩
  cases h1:evC EE LL a s with
  | none=>rw [h1] at h; simp [sq] at h
  | some r1 =>
   rw [h1] at h
   refine ⟨r1,rfl,?_⟩
   cases r1 with
   | n s1=>exact ⟨r,h,hq⟩
   | x i s1=>simp [sq] at h; subst h; exact hq
   | r s1=>simp [sq] at h; subst h; exact hq
 ·rintro ⟨r1,h1,hq⟩
  rw [h1]
  cases r1 with
  | n s1=>exact hq
  | x i s1=>exact ⟨_,rfl,hq⟩
  | r s1=>exact ⟨_,rfl,hq⟩
theorem wc_blk (n a s Q):@WC (.blk n a) s ⟨Q⟩ trivial ↔ @WC a s ⟨fun r=>@BkQ n ⟨Q⟩ r trivial⟩ trivial:=by
 unfold WC
 simp only [evC]
 constructor
 ·rintro ⟨r,h,hq⟩
  cases h1:evC EE LL a s with
  | none=>rw [h1] at h; simp [bk] at h
  | some r1 =>
   rw [h1] at h
   refine ⟨r1,rfl,?_⟩
   cases r1 with
   | n s1=>simp [bk] at h; subst h; exact hq
   | r s1=>simp [bk] at h; subst h; exact hq
   | x i s1 =>
    simp only [bk] at h
    simp only [BkQ]
    split at h <;> rename_i e <;> cases h
    ·rw [if_pos e]; exact hq
    ·rw [if_neg e]; exact hq
 ·rintro ⟨r1,h1,hq⟩
  rw [h1]
  cases r1 with
  | n s1=>exact ⟨_,rfl,hq⟩
  | r s1=>exact ⟨_,rfl,hq⟩
  | x i s1 =>
   simp only [BkQ] at hq
   simp only [bk]
   split at hq <;> rename_i e
   ·exact ⟨_,by rw [if_pos e],hq⟩
   ·exact ⟨_,by rw [if_neg e],hq⟩
theorem wc_cond (x a b s Q):@WC (.cond x a b) s ⟨Q⟩ trivial ↔ @CdQ (look x s.fr) ⟨@WC a s ⟨Q⟩ trivial⟩ ⟨@WC b s ⟨Q⟩ trivial⟩ trivial:=by
 unfold WC
 simp only [evC]
 cases h:look x s.fr with
 | none=>simp [CdQ]
 | some r =>
  cases r with
  | q q=>simp [CdQ]
  | v d =>
   cases d <;> simp [CdQ]
   rename_i t; cases t <;> simp
theorem wc_reg (gs ops ls os s Q):@WC (.reg gs ops false ls os) s ⟨Q⟩ trivial ↔ @WG gs s ⟨fun s=>@WO ops s ⟨fun s=>Q (.n { s with fr:=forget (AM.Q.dead os) (keep ls s.fr),ob:=keep os s.ob })⟩ trivial⟩ trivial:=by
 unfold WC WG WO
 simp only [evC]
 cases h:evGs gs s with
 | none=>simp
 | some t =>
  simp only [Bool.false_eq_true,if_false]
  cases h2:evOps EE LL ops t with
  | none=>simp [h2]
  | some t2=>simp [h2]
theorem wc_regd (gs ops ls os s Q):@WC (.reg gs ops true ls os) s ⟨Q⟩ trivial ↔ @WG gs s ⟨fun s=>@WD ops [] s ⟨fun s=>Q (.n { s with fr:=forget (AM.Q.dead os) (keep ls s.fr),ob:=keep os s.ob })⟩ trivial⟩ trivial:=by
 unfold WC WG WD
 simp only [evC]
 cases h:evGs gs s with
 | none=>simp
 | some t =>
  simp only [if_true]
  cases h2:evOpsD EE LL ops [] t with
  | none=>simp [h2]
  | some t2=>simp [h2]
theorem wg_nil (s Q):@WG [] s ⟨Q⟩ trivial ↔ Q s:=by simp [WG,evGs]
theorem wg_cons (g gs s Q):@WG (g :: gs) s ⟨Q⟩ trivial ↔ ∃ t,evG g s=some t ∧ @WG gs t ⟨Q⟩ trivial:=by
 unfold WG
 simp only [evGs]
 cases h:evG g s with
 | none=>simp
 | some t=>simp
theorem wo_nil (s Q):@WO [] s ⟨Q⟩ trivial ↔ Q s:=by simp [WO,evOps]
theorem wo_cons (d op un fz r s Q):@WO (⟨d,none,op,un,fz⟩ :: r) s ⟨Q⟩ trivial ↔ @W1 (evO LL EE.meth op s d) ⟨fun x t _=>@WO r (t.put d (fzR fz x)) ⟨Q⟩ trivial⟩ trivial:=by
 cases h:evO LL EE.meth op s d with
 | none=>rw [w1_none]; simp [WO,evOps,evI,wants,h]
 | some p =>
  obtain ⟨x,t,ac⟩:=p
  rw [w1_some]
  unfold WO
  simp only [evOps,evI,wants,h,Option.map_some]
theorem wo_guard (d k b op un fz r s Q):@WO (⟨d,some (k,b),op,un,fz⟩ :: r) s ⟨Q⟩ trivial ↔ @GdQ (look k s.fr) b ⟨@W1 (evO LL EE.meth op s d) ⟨fun x t _=>@WO r (t.put d (fzR fz x)) ⟨Q⟩ trivial⟩ trivial⟩ ⟨@WO r (s.put d (.v .u)) ⟨Q⟩ trivial⟩ trivial:=by
 have h0:∀ t:Bool,look k s.fr=some (.v (.b t)) → (@WO (⟨d,some (k,b),op,un,fz⟩ :: r) s ⟨Q⟩ trivial ↔ @WO (⟨d,none,op,un,fz⟩ :: r) s ⟨Q⟩ trivial ∧ t=b ∨ t ≠ b ∧ @WO r (s.put d (.v .u)) ⟨Q⟩ trivial):=by
  intro t ht
  unfold WO
  simp only [evOps,evI,wants,ht]
  cases t <;> cases b <;> simp
 cases hl:look k s.fr with
 | none=>simp [WO,evOps,evI,wants,hl,GdQ]
 | some x =>
  cases x with
  | q q=>simp [WO,evOps,evI,wants,hl,GdQ]
  | v v =>
   cases v <;> try (simp [WO,evOps,evI,wants,hl,GdQ]; done)
   rename_i t
   rw [h0 t hl,wo_cons]
   simp only [GdQ]
   cases t <;> cases b <;> simp
theorem wd_nil (acs s Q):@WD [] acs s ⟨Q⟩ trivial ↔ Q s:=by simp [WD,evOpsD]
theorem wd_cons (d op un fz r acs s Q):@WD (⟨d,none,op,un,fz⟩ :: r) acs s ⟨Q⟩ trivial ↔ @W1 (evO LL EE.meth op s d) ⟨fun x t ac=>okA un acs ac=true ∧ @WD r (acs ++ [ac]) (t.put d (fzR fz x)) ⟨Q⟩ trivial⟩ trivial:=by
 cases h:evO LL EE.meth op s d with
 | none=>rw [w1_none]; simp [WD,evOpsD,evI,wants,h]
 | some p =>
  obtain ⟨x,t,ac⟩:=p
  rw [w1_some]
  unfold WD
  simp only [evOpsD,evI,wants,h,Option.map_some]
  constructor
  ·rintro ⟨t',h1,h2⟩
   split at h1
   ·rename_i hk; exact ⟨hk,t',h1,h2⟩
   ·cases h1
  ·rintro ⟨hk,t2,h1,h2⟩
   exact ⟨t2,by rw [if_pos hk]; exact h1,h2⟩
theorem wd_guard (d k b op un fz r acs s Q):@WD (⟨d,some (k,b),op,un,fz⟩ :: r) acs s ⟨Q⟩ trivial ↔ @GdQ (look k s.fr) b ⟨@W1 (evO LL EE.meth op s d) ⟨fun x t ac=>okA un acs ac=true ∧ @WD r (acs ++ [ac]) (t.put d (fzR fz x)) ⟨Q⟩ trivial⟩ trivial⟩ ⟨okA un acs .no=true ∧ @WD r (acs ++ [.no]) (s.put d (.v .u)) ⟨Q⟩ trivial⟩ trivial:=by
 have hu:@WD (⟨d,none,.mv (.c .u),un,0⟩ :: r) acs s ⟨Q⟩ trivial ↔ (okA un acs .no=true ∧ @WD r (acs ++ [.no]) (s.put d (.v .u)) ⟨Q⟩ trivial):=by
  rw [wd_cons]
  simp only [evO,rx,Option.map_some,R.ac,w1_some,fzR]
 have h0:∀ t:Bool,look k s.fr=some (.v (.b t)) → (@WD (⟨d,some (k,b),op,un,fz⟩ :: r) acs s ⟨Q⟩ trivial ↔ @WD (⟨d,none,op,un,fz⟩ :: r) acs s ⟨Q⟩ trivial ∧ t=b ∨ t ≠ b ∧ @WD (⟨d,none,.mv (.c .u),un,0⟩ :: r) acs s ⟨Q⟩ trivial):=by
  intro t ht
  unfold WD
  simp only [evOpsD,evI,wants,ht,evO,rx,Option.map_some,R.ac,fzR]
  cases t <;> cases b <;> simp
 cases hl:look k s.fr with
 | none=>simp [WD,evOpsD,evI,wants,hl,GdQ]
 | some x =>
  cases x with
  | q q=>simp [WD,evOpsD,evI,wants,hl,GdQ]
  | v v =>
   cases v <;> try (simp [WD,evOpsD,evI,wants,hl,GdQ]; done)
   ·rename_i t
    rw [h0 t hl,hu,wd_cons]
    simp only [GdQ]
    cases t <;> cases b <;> simp
   ·have:@WD (⟨d,some (k,b),op,un,fz⟩ :: r) acs s ⟨Q⟩ trivial ↔ @WD (⟨d,none,.mv (.c .u),un,0⟩ :: r) acs s ⟨Q⟩ trivial:=by
     unfold WD
     simp only [evOpsD,evI,wants,hl,evO,rx,Option.map_some,R.ac,fzR]
    rw [this,hu]
    simp [GdQ]
theorem gd_u (b A B):@GdQ (some (.v .u)) b ⟨A⟩ ⟨B⟩ trivial ↔ B:=Iff.rfl
theorem sq_n (b Q s):@SqQ b ⟨Q⟩ (.n s) trivial ↔ @WC b s ⟨Q⟩ trivial:=Iff.rfl
theorem sq_x (b Q i s):@SqQ b ⟨Q⟩ (.x i s) trivial ↔ Q (.x i s):=Iff.rfl
theorem sq_r (b Q s):@SqQ b ⟨Q⟩ (.r s) trivial ↔ Q (.r s):=Iff.rfl
theorem bk_n (n Q s):@BkQ n ⟨Q⟩ (.n s) trivial ↔ Q (.n s):=Iff.rfl
theorem bk_x (n Q i s):@BkQ n ⟨Q⟩ (.x i s) trivial ↔ if i=n then Q (.n s) else Q (.x i s):=Iff.rfl
theorem bk_r (n Q s):@BkQ n ⟨Q⟩ (.r s) trivial ↔ Q (.r s):=Iff.rfl
theorem wp_call {f : FuncId} {F : F} {ds : List D} {sg : List (List D)} {x : D × List (List D) × Nat} (hF : EE.fn f = some F) (hn : ds.length = F.np)
    (h:@WC F.body ⟨ini 0 ds,[],sg,sg.length⟩ ⟨fun r=>FnQ F.res sg.length x r⟩ trivial) (hq:decide (f < Q0)=true:=by exact rfl):LL.call f ds sg sg.length=some x:=by
 obtain ⟨r,h1,h2⟩:=h
 refine call_of ?_
 unfold stepCall
 simp only [hF,if_pos hn]
 rw [iniF_lt (of_decide_eq_true hq)]
 simp only
 rw [h1]; exact h2
theorem wp_callq {f : FuncId} {F : F} {r off : Nat} {d0 : D} {cs ds : List D} {sg : List (List D)} {x : D × List (List D) × Nat} (hF : EE.fn f = some F) (hn : ds.length + 1 = F.np) (hcs : sg[r]? = some cs) (hd : cs[off]? = some d0)
    (h:@WC F.body ⟨(0,.q (.hd (.gb r off))) :: ini 1 ds,[],sg,sg.length⟩ ⟨fun r=>FnQ F.res sg.length x r⟩ trivial) (hq:decide (f < Q0)=false:=by exact rfl):LL.call f (.p r off :: ds) sg sg.length=some x:=by
 obtain ⟨r1,h1,h2⟩:=h
 refine call_of ?_
 unfold stepCall
 have hn':(D.p r off :: ds).length=F.np:=by simpa using hn
 simp only [hF,if_pos hn']
 rw [iniF_q (of_decide_eq_false hq) hcs hd]
 simp only
 rw [h1]; exact h2
theorem wc_loop {c s Q} (h:@WC c s ⟨fun r=>@SqQ (.loop c) ⟨Q⟩ r trivial⟩ trivial):@WC (.loop c) s ⟨Q⟩ trivial:=by
 obtain ⟨r1,h1,h2⟩:=h
 cases r1 with
 | n s1 =>
  obtain ⟨r,h3,h4⟩:=h2
  refine ⟨r,?_,h4⟩
  simp only [evC] at h3 ⊢
  refine loop_of ?_
  unfold stepLoop
  rw [h1]; exact h3
 | x i s1 =>
  refine ⟨.x i s1,?_,h2⟩
  simp only [evC]
  refine loop_of ?_
  unfold stepLoop
  rw [h1]; rfl
 | r s1 =>
  refine ⟨.r s1,?_,h2⟩
  simp only [evC]
  refine loop_of ?_
  unfold stepLoop
  rw [h1]; rfl
end Go.AM

namespace Go.AM
def O1 {α : Type} (o:Option α) [k:Kt α] (_:True):Prop:=∃ a,o=some a ∧ k.q a
theorem o1_some {α : Type} (a:α) (Q):@O1 _ (some a) ⟨Q⟩ trivial ↔ Q a:=by simp [O1]
theorem o1_none {α : Type} (Q:α → Prop):@O1 _ none ⟨Q⟩ trivial ↔ False:=by simp [O1]
theorem o1_map {α β : Type} (o:Option α) (f:α → β) (Q):@O1 _ (o.map f) ⟨Q⟩ trivial ↔ @O1 _ o ⟨fun a=>Q (f a)⟩ trivial:=by cases o <;> simp [O1]
theorem o1_if_none {α : Type} (c:Prop) [Decidable c] (o:Option α) (Q):@O1 _ (if c then none else o) ⟨Q⟩ trivial ↔ ¬ c ∧ @O1 _ o ⟨Q⟩ trivial:=by by_cases h:c <;> simp [h,O1]
theorem o1_if {α : Type} (c:Prop) [Decidable c] (o:Option α) (Q):@O1 _ (if c then o else none) ⟨Q⟩ trivial ↔ c ∧ @O1 _ o ⟨Q⟩ trivial:=by by_cases h:c <;> simp [h,O1]
theorem o1_ite {α : Type} (c:Prop) [Decidable c] (a b:α) (Q):@O1 _ (if c then some a else some b) ⟨Q⟩ trivial ↔ Q (if c then a else b):=by by_cases h:c <;> simp [h,O1]
section
variable (OO:Or) (m:TypeId → String → Option FuncId) (s:St) (d:Option Nat) (Q:R → St → Ac → Prop)
theorem w1_map {α : Type} (o:Option α) (f:α → R × St × Ac):@W1 (o.map f) ⟨Q⟩ trivial ↔ @O1 _ o ⟨fun a=>Q (f a).1 (f a).2.1 (f a).2.2⟩ trivial:=by
 cases o with
 | none=>simp [W1,O1]
 | some a=>rw [Option.map_some,o1_some]; exact w1_some _ _ _ _
theorem w1_o1 (o:Option (R × St × Ac)):@W1 o ⟨Q⟩ trivial ↔ @O1 _ o ⟨fun p=>Q p.1 p.2.1 p.2.2⟩ trivial:=by
 cases o with
 | none=>simp [W1,O1]
 | some a=>obtain ⟨x,t,ac⟩:=a; rw [w1_some,o1_some]
theorem w_mv (x:X):@W1 (evO OO m (.mv x) s d) ⟨Q⟩ trivial ↔ @O1 _ (rx x s) ⟨fun p=>Q p.1 p.2 p.1.ac⟩ trivial:=by simp only [evO]; rw [w1_map]
theorem w_bin (op:BinOp) (x y:X):@W1 (evO OO m (.bin op x y) s d) ⟨Q⟩ trivial ↔ @O1 _ (rxv x s) ⟨fun p=>@O1 _ (rxv y p.2) ⟨fun q=>@O1 _ (binv op p.1 q.1) ⟨fun r=>Q (.v r) q.2 .no⟩ trivial⟩ trivial⟩ trivial:=by
 simp only [evO]
 cases rxv x s with
 | none=>simp [w1_none,o1_none]
 | some p =>
  obtain ⟨a,s1⟩:=p
  simp only [o1_some]
  cases rxv y s1 with
  | none=>simp [w1_none,o1_none]
  | some q=>obtain ⟨b,s2⟩:=q; simp only [o1_some]; rw [w1_map]
theorem w_eq (neg:Bool) (c:Ec) (x y:X):@W1 (evO OO m (.eq neg c x y) s d) ⟨Q⟩ trivial ↔ @O1 _ (rxv x s) ⟨fun p=>@O1 _ (rxv y p.2) ⟨fun q=>@O1 _ (eq1 c p.1 q.1) ⟨fun t=>Q (.v (.b (if neg then !t else t))) q.2 .no⟩ trivial⟩ trivial⟩ trivial:=by
 simp only [evO]
 cases rxv x s with
 | none=>simp [w1_none,o1_none]
 | some p =>
  obtain ⟨a,s1⟩:=p
  simp only [o1_some]
  cases rxv y s1 with
  | none=>simp [w1_none,o1_none]
  | some q=>obtain ⟨b,s2⟩:=q; simp only [o1_some]; rw [w1_map]
theorem w_un (op:UnOp) (x:X):@W1 (evO OO m (.un op x) s d) ⟨Q⟩ trivial ↔ @O1 _ (rxv x s) ⟨fun p=>@O1 _ (unv op p.1) ⟨fun r=>Q (.v r) p.2 .no⟩ trivial⟩ trivial:=by
 simp only [evO]
 cases rxv x s with
 | none=>simp [w1_none,o1_none]
 | some p=>obtain ⟨a,s1⟩:=p; simp only [o1_some]; rw [w1_map]
theorem w_cv (c:Cv) (x:X):@W1 (evO OO m (.cv c x) s d) ⟨Q⟩ trivial ↔ @O1 _ (rxv x s) ⟨fun p=>@O1 _ (cvv c p.1) ⟨fun r=>Q (.v r) p.2 .no⟩ trivial⟩ trivial:=by
 simp only [evO]
 cases rxv x s with
 | none=>simp [w1_none,o1_none]
 | some p=>obtain ⟨a,s1⟩:=p; simp only [o1_some]; rw [w1_map]
theorem w_ia (sz:Nat) (len:Option Nat) (x y:X):@W1 (evO OO m (.ia sz len x y) s d) ⟨Q⟩ trivial ↔ @O1 _ (rx x s) ⟨fun p=>@O1 _ (rxv y p.2) ⟨fun q=>match q.1 with | .i _ n=>@O1 _ (iav q.2 sz len p.1.fz n) ⟨fun r=>Q r.1 q.2 r.2⟩ trivial | _=>False⟩ trivial⟩ trivial:=by
 simp only [evO]
 cases rx x s with
 | none=>simp [w1_none,o1_none]
 | some p =>
  obtain ⟨a,s1⟩:=p
  simp only [o1_some]
  cases h2:rxv y s1 with
  | none=>simp [w1_none,o1_none,h2]
  | some q =>
   obtain ⟨b,s2⟩:=q
   simp only [o1_some,h2]
   cases b <;> first | rw [w1_none] | skip
   simp only
   rw [w1_map]
theorem o1_iav_l (sz:Nat) (k:K) (sz':Nat) (xs:List D) (n:Int) (Q:R × Ac → Prop):@O1 _ (iav s sz none (.v (.l k sz' xs)) n) ⟨Q⟩ trivial ↔ 0 ≤ n ∧ (sz'=sz ∧ k ≠ .x) ∧ @O1 _ xs[n.toNat]? ⟨fun d=>Q (.v (.q d.cells 0),.no)⟩ trivial:=by
 unfold iav
 by_cases hn:n < 0
 ·simp [hn,o1_none]; omega
 ·rw [if_neg hn]
  simp only
  by_cases hc:sz'=sz ∧ k ≠ .x
  ·rw [if_pos hc]
   cases h:xs[n.toNat]? with
   | none=>simp [o1_none]
   | some d=>simp [o1_some,hc]; omega
  ·rw [if_neg hc]
   simp only [o1_none,hc,false_and,and_false]
theorem o1_iav_hd (sz:Nat) (pl:Pl) (n:Int) (sz':Nat) (xs:List D) (h:s.at pl=some (.l .x sz' xs)) (Q:R × Ac → Prop):@O1 _ (iav s sz none (.q (.hd pl)) n) ⟨Q⟩ trivial ↔ 0 ≤ n ∧ (sz'=sz ∧ n.toNat < xs.length) ∧ Q (.q (.el pl n.toNat 0),pl.rb):=by
 unfold iav
 by_cases hn:n < 0
 ·simp [hn,o1_none]; omega
 ·rw [if_neg hn]
  simp only [hpl,h]
  by_cases hc:sz'=sz ∧ n.toNat < xs.length
  ·rw [if_pos hc,o1_some,hd_ac]; simp [hc]; omega
  ·rw [if_neg hc,o1_none]; simp only [hc,false_and,and_false]
def AtQ (x:Option D) [k:Kt (Nat × List D)] (_:True):Prop:=∃ sz xs,x=some (.l .x sz xs) ∧ k.q (sz,xs)
theorem at_some (sz:Nat) (xs:List D) (Q):@AtQ (some (.l .x sz xs)) ⟨Q⟩ trivial ↔ Q (sz,xs):=by
 constructor
 ·rintro ⟨_,_,h,hq⟩; cases h; exact hq
 ·exact fun h=>⟨_,_,rfl,h⟩
theorem o1_iav_hd' (sz:Nat) (pl:Pl) (n:Int) (Q:R × Ac → Prop):@O1 _ (iav s sz none (.q (.hd pl)) n) ⟨Q⟩ trivial ↔ 0 ≤ n ∧ @AtQ (s.at pl) ⟨fun a=>(a.1=sz ∧ n.toNat < a.2.length) ∧ Q (.q (.el pl n.toNat 0),pl.rb)⟩ trivial:=by
 constructor
 ·intro h
  unfold iav at h
  by_cases hn:n < 0
  ·simp [hn,o1_none] at h
  ·rw [if_neg hn] at h
   simp only [hpl] at h
   split at h
   ·rename_i sz' xs he
    have h':@O1 _ (iav s sz none (.q (.hd pl)) n) ⟨Q⟩ trivial:=by
     unfold iav; rw [if_neg hn]; simp only [hpl,he]; exact h
    rw [o1_iav_hd s sz pl n sz' xs he] at h'
    exact ⟨h'.1,sz',xs,he,h'.2⟩
   ·simp [o1_none] at h
 ·rintro ⟨h0,sz',xs,he,h⟩
  exact (o1_iav_hd s sz pl n sz' xs he Q).2 ⟨h0,h⟩
theorem o1_iav_hdr (sz:Nat) (k:Nat) (n:Int) (sz':Nat) (xs:List D) (h:s.at (.ob k 0)=some (.l .x sz' xs)) (Q:R × Ac → Prop):@O1 _ (iav s sz none (.q (.hdr k)) n) ⟨Q⟩ trivial ↔ 0 ≤ n ∧ (sz'=sz ∧ n.toNat < xs.length) ∧ Q (.q (.el (.ob k 0) n.toNat 0),.rb k):=by
 unfold iav
 by_cases hn:n < 0
 ·simp [hn,o1_none]; omega
 ·rw [if_neg hn]
  simp only [hpl,h]
  by_cases hc:sz'=sz ∧ n.toNat < xs.length
  ·rw [if_pos hc,o1_some]; simp [hc]; omega
  ·rw [if_neg hc,o1_none]; simp only [hc,false_and,and_false]
theorem o1_iav_hdr' (sz:Nat) (k:Nat) (n:Int) (Q:R × Ac → Prop):@O1 _ (iav s sz none (.q (.hdr k)) n) ⟨Q⟩ trivial ↔ 0 ≤ n ∧ @AtQ (s.at (.ob k 0)) ⟨fun a=>(a.1=sz ∧ n.toNat < a.2.length) ∧ Q (.q (.el (.ob k 0) n.toNat 0),.rb k)⟩ trivial:=by
 constructor
 ·intro h
  unfold iav at h
  by_cases hn:n < 0
  ·simp [hn,o1_none] at h
  ·rw [if_neg hn] at h
   simp only [hpl] at h
   split at h
   ·rename_i sz' xs he
    have h':@O1 _ (iav s sz none (.q (.hdr k)) n) ⟨Q⟩ trivial:=by
     unfold iav; rw [if_neg hn]; simp only [hpl,he]; exact h
    rw [o1_iav_hdr s sz k n sz' xs he] at h'
    exact ⟨h'.1,sz',xs,he,h'.2⟩
   ·simp [o1_none] at h
 ·rintro ⟨h0,sz',xs,he,h⟩
  exact (o1_iav_hdr s sz k n sz' xs he Q).2 ⟨h0,h⟩
theorem w_sl (sz:Nat) (x:X) (lo hi mx:Option X):@W1 (evO OO m (.sl sz x lo hi mx) s d) ⟨Q⟩ trivial ↔ @O1 _ (rxv x s) ⟨fun p=>@O1 _ (evO.rxo lo p.2) ⟨fun l=>@O1 _ (evO.rxo hi l.2) ⟨fun h=>@O1 _ (evO.rxo mx h.2) ⟨fun m=>@O1 _ (slv sz p.1 l.1 h.1 m.1) ⟨fun r=>Q (.v r) m.2 .no⟩ trivial⟩ trivial⟩ trivial⟩ trivial⟩ trivial:=by
 simp only [evO]
 cases rxv x s with
 | none=>simp [w1_none,o1_none]
 | some p =>
  obtain ⟨a,s1⟩:=p
  simp only [o1_some]
  cases evO.rxo lo s1 with
  | none=>simp [w1_none,o1_none]
  | some q =>
   obtain ⟨l,s2⟩:=q
   simp only [o1_some]
   cases evO.rxo hi s2 with
   | none=>simp [w1_none,o1_none]
   | some q =>
    obtain ⟨h,s3⟩:=q
    simp only [o1_some]
    cases evO.rxo mx s3 with
    | none=>simp [w1_none,o1_none]
    | some q=>obtain ⟨mm,s4⟩:=q; simp only [o1_some]; rw [w1_map]
theorem w_ss (x:X) (lo hi:Option X):@W1 (evO OO m (.ss x lo hi) s d) ⟨Q⟩ trivial ↔ @O1 _ (rxv x s) ⟨fun p=>@O1 _ (evO.rxo lo p.2) ⟨fun l=>@O1 _ (evO.rxo hi l.2) ⟨fun h=>@O1 _ (ssv p.1 l.1 h.1) ⟨fun r=>Q (.v r) h.2 .no⟩ trivial⟩ trivial⟩ trivial⟩ trivial:=by
 simp only [evO]
 cases rxv x s with
 | none=>simp [w1_none,o1_none]
 | some p =>
  obtain ⟨a,s1⟩:=p
  simp only [o1_some]
  cases evO.rxo lo s1 with
  | none=>simp [w1_none,o1_none]
  | some q =>
   obtain ⟨l,s2⟩:=q
   simp only [o1_some]
   cases evO.rxo hi s2 with
   | none=>simp [w1_none,o1_none]
   | some q=>obtain ⟨h,s3⟩:=q; simp only [o1_some]; rw [w1_map]
theorem rxo_none (s:St):evO.rxo none s=some (none,s):=rfl
theorem rxo_some (x:X) (s:St):evO.rxo (some x) s=(rxv x s).map fun p=>(some p.1,p.2):=rfl
def BdQ (o:Option D) (dflt top:Nat) [k:Kt Nat] (_:True):Prop:=@O1 _ (bnd o dflt top) k trivial
theorem bd_none (dflt top Q):@BdQ none dflt top ⟨Q⟩ trivial ↔ Q dflt:=by simp [BdQ,bnd,o1_some]
theorem bd_some (k n dflt top Q):@BdQ (some (.i k n)) dflt top ⟨Q⟩ trivial ↔ (0 ≤ n ∧ n ≤ top) ∧ Q n.toNat:=by simp only [BdQ,bnd,o1_if,o1_some]
theorem o1_ssv (v:ByteArray) (lo hi:Option D) (Q:D → Prop):@O1 _ (ssv (.s v) lo hi) ⟨Q⟩ trivial ↔ @BdQ hi v.size v.size ⟨fun h=>@BdQ lo 0 h ⟨fun l=>Q (.s (v.extract l h))⟩ trivial⟩ trivial:=by
 unfold ssv BdQ
 simp only
 cases bnd hi v.size v.size with
 | none=>simp [o1_none]
 | some h =>
  simp only [o1_some]
  cases bnd lo 0 h with
  | none=>simp [o1_none]
  | some l=>simp [o1_some]
theorem o1_slv2 (sz:Nat) (k:K) (sz':Nat) (xs:List D) (lo hi:Option D) (Q:D → Prop):@O1 _ (slv sz (.l k sz' xs) lo hi none) ⟨Q⟩ trivial ↔ sz'=sz ∧ @BdQ hi xs.length xs.length ⟨fun h=>@BdQ lo 0 h ⟨fun l=>Q (.l (slk k hi.isNone lo.isNone) sz ((xs.take h).drop l))⟩ trivial⟩ trivial:=by
 unfold slv BdQ
 simp only [o1_if]
 cases bnd hi xs.length xs.length with
 | none=>simp [o1_none]
 | some h =>
  simp only [o1_some]
  cases bnd lo 0 h with
  | none=>simp [o1_none]
  | some l=>simp [o1_some]
theorem o1_slv3 (sz:Nat) (k:K) (sz':Nat) (xs:List D) (lo:Option D) (h m:D) (Q:D → Prop):@O1 _ (slv sz (.l k sz' xs) lo (some h) (some m)) ⟨Q⟩ trivial ↔ sz'=sz ∧ @BdQ (some m) 0 xs.length ⟨fun m=>@BdQ (some h) 0 m ⟨fun h=>h=m ∧ @BdQ lo 0 h ⟨fun l=>k ≠ .x ∧ Q (.l .n sz ((xs.take h).drop l))⟩ trivial⟩ trivial⟩ trivial:=by
 unfold slv BdQ
 simp only [o1_if]
 cases bnd (some m) 0 xs.length with
 | none=>simp [o1_none]
 | some m =>
  simp only [o1_some]
  cases bnd (some h) 0 m with
  | none=>simp [o1_none]
  | some h =>
   simp only [o1_some,o1_if]
   cases bnd lo 0 h with
   | none=>simp [o1_none]
   | some l=>cases k <;> simp [o1_some,o1_none]
theorem w_ixs (x y:X):@W1 (evO OO m (.ixs x y) s d) ⟨Q⟩ trivial ↔ @O1 _ (rxv x s) ⟨fun p=>@O1 _ (rxv y p.2) ⟨fun q=>match p.1,q.1 with | .s v,.i _ n=>0 ≤ n ∧ @O1 _ v.data.toList[n.toNat]? ⟨fun c=>Q (.v (.i .u8 c.toNat)) q.2 .no⟩ trivial | _,_=>False⟩ trivial⟩ trivial:=by
 simp only [evO]
 cases rxv x s with
 | none=>simp [w1_none,o1_none]
 | some p =>
  obtain ⟨a,s1⟩:=p
  simp only [o1_some]
  cases h2:rxv y s1 with
  | none=>cases a <;> simp [w1_none,o1_none,h2]
  | some q =>
   obtain ⟨b,s2⟩:=q
   simp only [o1_some]
   cases a <;> simp only [h2,w1_none]
   cases b <;> simp only [w1_none]
   rename_i v k n
   by_cases hn:0 ≤ n
   ·rw [if_pos hn]
    cases v.data.toList[n.toNat]? with
    | none=>simp [w1_none,o1_none]
    | some c=>simp [w1_some,o1_some,hn]
   ·rw [if_neg hn]; simp [w1_none,hn]
theorem w_ixa (agg:Bool) (sz len:Nat) (x y:X):@W1 (evO OO m (.ixa agg sz len x y) s d) ⟨Q⟩ trivial ↔ @O1 _ (rxv x s) ⟨fun p=>@O1 _ (rxv y p.2) ⟨fun q=>match p.1,q.1 with | .a cs,.i _ n=>(0 ≤ n ∧ n < len) ∧ @O1 _ (sub cs (n.toNat * sz) sz) ⟨fun ds=>@O1 _ (ofc agg ds) ⟨fun r=>Q (.v r) q.2 .no⟩ trivial⟩ trivial | _,_=>False⟩ trivial⟩ trivial:=by
 simp only [evO]
 cases rxv x s with
 | none=>simp [w1_none,o1_none]
 | some p =>
  obtain ⟨a,s1⟩:=p
  simp only [o1_some]
  cases h2:rxv y s1 with
  | none=>cases a <;> simp [w1_none,o1_none,h2]
  | some q =>
   obtain ⟨b,s2⟩:=q
   simp only [o1_some]
   cases a <;> simp only [h2,w1_none]
   cases b <;> simp only [w1_none]
   rename_i cs k n
   by_cases hn:0 ≤ n ∧ n < len
   ·rw [if_pos hn]
    cases sub cs (n.toNat * sz) sz with
    | none=>simp [w1_none,o1_none]
    | some c=>simp only [o1_some,w1_map,hn,true_and]
   ·rw [if_neg hn]; simp only [w1_none,hn,false_and]
theorem w_app (sz bytes:Nat) (x y:X):@W1 (evO OO m (.app sz bytes x y) s d) ⟨Q⟩ trivial ↔ @O1 _ (rxv x s) ⟨fun p=>@O1 _ (rx y p.2) ⟨fun q=>@O1 _ (elems q.2 q.1) ⟨fun e=>e.1=sz ∧ @O1 _ (appv sz bytes p.1 e.2) ⟨fun r=>Q (.v r) q.2 q.1.acE⟩ trivial⟩ trivial⟩ trivial⟩ trivial:=by
 simp only [evO]
 cases rxv x s with
 | none=>simp [w1_none,o1_none]
 | some p =>
  obtain ⟨a,s1⟩:=p
  simp only [o1_some]
  cases h2:rx y s1 with
  | none=>simp [w1_none,o1_none,h2]
  | some q =>
   obtain ⟨b,s2⟩:=q
   simp only [o1_some,h2]
   cases elems s2 b with
   | none=>simp [w1_none,o1_none]
   | some e =>
    obtain ⟨sz',ys⟩:=e
    simp only [o1_some]
    by_cases hz:sz'=sz
    ·rw [if_pos hz]; simp only [hz,true_and]; rw [w1_map]
    ·rw [if_neg hz]; simp [w1_none,hz]
theorem w_apps (x y:X):@W1 (evO OO m (.apps x y) s d) ⟨Q⟩ trivial ↔ @O1 _ (rxv x s) ⟨fun p=>@O1 _ (rxv y p.2) ⟨fun q=>match q.1 with | .s v=>@O1 _ (appv 1 1 p.1 (ofBy v)) ⟨fun r=>Q (.v r) q.2 .no⟩ trivial | _=>False⟩ trivial⟩ trivial:=by
 simp only [evO]
 cases rxv x s with
 | none=>simp [w1_none,o1_none]
 | some p =>
  obtain ⟨a,s1⟩:=p
  simp only [o1_some]
  cases h2:rxv y s1 with
  | none=>simp [w1_none,o1_none,h2]
  | some q =>
   obtain ⟨b,s2⟩:=q
   simp only [o1_some,h2]
   cases b <;> first | rw [w1_none] | skip
   simp only
   rw [w1_map]
theorem o1_app_x (sz bytes sz':Nat) (xs ys:List D) (Q:D → Prop):@O1 _ (appv sz bytes (.l .x sz' xs) ys) ⟨Q⟩ trivial ↔ (sz'=sz ∧ (xs.length + ys.length) * bytes ≤ 140737488355328) ∧ Q (.l .x sz (xs ++ ys)):=by
 unfold appv; simp only [o1_if,o1_some]
theorem o1_app_o (sz bytes sz':Nat) (xs ys:List D) (Q:D → Prop):@O1 _ (appv sz bytes (.l .o sz' xs) ys) ⟨Q⟩ trivial ↔ (sz'=sz ∧ (xs.length + ys.length) * bytes ≤ 140737488355328) ∧ Q (.l .o sz (xs ++ D.fzs ys)):=by
 unfold appv; simp only [o1_if,o1_some]
theorem o1_app_n (sz bytes sz':Nat) (xs ys:List D) (Q:D → Prop):@O1 _ (appv sz bytes (.l .n sz' xs) ys) ⟨Q⟩ trivial ↔ (sz'=sz ∧ (xs.length + ys.length) * bytes ≤ 140737488355328) ∧ Q (if ys.length=0 then .l .n sz xs else .l .x sz (xs ++ ys)):=by
 unfold appv; simp only [o1_if]; by_cases h:ys.length=0 <;> simp [h,o1_some]
theorem w_ms (sz bytes:Nat) (z:D) (x y:X):@W1 (evO OO m (.ms sz bytes z x y) s d) ⟨Q⟩ trivial ↔ @O1 _ (rxv x s) ⟨fun p=>@O1 _ (rxv y p.2) ⟨fun q=>match p.1,q.1 with | .i .i64 n,.i .i64 c=>(0 ≤ n ∧ n ≤ c ∧ c ≤ 9223372036854775807 ∧ c.toNat * bytes ≤ 140737488355328) ∧ Q (.v (.l .x sz (List.replicate n.toNat z))) q.2 .no | _,_=>False⟩ trivial⟩ trivial:=by
 simp only [evO]
 cases rxv x s with
 | none=>simp [w1_none,o1_none]
 | some p =>
  obtain ⟨a,s1⟩:=p
  simp only [o1_some]
  cases h2:rxv y s1 with
  | none=>cases a <;> simp [w1_none,o1_none,h2]; rename_i k _; cases k <;> simp [w1_none,h2]
  | some q =>
   obtain ⟨b,s2⟩:=q
   simp only [o1_some]
   cases a <;> (try simp only [h2,w1_none])
   rename_i k n
   cases k <;> (try simp only [h2,w1_none])
   cases b <;> (try simp only [w1_none])
   rename_i k c
   cases k <;> (try simp only [w1_none])
   split
   ·rename_i h; simp [w1_some,h]
   ·rename_i h; rw [w1_none]; simp only [h,false_and]
theorem w_call (f:FuncId) (xs:List X):@W1 (evO OO m (.call f xs) s d) ⟨Q⟩ trivial ↔ @O1 _ (rxs xs s) ⟨fun p=>@O1 _ (OO.call f p.1 p.2.sg p.2.sg.length) ⟨fun r=>Q (.v r.1) { p.2 with sg:=r.2.1,lo:=min p.2.lo r.2.2,fr:=forget AM.Q.gl p.2.fr } (.cl (D.beqs (r.2.1.map .t) (p.2.sg.map .t) && decide (p.2.lo ≤ r.2.2)))⟩ trivial⟩ trivial:=by
 simp only [evO]
 cases rxs xs s with
 | none=>simp [w1_none,o1_none]
 | some p =>
  obtain ⟨ds,s1⟩:=p
  simp only [o1_some]
  rw [w1_map]
theorem w_callv (x : X) (xs : List X) : @W1 (evO OO m (.callv x xs) s d) ⟨Q⟩ trivial ↔ @O1 _ (rxv x s) ⟨fun q => match q.1 with
    | .fn f cs=>@O1 _ (rxs xs q.2) ⟨fun p=>@O1 _ (OO.call f (p.1 ++ cs) p.2.sg p.2.sg.length) ⟨fun r=>Q (.v r.1) { p.2 with sg:=r.2.1,lo:=min p.2.lo r.2.2,fr:=forget AM.Q.gl p.2.fr } (.cl (D.beqs (r.2.1.map .t) (p.2.sg.map .t) && decide (p.2.lo ≤ r.2.2)))⟩ trivial⟩ trivial
    | _=>False⟩ trivial:=by
 simp only [evO]
 cases rxv x s with
 | none=>simp [w1_none,o1_none]
 | some q =>
  obtain ⟨a,s1⟩:=q
  simp only [o1_some]
  cases a <;> simp only [w1_none]
  rename_i f cs
  cases rxs xs s1 with
  | none=>simp [w1_none,o1_none]
  | some p =>
   obtain ⟨ds,s1⟩:=p
   simp only [o1_some]
   rw [w1_map]
theorem w_ex (tk : Bool) (n k : Nat) : @W1 (evO OO m (.ex tk n k) s d) ⟨Q⟩ trivial ↔ (match look k s.fr with
    | some (.v (.t ds))=>@O1 _ ds[n]? ⟨fun e=>if tk=true then Q (.v e) { s with fr:=(k,.v (.t (ds.set n .w))) :: s.fr } .no else @O1 _ e.cp ⟨fun e=>Q (.v e) s .no⟩ trivial⟩ trivial
    | _=>False):=by
 simp only [evO]
 cases look k s.fr with
 | none=>simp [w1_none]
 | some r =>
  cases r with
  | q x=>simp [w1_none]
  | v a =>
   cases a <;> simp only [w1_none]
   rename_i ds
   cases ds[n]? with
   | none=>simp [w1_none,o1_none]
   | some e =>
    simp only [o1_some]
    cases tk
    ·simp only [Bool.false_eq_true,if_false]; rw [w1_map]
    ·simp only [if_true,w1_some]
theorem w_len (str:Bool) (x:X):@W1 (evO OO m (.len str x) s d) ⟨Q⟩ trivial ↔ @O1 _ (rx x s) ⟨fun p=>@O1 _ (lenv p.2 str p.1) ⟨fun r=>Q (.v (.i .i64 r.1)) p.2 r.2⟩ trivial⟩ trivial:=by
 simp only [evO]
 cases rx x s with
 | none=>simp [w1_none,o1_none]
 | some p=>obtain ⟨a,s1⟩:=p; simp only [o1_some]; rw [w1_map]
theorem w_mx (big:Bool) (xs:List X):@W1 (evO OO m (.mx big xs) s d) ⟨Q⟩ trivial ↔ @O1 _ (rxs xs s) ⟨fun p=>match p.1 with | .i k m :: ds=>@O1 _ (mxv big m ds k) ⟨fun r=>Q (.v r) p.2 .no⟩ trivial | _=>False⟩ trivial:=by
 simp only [evO]
 cases rxs xs s with
 | none=>simp [w1_none,o1_none]
 | some p =>
  obtain ⟨ds,s1⟩:=p
  simp only [o1_some]
  cases ds with
  | nil=>simp [w1_none]
  | cons d0 ds=>cases d0 <;> simp only [w1_none]; rw [w1_map]
theorem w_ld (agg:Bool) (n:Nat) (md:M) (x:X):@W1 (evO OO m (.ld agg n md x) s d) ⟨Q⟩ trivial ↔ @O1 _ (rx x s) ⟨fun p=>@O1 _ (ldp p.2 agg n md p.1) ⟨fun r=>Q r.1 r.2.1 r.2.2⟩ trivial⟩ trivial:=by
 simp only [evO]
 cases rx x s with
 | none=>simp [w1_none,o1_none]
 | some p=>obtain ⟨a,s1⟩:=p; simp only [o1_some]; rw [w1_o1]
theorem w_lda (n:Nat) (x:X):@W1 (evO OO m (.lda n x) s d) ⟨Q⟩ trivial ↔ @O1 _ (rx x s) ⟨fun p=>@O1 _ (ldp p.2 false n (auM p.2 p.1) p.1) ⟨fun r=>Q r.1 r.2.1 r.2.2⟩ trivial⟩ trivial:=by
 simp only [evO]
 cases rx x s with
 | none=>simp [w1_none,o1_none]
 | some p=>obtain ⟨a,s1⟩:=p; simp only [o1_some]; rw [w1_o1]
theorem w_st (n:Nat) (x y:X):@W1 (evO OO m (.st n x y) s d) ⟨Q⟩ trivial ↔ @O1 _ (rx x s) ⟨fun p=>@O1 _ (rxv y p.2) ⟨fun q=>stb q.1=true ∧ @O1 _ (stp q.2 n p.1 q.1) ⟨fun r=>Q (.v .u) r.1 r.2⟩ trivial⟩ trivial⟩ trivial:=by
 simp only [evO]
 cases rx x s with
 | none=>simp [w1_none,o1_none]
 | some p =>
  obtain ⟨a,s1⟩:=p
  simp only [o1_some]
  cases h2:rxv y s1 with
  | none=>simp [w1_none,o1_none,h2]
  | some q =>
   obtain ⟨b,s2⟩:=q
   simp only [o1_some,h2]
   by_cases hb:stb b=true
   ·rw [if_pos hb,w1_map]; simp [hb]
   ·rw [if_neg hb]; simp [w1_none,hb]
theorem w_pick (c a b:X):@W1 (evO OO m (.pick c a b) s d) ⟨Q⟩ trivial ↔ @O1 _ (rxv c s) ⟨fun p=>match p.1 with | .b t=>if t=true then @O1 _ (rxv a p.2) ⟨fun q=>Q (.v q.1) q.2 .no⟩ trivial else @O1 _ (rxv b p.2) ⟨fun q=>Q (.v q.1) q.2 .no⟩ trivial | _=>False⟩ trivial:=by
 simp only [evO]
 cases rxv c s with
 | none=>simp [w1_none,o1_none]
 | some p =>
  obtain ⟨x,s1⟩:=p
  simp only [o1_some]
  cases x <;> simp only [w1_none]
  rename_i t
  cases t
  ·simp only [Bool.false_eq_true,if_false]; rw [w1_map]
  ·simp only [if_true]; rw [w1_map]
end
end Go.AM

namespace Go.AM
def BQ (t:Bool) [A:Pr] [B:Pr] (_:True):Prop:=if t=true then A.p else B.p
theorem bq_i {t:Bool} {A B:Pr} (h:t=true → A.p) (k:t=false → B.p):@BQ t A B trivial:=by
 cases t
 ·exact k rfl
 ·exact h rfl
theorem bq_true (A B):@BQ true ⟨A⟩ ⟨B⟩ trivial ↔ A:=by simp [BQ]
theorem bq_false (A B):@BQ false ⟨A⟩ ⟨B⟩ trivial ↔ B:=by simp [BQ]
theorem cd_t (t A B):@CdQ (some (.v (.b t))) ⟨A⟩ ⟨B⟩ trivial ↔ @BQ t ⟨A⟩ ⟨B⟩ trivial:=Iff.rfl
theorem cd_u (A B):@CdQ (some (.v .u)) ⟨A⟩ ⟨B⟩ trivial ↔ False:=Iff.rfl
theorem gd_t (t A B):@GdQ (some (.v (.b t))) true ⟨A⟩ ⟨B⟩ trivial ↔ @BQ t ⟨A⟩ ⟨B⟩ trivial:=Iff.rfl
theorem gd_f (t A B):@GdQ (some (.v (.b t))) false ⟨A⟩ ⟨B⟩ trivial ↔ @BQ t ⟨B⟩ ⟨A⟩ trivial:=by cases t <;> simp [GdQ,BQ]
section
variable (OO:Or) (m:TypeId → String → Option FuncId) (s:St) (d:Option Nat) (Q:R → St → Ac → Prop)
theorem w_al (z:List D) (k:Nat):@W1 (evO OO m (.al z) s (some k)) ⟨Q⟩ trivial ↔ Q (.q (.ptr k 0)) { s with ob:=(k,z) :: s.ob,fr:=forget (AM.Q.ofk k) s.fr } (.wk k):=by simp only [evO]; rw [w1_some]
theorem w_ag (z:List D):@W1 (evO OO m (.ag z) s d) ⟨Q⟩ trivial ↔ Q (.v (.p s.sg.length 0)) { s with sg:=s.sg ++ [z] } .ag:=by simp only [evO]; rw [w1_some]
theorem w_bx (x:X) (k:Nat):@W1 (evO OO m (.bx x) s (some k)) ⟨Q⟩ trivial ↔ @O1 _ (rxv x s) ⟨fun p=>stb p.1=true ∧ Q (.q (.ptr k 0)) { p.2 with ob:=(k,p.1.cells) :: p.2.ob,fr:=forget (AM.Q.ofk k) p.2.fr } (.wk k)⟩ trivial:=by
 simp only [evO]
 cases rxv x s with
 | none=>simp [w1_none,o1_none]
 | some p =>
  obtain ⟨a,s1⟩:=p
  simp only [o1_some]
  by_cases h:stb a=true
  ·rw [if_pos h,w1_some]; simp [h]
  ·rw [if_neg h,w1_none]; simp [h]
theorem w_bg (x:X):@W1 (evO OO m (.bg x) s d) ⟨Q⟩ trivial ↔ @O1 _ (rxv x s) ⟨fun p=>stb p.1=true ∧ Q (.v (.p p.2.sg.length 0)) { p.2 with sg:=p.2.sg ++ [p.1.cells] } .ag⟩ trivial:=by
 simp only [evO]
 cases rxv x s with
 | none=>simp [w1_none,o1_none]
 | some p =>
  obtain ⟨a,s1⟩:=p
  simp only [o1_some]
  by_cases h:stb a=true
  ·rw [if_pos h,w1_some]; simp [h]
  ·rw [if_neg h,w1_none]; simp [h]
theorem w_bd (z:List D) (ps:List (Nat × Nat × X)):@W1 (evO OO m (.bd z ps) s d) ⟨Q⟩ trivial ↔ @O1 _ (rxs (ps.map (·.2.2)) s) ⟨fun p=>stbs p.1=true ∧ @O1 _ (fillc z ((ps.zip p.1).map fun (a,d)=>(a.1,a.2.1,d))) ⟨fun cs=>Q (.v (.a cs)) p.2 .no⟩ trivial⟩ trivial:=by
 simp only [evO]
 cases rxs (ps.map (·.2.2)) s with
 | none=>simp [w1_none,o1_none]
 | some p =>
  obtain ⟨a,s1⟩:=p
  simp only [o1_some]
  by_cases h:stbs a=true
  ·rw [if_pos h,w1_map]; simp [h]
  ·rw [if_neg h,w1_none]; simp [h]
theorem w_bs (sz n:Nat) (z:D) (ps:List (Nat × X)):@W1 (evO OO m (.bs sz n z ps) s d) ⟨Q⟩ trivial ↔ @O1 _ (rxs (ps.map (·.2)) s) ⟨fun p=>stbs p.1=true ∧ @O1 _ (fille (List.replicate n z) sz ((ps.zip p.1).map fun (a,d)=>(a.1,d))) ⟨fun xs=>Q (.v (.l .x sz xs)) p.2 .no⟩ trivial⟩ trivial:=by
 simp only [evO]
 cases rxs (ps.map (·.2)) s with
 | none=>simp [w1_none,o1_none]
 | some p =>
  obtain ⟨a,s1⟩:=p
  simp only [o1_some]
  by_cases h:stbs a=true
  ·rw [if_pos h,w1_map]; simp [h]
  ·rw [if_neg h,w1_none]; simp [h]
theorem w_nc (x : X) : @W1 (evO OO m (.nc x) s d) ⟨Q⟩ trivial ↔ @O1 _ (rx x s) ⟨fun p => match p.1 with
    | .v (.p g o)=>Q (.v (.p g o)) p.2 .no
    | .v (.q cs o)=>Q (.v (.q cs o)) p.2 .no
    | .v (.ic t d)=>Q (.v (.ic t d)) p.2 .no
    | .v (.bm nm d)=>bmOK m nm d=true ∧ Q (.v (.bm nm d)) p.2 .no
    | .q (.ptr k o)=>Q (.q (.ptr k o)) p.2 (.rl k 0 0)
    | .q (.el pl i o)=>Q (.q (.el pl i o)) p.2 (AM.Q.ac (.el pl i o))
    | _=>False⟩ trivial:=by
 simp only [evO]
 cases rx x s with
 | none=>simp [w1_none,o1_none]
 | some p =>
  obtain ⟨a,s1⟩:=p
  simp only [o1_some]
  cases a with
  | v a=>cases a <;> simp only [w1_none,w1_some] <;> (rename_i nm a; cases hb:bmOK m nm a <;> simp [w1_none,w1_some])
  | q a=>cases a <;> simp only [w1_none,w1_some,AM.Q.ac]
theorem w_fa (off:Nat) (x:X):@W1 (evO OO m (.fa off x) s d) ⟨Q⟩ trivial ↔ @O1 _ (rx x s) ⟨fun p=>@O1 _ (fav off p.1) ⟨fun r=>Q r p.2 r.ac⟩ trivial⟩ trivial:=by
 simp only [evO]
 cases rx x s with
 | none=>simp [w1_none,o1_none]
 | some p=>obtain ⟨a,s1⟩:=p; simp only [o1_some]; rw [w1_map]
theorem w_fd (agg:Bool) (off n:Nat) (x:X):@W1 (evO OO m (.fd agg off n x) s d) ⟨Q⟩ trivial ↔ @O1 _ (rxv x s) ⟨fun p=>match p.1 with | .a cs=>@O1 _ (sub cs off n) ⟨fun ds=>@O1 _ (ofc agg ds) ⟨fun r=>Q (.v r) p.2 .no⟩ trivial⟩ trivial | _=>False⟩ trivial:=by
 simp only [evO]
 cases rxv x s with
 | none=>simp [w1_none,o1_none]
 | some p =>
  obtain ⟨a,s1⟩:=p
  simp only [o1_some]
  cases a <;> simp only [w1_none]
  rename_i cs
  cases sub cs off n with
  | none=>simp [w1_none,o1_none]
  | some ds=>simp only [o1_some]; rw [w1_map]
theorem w_mi (t:TypeId) (x:X):@W1 (evO OO m (.mi t x) s d) ⟨Q⟩ trivial ↔ @O1 _ (rxv x s) ⟨fun p=>@O1 _ p.1.cp ⟨fun r=>Q (.v (.ic t r)) p.2 .no⟩ trivial⟩ trivial:=by
 simp only [evO]
 cases rxv x s with
 | none=>simp [w1_none,o1_none]
 | some p=>obtain ⟨a,s1⟩:=p; simp only [o1_some]; rw [w1_map]
theorem w_mm (nm:String) (x:X):@W1 (evO OO m (.mm nm x) s d) ⟨Q⟩ trivial ↔ @O1 _ (rxv x s) ⟨fun p=>@O1 _ p.1.cp ⟨fun r=>Q (.v (.bm nm r)) p.2 .no⟩ trivial⟩ trivial:=by
 simp only [evO]
 cases rxv x s with
 | none=>simp [w1_none,o1_none]
 | some p=>obtain ⟨a,s1⟩:=p; simp only [o1_some]; rw [w1_map]
theorem w_mf (f:FuncId) (xs:List X):@W1 (evO OO m (.mf f xs) s d) ⟨Q⟩ trivial ↔ @O1 _ (rxs xs s) ⟨fun p=>@O1 _ (D.cps p.1) ⟨fun r=>Q (.v (.fn f r)) p.2 .no⟩ trivial⟩ trivial:=by
 simp only [evO]
 cases rxs xs s with
 | none=>simp [w1_none,o1_none]
 | some p=>obtain ⟨a,s1⟩:=p; simp only [o1_some]; rw [w1_map]
theorem w_callp (f:FuncId) (xs:List X):@W1 (evO OO m (.callp f xs) s d) ⟨Q⟩ trivial ↔ @O1 _ (rxs xs s) ⟨fun p=>@O1 _ (callpv OO f p.1) ⟨fun r=>Q (.v r) p.2 .no⟩ trivial⟩ trivial:=by
 simp only [evO]
 cases rxs xs s with
 | none=>simp [w1_none,o1_none]
 | some p=>obtain ⟨a,s1⟩:=p; simp only [o1_some]; rw [w1_map]
theorem w_callr (f : FuncId) (xs : List X) (x : X) : @W1 (evO OO m (.callr f xs x) s d) ⟨Q⟩ trivial ↔ @O1 _ (rxv x s) ⟨fun q => match q.1 with
    | .p r _=>@O1 _ (rxs xs q.2) ⟨fun p=>@O1 _ (callrv OO f p.1 r p.2.sg) ⟨fun v=>Q (.v v) { p.2 with fr:=forget (AM.Q.glx r) p.2.fr } (.clx r)⟩ trivial⟩ trivial
    | _=>False⟩ trivial:=by
 simp only [evO]
 cases rxv x s with
 | none=>simp [w1_none,o1_none]
 | some q =>
  obtain ⟨a,s1⟩:=q
  simp only [o1_some]
  cases a <;> simp only [w1_none]
  cases rxs xs s1 with
  | none=>simp [w1_none,o1_none]
  | some p=>obtain ⟨a,s1⟩:=p; simp only [o1_some]; rw [w1_map]
theorem w_eqa (neg:Bool) (cs:List Ec) (x y:X):@W1 (evO OO m (.eqa neg cs x y) s d) ⟨Q⟩ trivial ↔ @O1 _ (rxv x s) ⟨fun p=>@O1 _ (rxv y p.2) ⟨fun q=>match p.1,q.1 with | .a ds,.a es=>@O1 _ (eqs cs ds es) ⟨fun t=>Q (.v (.b (if neg then !t else t))) q.2 .no⟩ trivial | _,_=>False⟩ trivial⟩ trivial:=by
 simp only [evO]
 cases rxv x s with
 | none=>simp [w1_none,o1_none]
 | some p =>
  obtain ⟨a,s1⟩:=p
  simp only [o1_some]
  cases h2:rxv y s1 with
  | none=>cases a <;> simp [w1_none,o1_none,h2]
  | some q =>
   obtain ⟨b,s2⟩:=q
   simp only [o1_some]
   cases a <;> simp only [h2,w1_none]
   cases b <;> simp only [w1_none]
   rw [w1_map]
theorem w_bits (x:X):@W1 (evO OO m (.bits x) s d) ⟨Q⟩ trivial ↔ @O1 _ (rxv x s) ⟨fun p=>match p.1 with | .f .f64 n=>Q (.v (.i .u64 n)) p.2 .no | _=>False⟩ trivial:=by
 simp only [evO]
 cases rxv x s with
 | none=>simp [w1_none,o1_none]
 | some p =>
  obtain ⟨a,s1⟩:=p
  simp only [o1_some]
  cases a <;> (try simp only [w1_none])
  rename_i k n; cases k <;> simp only [w1_none,w1_some]
theorem w_frbits (x:X):@W1 (evO OO m (.frbits x) s d) ⟨Q⟩ trivial ↔ @O1 _ (rxv x s) ⟨fun p=>match p.1 with | .i .u64 n=>0 ≤ n ∧ Q (.v (.f .f64 n.toNat)) p.2 .no | _=>False⟩ trivial:=by
 simp only [evO]
 cases rxv x s with
 | none=>simp [w1_none,o1_none]
 | some p =>
  obtain ⟨a,s1⟩:=p
  simp only [o1_some]
  cases a <;> (try simp only [w1_none])
  rename_i k n; cases k <;> (try simp only [w1_none])
  by_cases h:0 ≤ n
  ·rw [if_pos h,w1_some]; simp [h]
  ·rw [if_neg h,w1_none]; simp [h]
theorem w_ta (t:TypeId) (x:X):@W1 (evO OO m (.ta t x) s d) ⟨Q⟩ trivial ↔ @O1 _ (rxv x s) ⟨fun p=>match p.1 with | .ic t' e=>t=t' ∧ Q (.v e) p.2 .no | _=>False⟩ trivial:=by
 simp only [evO]
 cases rxv x s with
 | none=>simp [w1_none,o1_none]
 | some p =>
  obtain ⟨a,s1⟩:=p
  simp only [o1_some]
  cases a <;> (try simp only [w1_none])
  rename_i t' e
  by_cases h:t=t'
  ·rw [if_pos h,w1_some]; simp [h]
  ·rw [if_neg h,w1_none]; simp [h]
theorem w_mkm:@W1 (evO OO m .mkm s d) ⟨Q⟩ trivial ↔ Q (.v (.mo s.sg.length)) { s with sg:=s.sg ++ [[.u]] } .ag:=by
 simp only [evO]
 rw [w1_some]
theorem w1_mlkv (ok str:Bool) (z:D) (r:Nat) (k:D):@W1 (mlkv ok str z (.mo r) k s) ⟨Q⟩ trivial ↔ ∃ es,s.sg[r]? = some (.u :: es) ∧ @O1 _ (mfind str k es) ⟨fun v=>Q (.v (if ok then .t [v.getD z,.b v.isSome] else v.getD z)) s (.reg r)⟩ trivial:=by
 unfold mlkv
 simp only
 split
 ·rename_i es he
  rw [w1_map]
  constructor
  ·intro h; exact ⟨es,he,h⟩
  ·rintro ⟨es',he',h⟩
   rw [he] at he'; cases he'; exact h
 ·rename_i hn
  rw [w1_none]
  constructor
  ·exact False.elim
  ·rintro ⟨es',he',_⟩; exact hn es' he'
theorem w1_mupv (str:Bool) (r:Nat) (k v:D):@W1 (mupv str (.mo r) k v s) ⟨Q⟩ trivial ↔ @O1 _ k.cp ⟨fun k=>@O1 _ v.cp ⟨fun v=>∃ es,s.sg[r]? = some (.u :: es) ∧ @O1 _ (mset str k v es) ⟨fun es=>Q (.v .u) { s with sg:=s.sg.set r (.u :: es),lo:=if D.nr 0 v then s.lo else min s.lo r } .ag⟩ trivial⟩ trivial⟩ trivial:=by
 unfold mupv
 simp only
 cases hk:k.cp with
 | none=>simp only [o1_none,w1_none]
 | some k' =>
  cases hv:v.cp with
  | none=>simp only [o1_some,o1_none,w1_none]
  | some v' =>
   simp only [o1_some]
   split
   ·rename_i es he
    rw [w1_map]
    constructor
    ·intro h; exact ⟨es,he,h⟩
    ·rintro ⟨es',he',h⟩
     rw [he] at he'; cases he'; exact h
   ·rename_i hn
    rw [w1_none]
    constructor
    ·exact False.elim
    ·rintro ⟨es',he',_⟩; exact hn es' he'
theorem w1_mlnv (r:Nat):@W1 (mlnv (.mo r) s) ⟨Q⟩ trivial ↔ ∃ es,s.sg[r]? = some (.u :: es) ∧ Q (.v (.i .i64 (es.length / 2:Nat))) s (.reg r):=by
 unfold mlnv
 simp only
 split
 ·rename_i es he
  rw [w1_some]
  constructor
  ·intro h; exact ⟨es,he,h⟩
  ·rintro ⟨es',he',h⟩
   rw [he] at he'; cases he'; exact h
 ·rename_i hn
  rw [w1_none]
  constructor
  ·exact False.elim
  ·rintro ⟨es',he',_⟩; exact hn es' he'
theorem w_mlk (ok str:Bool) (z:D) (x y:X):@W1 (evO OO m (.mlk ok str z x y) s d) ⟨Q⟩ trivial ↔ @O1 _ (rxv x s) ⟨fun p=>@O1 _ (rxv y p.2) ⟨fun q=>@W1 (mlkv ok str z p.1 q.1 q.2) ⟨Q⟩ trivial⟩ trivial⟩ trivial:=by
 simp only [evO]
 cases rxv x s with
 | none=>simp [w1_none,o1_none]
 | some p =>
  obtain ⟨a,s1⟩:=p
  simp only [o1_some]
  cases rxv y s1 with
  | none=>simp [w1_none,o1_none]
  | some q=>obtain ⟨k,s2⟩:=q; simp only [o1_some]
theorem w_mup (str:Bool) (x y v:X):@W1 (evO OO m (.mup str x y v) s d) ⟨Q⟩ trivial ↔ @O1 _ (rxv x s) ⟨fun p=>@O1 _ (rxv y p.2) ⟨fun q=>@O1 _ (rxv v q.2) ⟨fun r=>@W1 (mupv str p.1 q.1 r.1 r.2) ⟨Q⟩ trivial⟩ trivial⟩ trivial⟩ trivial:=by
 simp only [evO]
 cases rxv x s with
 | none=>simp [w1_none,o1_none]
 | some p =>
  obtain ⟨a,s1⟩:=p
  simp only [o1_some]
  cases rxv y s1 with
  | none=>simp [w1_none,o1_none]
  | some q =>
   obtain ⟨k,s2⟩:=q
   simp only [o1_some]
   cases rxv v s2 with
   | none=>simp [w1_none,o1_none]
   | some q=>obtain ⟨k,s2⟩:=q; simp only [o1_some]
theorem w_mln (x:X):@W1 (evO OO m (.mln x) s d) ⟨Q⟩ trivial ↔ @O1 _ (rxv x s) ⟨fun p=>@W1 (mlnv p.1 p.2) ⟨Q⟩ trivial⟩ trivial:=by
 simp only [evO]
 cases rxv x s with
 | none=>simp [w1_none,o1_none]
 | some p=>obtain ⟨a,s1⟩:=p; simp only [o1_some]
theorem w_inv (nm : String) (x : X) (xs : List X) : @W1 (evO OO m (.inv nm x xs) s d) ⟨Q⟩ trivial ↔ @O1 _ (rxv x s) ⟨fun q => match q.1 with
    | .ic t v=>@O1 _ (m t nm) ⟨fun f=>@O1 _ (rxs xs q.2) ⟨fun p=>@O1 _ (OO.call f (v :: p.1) p.2.sg p.2.sg.length) ⟨fun r=>Q (.v r.1) { p.2 with sg:=r.2.1,lo:=min p.2.lo r.2.2,fr:=forget AM.Q.gl p.2.fr } (.cl (D.beqs (r.2.1.map .t) (p.2.sg.map .t) && decide (p.2.lo ≤ r.2.2)))⟩ trivial⟩ trivial⟩ trivial
    | _=>False⟩ trivial:=by
 simp only [evO]
 cases rxv x s with
 | none=>simp [w1_none,o1_none]
 | some q =>
  obtain ⟨a,s1⟩:=q
  simp only [o1_some]
  cases a <;> (try simp only [w1_none])
  rename_i t v
  cases m t nm with
  | none=>simp [w1_none,o1_none]
  | some f =>
   simp only [o1_some]
   cases rxs xs s1 with
   | none=>simp [w1_none,o1_none]
   | some p =>
    obtain ⟨ds,s1⟩:=p
    simp only [o1_some]
    rw [w1_map]
end
theorem w_srt (OO:Or) (m:TypeId → String → Option FuncId) (s:St) (d:Option Nat) (Q:R → St → Ac → Prop) (f g:FuncId) (x:X):@W1 (evO OO m (.srt f g x) s d) ⟨Q⟩ trivial ↔ @O1 _ (rx x s) ⟨fun p=>@O1 _ (hpl p.1) ⟨fun q=>@AtQ (p.2.at q.1) ⟨fun a=>@O1 _ (OO.srt f g a.1 a.2) ⟨fun ys=>ys.length=a.2.length ∧ Q (.v (.t [])) { p.2.setAt q.1 (.l .x a.1 ys) with lo:=p.2.loAt (.l .z a.1 ys) q.1 } q.1.we⟩ trivial⟩ trivial⟩ trivial⟩ trivial:=by
 constructor
 ·rintro ⟨r,t,ac,he,hq⟩
  simp only [evO] at he
  split at he
  ·rename_i r1 s1 h1
   split at he
   ·rename_i pl ac2 h2
    split at he
    ·rename_i sz xs h3
     split at he
     ·rename_i ys h4
      split at he
      ·rename_i h5
       cases he
       exact ⟨_,h1,_,h2,sz,xs,h3,ys,h4,h5,hq⟩
      ·cases he
     ·cases he
    ·cases he
   ·cases he
  ·cases he
 ·rintro ⟨⟨r1,s1⟩,h1,⟨pl,ac2⟩,h2,sz,xs,h3,ys,h4,h5,hq⟩
  refine ⟨_,_,_,?_,hq⟩
  simp only at h2 h3 h4 h5 ⊢
  simp only [evO,h1,h2,h3,h4,if_pos h5]
theorem hpl_hdr0 (k:Nat):hpl (.q (.hdr k))=some (.ob k 0,.rb k):=rfl
theorem hpl_hd0 (pl:Pl):hpl (.q (.hd pl))=some (pl,(AM.Q.hd pl).ac):=rfl
theorem w_pickb (OO:Or) (m:TypeId → String → Option FuncId) (s:St) (d:Option Nat) (Q:R → St → Ac → Prop) (c a b:X):@W1 (evO OO m (.pick c a b) s d) ⟨Q⟩ trivial ↔ @O1 _ (rxv c s) ⟨fun p=>match p.1 with | .b t=>@BQ t ⟨@O1 _ (rxv a p.2) ⟨fun q=>Q (.v q.1) q.2 .no⟩ trivial⟩ ⟨@O1 _ (rxv b p.2) ⟨fun q=>Q (.v q.1) q.2 .no⟩ trivial⟩ trivial | _=>False⟩ trivial:=w_pick OO m s d Q c a b
theorem fn_r (res n x s):FnQ res n x (.r s) ↔ @O1 _ (resv res s) ⟨fun p=>(if D.nr n (tup p.1)=true ∧ n ≤ p.2.lo then (tup p.1,p.2.sg.take n,p.2.lo) else (tup p.1,p.2.sg,p.2.lo))=x⟩ trivial:=by
 unfold FnQ fin
 simp only
 cases resv res s with
 | none=>simp [O1]
 | some p =>
  obtain ⟨ds,s1⟩:=p
  simp only [O1,Option.some.injEq,exists_eq_left',Bool.and_eq_true,decide_eq_true_eq]
  split <;> simp
theorem fn_n (res n x s):FnQ res n x (.n s) ↔ @O1 _ (resv res s) ⟨fun p=>(if D.nr n (tup p.1)=true ∧ n ≤ p.2.lo then (tup p.1,p.2.sg.take n,p.2.lo) else (tup p.1,p.2.sg,p.2.lo))=x⟩ trivial:=fn_r res n x s
attribute [simp ↓] wc_skip wc_ret wc_exit wc_seq wc_blk wc_cond wc_reg wc_regd wg_nil wg_cons wo_nil wo_cons wo_guard wd_nil wd_cons wd_guard w_mv w_bin w_eq w_un w_cv w_ia w_sl w_ss w_ixs w_ixa w_app w_apps w_ms w_call w_callp w_callr w_callv w_ex w_len w_mx w_ld w_lda w_st w_pickb w_al w_ag w_bx w_bg w_bd w_bs w_nc w_fa w_fd w_mi w_mm w_mf w_eqa w_bits w_frbits w_ta w_inv w_srt w_mkm w_mlk w_mup w_mln w1_mlkv w1_mupv w1_mlnv
attribute [simp] w1_some w1_none cd_t gd_t gd_f gd_u cd_u bq_true bq_false sq_n sq_x sq_r bk_n bk_x bk_r o1_some o1_none o1_map o1_if_none o1_if o1_ite o1_iav_l bd_none bd_some o1_ssv o1_slv2 o1_slv3 rxo_none rxo_some o1_app_x o1_app_o o1_app_n at_some o1_iav_hd' o1_iav_hdr'
attribute [simp] hpl_hdr0 hpl_hd0 fzR look drp keep forget rx rxv rxs St.put evG D.cp D.cps binv bini unv cvv resv tup fn_r fn_n AM.Q.dead AM.Q.gl AM.Q.glx AM.Q.bor AM.Q.ofk ini mxv R.fo D.fo D.fos R.fz D.fz D.fzs D.zz D.zzs okA Ac.ok R.ac AM.Q.ac R.acE Pl.rb Pl.re Pl.we stb stbs D.cells fillc fille ovr sub ofc fav ldp auM stp St.at St.setAt St.loAt lenv elems slk beqs_self D.nr D.nrs eq1 eqs rec_
theorem wc_ind {α : Type} (st : α → St) (μ : α → Nat) (P : α → Prop) {B : C} {Q : Rs → Prop}
    (h:∀ a,P a → (∀ b,μ b < μ a → P b → @WC (.loop B) (st b) ⟨Q⟩ trivial) → @WC B (st a) ⟨fun r=>@SqQ (.loop B) ⟨Q⟩ r trivial⟩ trivial):∀ a,P a → @WC (.loop B) (st a) ⟨Q⟩ trivial:=by
 have:∀ n a,μ a < n → P a → @WC (.loop B) (st a) ⟨Q⟩ trivial:=by
  intro n
  induction n with
  | zero=>intro a ha; omega
  | succ n ih=>intro a ha hp; exact wc_loop (h a hp (fun b hb hpb=>ih b (by omega) hpb))
 exact fun a hp=>this _ a (Nat.lt_succ_self _) hp
theorem wrap64 {x:Int} (h:-9223372036854775808 ≤ x ∧ x ≤ 9223372036854775807):IntKind.i64.wrap x=x:=by
 simp [IntKind.wrap,IntKind.signed,IntKind.bits]; omega
end Go.AM

namespace Go.AM
theorem wrap_u64 (n:Int):IntKind.u64.wrap n=n % 18446744073709551616:=by simp [IntKind.wrap,IntKind.bits,IntKind.signed]
theorem wrapu64 {n:Int} (h:0 ≤ n ∧ n < 18446744073709551616):IntKind.u64.wrap n=n:=by rw [wrap_u64]; omega
theorem u64k:∀ n:Int,0 ≤ n → n < 2 ^ 64 → IntKind.u64.wrap n=n:=fun n h0 h1=>wrapu64 ⟨h0,by simpa using h1⟩
theorem u64_and (a b:Nat) (ha:a < 18446744073709551616) (hb:b < 18446744073709551616):bits .and .u64 a b=((a &&& b:Nat):Int):=(bits_nat .u64 64 (by decide) u64k a b (by simpa using ha) (by simpa using hb)).1
theorem u64_or (a b:Nat) (ha:a < 18446744073709551616) (hb:b < 18446744073709551616):bits .or .u64 a b=((a ||| b:Nat):Int):=(bits_nat .u64 64 (by decide) u64k a b (by simpa using ha) (by simpa using hb)).2
theorem u64_not (b:Nat) (hb:b < 18446744073709551616):bits .xor .u64 18446744073709551615 b=((18446744073709551615 - b:Nat):Int):=by
 show IntKind.u64.wrap ((BitVec.ofInt 64 18446744073709551615 ^^^ BitVec.ofInt 64 (b:Int):BitVec 64).toNat:Int)=_
 have e:BitVec.ofInt 64 18446744073709551615=BitVec.allOnes 64:=by decide
 have e2:BitVec.ofInt 64 (b:Int)=BitVec.ofNat 64 b:=by simp
 rw [e,e2,BitVec.allOnes_xor,BitVec.toNat_not,BitVec.toNat_ofNat,Nat.mod_eq_of_lt (by simpa using hb),wrapu64]
 ·omega
theorem bit63 (i:Nat):Nat.testBit 9223372036854775808 i=decide (63=i):=by
 have h:Nat.testBit (2 ^ 63) i=decide (63=i):=Nat.testBit_two_pow ..
 simpa using h
theorem and_sign (b:Nat) (hb:b < 18446744073709551616):b &&& 9223372036854775808=if 9223372036854775808 ≤ b then 9223372036854775808 else 0:=by
 apply Nat.eq_of_testBit_eq
 intro i
 rw [Nat.testBit_and,bit63]
 by_cases hi:63=i
 ·subst hi
  rw [Nat.testBit_eq_decide_div_mod_eq]
  split
  ·have:b / 2 ^ 63=1:=by omega
   simp [this,bit63]
  ·have:b / 2 ^ 63=0:=by omega
   simp [this]
 ·split <;> simp [hi,bit63]
theorem or_sign (b:Nat) (hb:b < 9223372036854775808):b ||| 9223372036854775808=b + 9223372036854775808:=by
 have:=Nat.two_pow_add_eq_or_of_lt (i:=63) (b:=b) (by simpa using hb) 1
 rw [Nat.or_comm,Nat.add_comm]
 simpa using this.symm
theorem wc_up {B : C} {Q : Rs → Prop} (n : Nat) (st : Nat → St) (P : Nat → Prop)
    (h:∀ i,i < n → P i → (P (i + 1) → @WC (.loop B) (st (i + 1)) ⟨Q⟩ trivial) → @WC B (st i) ⟨fun r=>@SqQ (.loop B) ⟨Q⟩ r trivial⟩ trivial)
    (he:P n → @WC B (st n) ⟨fun r=>@SqQ (.loop B) ⟨Q⟩ r trivial⟩ trivial):∀ i,i ≤ n → P i → @WC (.loop B) (st i) ⟨Q⟩ trivial:=by
 intro i hi hp
 refine wc_ind st (fun i=>n - i) (fun i=>i ≤ n ∧ P i) ?_ i ⟨hi,hp⟩
 rintro i ⟨h1,h2⟩ ih
 rcases Nat.lt_or_eq_of_le h1 with h3 | h3
 ·exact h i h3 h2 (fun hp=>ih (i + 1) (by omega) ⟨by omega,hp⟩)
 ·subst h3; exact he h2
theorem wc_list {α β : Type} {B : C} {Q : Rs → Prop} (l : List α) (st : Nat → β → St) (P : List α → β → Prop)
    (h:∀ i x r b,l[i]? = some x → i < l.length → P (x :: r) b → (∀ b',P r b' → @WC (.loop B) (st (i + 1) b') ⟨Q⟩ trivial) → @WC B (st i b) ⟨fun r=>@SqQ (.loop B) ⟨Q⟩ r trivial⟩ trivial)
    (he:∀ b,P [] b → @WC B (st l.length b) ⟨fun r=>@SqQ (.loop B) ⟨Q⟩ r trivial⟩ trivial):∀ b,P l b → @WC (.loop B) (st 0 b) ⟨Q⟩ trivial:=by
 intro b hb
 refine wc_ind (fun a:Nat × β => st a.1 a.2) (fun a=>l.length - a.1) (fun a=>a.1 ≤ l.length ∧ P (l.drop a.1) a.2) ?_ (0,b) ⟨by simp,by simpa using hb⟩
 rintro ⟨i,b⟩ ⟨h1,h2⟩ ih
 simp only at h1 h2 ih ⊢
 rcases Nat.lt_or_eq_of_le h1 with h3 | h3
 ·rw [List.drop_eq_getElem_cons h3] at h2
  exact h i l[i] _ b (List.getElem?_eq_getElem h3) h3 h2 (fun b' hb'=>ih (i + 1,b') (by simp; omega) ⟨h3,hb'⟩)
 ·subst h3; rw [List.drop_length] at h2; exact he b h2
theorem mem_of_get {α : Type} {l:List α} {i:Nat} {x:α} (h:l[i]? = some x):x ∈ l:=List.mem_of_getElem? h
theorem order_self (b:Nat) (hb:b < 18446744073709551616):FloatKind.f64.format.order b b=if b % 9223372036854775808 > 9218868437227405312 then none else some .eq:=by
 have hs:FloatKind.f64.format.signWeight=9223372036854775808:=by decide
 have hi:FloatKind.f64.format.infRung=9218868437227405312:=by decide
 unfold Ieee.Format.order Ieee.Format.read
 simp only [hs,hi]
 by_cases h1:b % 9223372036854775808 < FloatKind.f64.format.binade
 ·have:FloatKind.f64.format.binade ≤ 9218868437227405312:=by decide
  simp only [h1,if_true,Ieee.Datum.order]
  rw [if_neg (by omega)]; simp
 ·simp only [h1,if_false]
  by_cases h2:b % 9223372036854775808 < 9218868437227405312
  ·simp only [h2,if_true,Ieee.Datum.order]
   rw [if_neg (by omega)]; simp
  ·simp only [h2,if_false]
   by_cases h3:b % 9223372036854775808=9218868437227405312
   ·simp only [h3,if_true,Ieee.Datum.order]
    simp
   ·simp only [h3,if_false,Ieee.Datum.order]
    rw [if_pos (by omega)]
end Go.AM

namespace Go.AM
def canon (b:Nat):Nat:=if b % 9223372036854775808 > 9218868437227405312 then 9221120237041090560 else b
def keyC (b:Nat):Nat:=if 9223372036854775808 ≤ b then 18446744073709551615 - b else b + 9223372036854775808
def key (b:Nat):Nat:=keyC (canon b)
theorem canon_lt {b:Nat} (h:b < 18446744073709551616):canon b < 18446744073709551616:=by unfold canon; split <;> omega
theorem canon_canon (b:Nat):canon (canon b)=canon b:=by unfold canon; split <;> simp_all
theorem keyC_inj {a b:Nat} (ha:a < 18446744073709551616) (hb:b < 18446744073709551616) (h:keyC a=keyC b):a=b:=by
 unfold keyC at h; split at h <;> split at h <;> omega
def cmpN (a b:Nat):Int:=if a < b then -1 else if a > b then 1 else 0
theorem canon_nan {b:Nat} (h:9218868437227405312 < b % 9223372036854775808):canon b=9221120237041090560:=if_pos h
theorem canon_num {b:Nat} (h:b % 9223372036854775808 ≤ 9218868437227405312):canon b=b:=if_neg (by omega)
theorem c_real_Canon (b:Nat) (hb:b < 18446744073709551616) (sg):LL.call n_real_Canon [.f .f64 b] sg sg.length=some (.f .f64 (canon b),sg,sg.length):=by
 refine wp_call e_real_Canon rfl ?_
 simp [F_real_Canon,binf,order_self b hb]
 refine bq_i (fun h=>?_) (fun h=>?_) <;> simp at h
 ·simp [canon_nan h]
 ·simp [canon_num h]
theorem c_real_Key (b:Nat) (hb:b < 18446744073709551616) (sg):LL.call n_real_Key [.f .f64 b] sg sg.length=some (.i .u64 (key b),sg,sg.length):=by
 refine wp_call e_real_Key rfl ?_
 have hc:=canon_lt hb
 have e1:=u64_and (canon b) 9223372036854775808 hc (by omega)
 have e2:=u64_or (canon b) 9223372036854775808 hc (by omega)
 have e3:=u64_not (canon b) hc
 rw [and_sign _ hc] at e1
 simp at e1 e2
 by_cases h:9223372036854775808 ≤ canon b
 ·rw [if_pos h] at e1
  simp [F_real_Key,c_real_Canon b hb,e1,IntKind.signed,IntKind.max,IntKind.bits,e3,key,keyC,h]
 ·rw [if_neg h] at e1
  rw [or_sign _ (by omega)] at e2
  simp [F_real_Key,c_real_Canon b hb,e1,e2,key,keyC,h]
theorem c_real_Cmp (a b:Nat) (ha:a < 18446744073709551616) (hb:b < 18446744073709551616) (sg):LL.call n_real_Cmp [.f .f64 a,.f .f64 b] sg sg.length=some (.i .i64 (cmpN (key a) (key b)),sg,sg.length):=by
 refine wp_call e_real_Cmp rfl ?_
 simp [F_real_Cmp,c_real_Key a ha,c_real_Key b hb]
 repeat' (refine bq_i (fun h=>?_) (fun h=>?_) <;> (have h':=h) <;> (try simp at h') <;> simp [h,h'])
 all_goals (simp [cmpN, *] <;> omega)
theorem c_law03_F (b:Nat) (sg):LL.call n_c_law03_F [.i .u64 b] sg sg.length=some (.f .f64 b,sg,sg.length):=by
 refine wp_call e_c_law03_F rfl ?_
 simp [F_c_law03_F]
end Go.AM

namespace Go.AM
class Flat {α : Type} (e:α → D):Prop where
 fz:∀ x,D.fz (e x)=e x
 zz:∀ x,D.zz (e x)=e x
 nr:∀ n x,D.nr n (e x)=true
theorem fzs_flat {α : Type} (e:α → D) [h:Flat e] : ∀ l:List α,D.fzs (l.map e)=l.map e
 | [] => rfl
 | x :: l=>by simp only [List.map_cons,D.fzs,h.fz,fzs_flat e l]
theorem zzs_flat {α : Type} (e:α → D) [h:Flat e] : ∀ l:List α,D.zzs (l.map e)=l.map e
 | [] => rfl
 | x :: l=>by simp only [List.map_cons,D.zzs,h.zz,zzs_flat e l]
theorem nrs_flat {α : Type} (e:α → D) [h:Flat e] (n:Nat):∀ l:List α,D.nrs n (l.map e)=true
 | [] => rfl
 | x :: l=>by simp only [List.map_cons,D.nrs,h.nr,nrs_flat e n l,Bool.and_self]
attribute [simp] fzs_flat zzs_flat nrs_flat
theorem fzs_app:∀ xs ys:List D,D.fzs (xs ++ ys)=D.fzs xs ++ D.fzs ys
 | [],ys=>rfl
 | x :: xs,ys=>by simp [D.fzs,fzs_app xs ys]
theorem zzs_app:∀ xs ys:List D,D.zzs (xs ++ ys)=D.zzs xs ++ D.zzs ys
 | [],ys=>rfl
 | x :: xs,ys=>by simp [D.zzs,zzs_app xs ys]
theorem nrs_app (n:Nat):∀ xs ys:List D,D.nrs n (xs ++ ys)=(D.nrs n xs && D.nrs n ys)
 | [],ys=>by simp [D.nrs]
 | x :: xs,ys=>by simp [D.nrs,nrs_app n xs ys,Bool.and_assoc]
theorem fzs_take:∀ (n:Nat) (xs:List D),D.fzs (xs.take n)=(D.fzs xs).take n
 | 0,_=>rfl
 | n + 1,[] => rfl
 | n + 1,x :: xs=>by simp [D.fzs,fzs_take n xs]
theorem fzs_drop:∀ (n:Nat) (xs:List D),D.fzs (xs.drop n)=(D.fzs xs).drop n
 | 0,_=>rfl
 | n + 1,[] => rfl
 | n + 1,x :: xs=>by simp [D.fzs,fzs_drop n xs]
theorem zzs_take:∀ (n:Nat) (xs:List D),D.zzs (xs.take n)=(D.zzs xs).take n
 | 0,_=>rfl
 | n + 1,[] => rfl
 | n + 1,x :: xs=>by simp [D.zzs,zzs_take n xs]
theorem zzs_drop:∀ (n:Nat) (xs:List D),D.zzs (xs.drop n)=(D.zzs xs).drop n
 | 0,_=>rfl
 | n + 1,[] => rfl
 | n + 1,x :: xs=>by simp [D.zzs,zzs_drop n xs]
theorem fzs_set:∀ (n:Nat) (d:D) (xs:List D),D.fzs (xs.set n d)=(D.fzs xs).set n d.fz
 | 0,d,[] => rfl
 | 0,d,x :: xs=>rfl
 | n + 1,d,[] => rfl
 | n + 1,d,x :: xs=>by simp [D.fzs,fzs_set n d xs]
theorem zzs_set:∀ (n:Nat) (d:D) (xs:List D),D.zzs (xs.set n d)=(D.zzs xs).set n d.zz
 | 0,d,[] => rfl
 | 0,d,x :: xs=>rfl
 | n + 1,d,[] => rfl
 | n + 1,d,x :: xs=>by simp [D.zzs,zzs_set n d xs]
attribute [simp] fzs_set zzs_set
attribute [simp] fzs_app zzs_app nrs_app fzs_take fzs_drop zzs_take zzs_drop
instance (k:IntKind):Flat (D.i k):=⟨fun _=>rfl,fun _=>rfl,fun _ _=>rfl⟩
instance:Flat D.s:=⟨fun _=>rfl,fun _=>rfl,fun _ _=>rfl⟩
instance:Flat D.b:=⟨fun _=>rfl,fun _=>rfl,fun _ _=>rfl⟩
def eL {α : Type} (sz:Nat) (e:α → D) (l:List α):D:=.l .z sz (l.map e)
instance {α : Type} (sz:Nat) (e:α → D) [h:Flat e] : Flat (eL sz e):=⟨fun _=>rfl,fun l=>by simp [eL],fun n l=>by simp [eL]⟩
structure It where
 p:Nat
 v:Int
 deriving DecidableEq,Inhabited
def It.ok (x:It):Prop:=x.p < 18446744073709551616 ∧ -9223372036854775808 ≤ x.v ∧ x.v ≤ 9223372036854775807
def It.canon (x:It):It:=⟨AM.canon x.p,x.v⟩
def eI (x:It):D:=.a [.f .f64 x.p,.i .i64 x.v]
def eR (x:It):D:=.a [.i .u64 x.p,.i .i64 x.v]
instance:Flat eI:=⟨fun _=>rfl,fun _=>rfl,fun _ _=>rfl⟩
instance:Flat eR:=⟨fun _=>rfl,fun _=>rfl,fun _ _=>rfl⟩
attribute [simp] eI eR
def cmpV (a b:Int):Int:=if a < b then -1 else if a > b then 1 else 0
def cmpI (x y:It):Int:=if cmpN (key x.p) (key y.p) ≠ 0 then cmpN (key x.p) (key y.p) else cmpV x.v y.v
theorem c_pile_Item_Canon (x:It) (h:x.ok) (sg):LL.call n_pile_Item_Canon [eI x] sg sg.length=some (eI x.canon,sg,sg.length):=by
 refine wp_call e_pile_Item_Canon rfl ?_
 simp [F_pile_Item_Canon,c_real_Canon x.p h.1,It.canon]
theorem c_pile_Item_Cmp (x y:It) (hx:x.ok) (hy:y.ok) (sg):LL.call n_pile_Item_Cmp [eI x,eI y] sg sg.length=some (.i .i64 (cmpI x y),sg,sg.length):=by
 refine wp_call e_pile_Item_Cmp rfl ?_
 simp [F_pile_Item_Cmp,c_real_Cmp x.p y.p hx.1 hy.1]
 repeat' (refine bq_i (fun h=>?_) (fun h=>?_) <;> (have h':=h) <;> (try simp at h') <;> simp [h,h'])
 all_goals simp [cmpI,cmpV, *]
 all_goals omega
theorem c_law04_Own (x:It) (sg):LL.call n_c_law04_Own [eR x] sg sg.length=some (eI x,sg,sg.length):=by
 refine wp_call e_c_law04_Own rfl ?_
 simp [F_c_law04_Own,c_law03_F]
end Go.AM

namespace Go.AM
structure Cl where
 v:Nat
 n:Int
 l:List It
 deriving DecidableEq,Inhabited
structure Mem where
 cs:List Cl
 ck:Nat
def eC (c:Cl):D:=.a [.i .u64 c.v,.i .i64 c.n,.l .o 2 (c.l.map eI)]
def eMem (m:Mem):List D:=[.l .x 3 (m.cs.map eC),.i .u64 m.ck]
def zC:Cl:=⟨0,0,[]⟩
def rdM (m:Mem) (i:Int):Cl:=if 0 ≤ i then (m.cs[i.toNat]?).getD zC else zC
def Cl.ok (c:Cl):Prop:=c.l.length ≤ 1000000
theorem c_cell_Value_Clone (n:Int) (l:List It) (h:l.length ≤ 1000000) (sg):LL.call n_cell_Value_Clone [.a [.i .i64 n,.l .z 2 (l.map eI)]] sg sg.length=some (.a [.i .i64 n,.l .o 2 (l.map eI)],sg,sg.length):=by
 refine wp_call e_cell_Value_Clone rfl ?_
 simp [F_cell_Value_Clone]
 omega
theorem rdM_lt {m:Mem} {i:Int} (h0:0 ≤ i) (h:i.toNat < m.cs.length):rdM m i=m.cs[i.toNat] := by simp [rdM,h0,h]
theorem rdM_out {m:Mem} {i:Int} (h:i < 0 ∨ (m.cs.length:Int) ≤ i):rdM m i=zC:=by
 unfold rdM
 split
 ·rw [List.getElem?_eq_none (by omega)]; rfl
 ·rfl
theorem c_cell_Memory_Read (m:Mem) (i:Int) (sg:List (List D)) (r:Nat) (hr:sg[r]? = some (eMem m)) (hm:∀ c ∈ m.cs,c.ok):LL.call n_cell_Memory_Read [.p r 0,.i .i64 i] sg sg.length=some (eC (rdM m i),sg,sg.length):=by
 refine wp_call e_cell_Memory_Read rfl ?_
 have hr':sg[r]? = some [.l .x 3 (m.cs.map eC),.i .u64 m.ck] := hr
 by_cases h1:i < 0
 ·simp [F_cell_Memory_Read,hr',h1,rdM_out (.inl h1),zC,eC]
 ·by_cases h2:(m.cs.length:Int) ≤ i
  ·simp [F_cell_Memory_Read,hr',h1,h2,rdM_out (.inr h2),zC,eC]
  ·obtain ⟨k,rfl⟩:∃ k:Nat,i=k:=⟨i.toNat,by omega⟩
   have hk:k < m.cs.length:=by omega
   have hC:=c_cell_Value_Clone m.cs[k].n m.cs[k].l (hm _ (List.getElem_mem hk)) sg
   rw [rdM_lt (by omega) (by simpa using hk)]
   simp [F_cell_Memory_Read,hr',h1,h2,hk,eC,hC]
def padM (cs:List Cl) (i:Nat):List Cl:=cs ++ List.replicate (i + 1 - cs.length) zC
def wrB (m:Mem) (i:Int) (ver:Nat):Bool:=decide (0 ≤ i ∧ i < 1000 ∧ (rdM m i).v=ver)
def putM (m:Mem) (i:Nat) (n:Int) (l:List It):Mem:=⟨(padM m.cs i).set i ⟨m.ck + 1,n,l⟩,m.ck + 1⟩
def wrM (m:Mem) (i:Int) (ver:Nat) (n:Int) (l:List It):Mem:=if wrB m i ver then putM m i.toNat n l else m
theorem nr_eC (n:Nat) (c:Cl):D.nr n (eC c)=true:=by simp [eC]
theorem nrs_eC (n:Nat):∀ l:List Cl,D.nrs n (l.map eC)=true
 | [] => rfl
 | c :: l=>by simp only [List.map_cons,D.nrs,nr_eC,nrs_eC n l,Bool.and_self]
theorem nrs_eCr (n:Nat) (c:Cl):∀ j,D.nrs n (List.replicate j (eC c))=true
 | 0=>rfl
 | j + 1=>by simp only [List.replicate_succ,D.nrs,nr_eC,nrs_eCr n c j,Bool.and_self]
theorem ex_fr (a:List (Nat × R)):∃ X:Nat → List (Nat × R),X 0=a ∧ ∀ k,X (k + 1)=[] := ⟨fun k=>if k=0 then a else [],by simp,by simp⟩
theorem set_same {α : Type} {l:List α} {r:Nat} {a:α} (h:l[r]? = some a):l.set r a=l:=by
 apply List.ext_getElem?
 intro i
 rw [List.getElem?_set]
 split
 ·rename_i e; subst e
  split
  ·exact h.symm
  ·rename_i h2; rw [List.getElem?_eq_none (by omega)] at h; cases h
 ·rfl
theorem take_set {α : Type} (l:List α) (r:Nat) (a:α):List.take l.length (l.set r a)=l.set r a:=List.take_of_length_le (by simp)
theorem get_lt {α : Type} {l:List α} {r:Nat} {a:α} (h:l[r]? = some a):r < l.length:=by
 rcases Nat.lt_or_ge r l.length with h' | h'
 ·exact h'
 ·rw [List.getElem?_eq_none h'] at h; cases h
theorem wc_upe {B : C} {Q : Rs → Prop} {s : St} (n : Nat) (st : Nat → St) (hs : s = st 0)
    (h:∀ i,i < n → @WC (.loop B) (st (i + 1)) ⟨Q⟩ trivial → @WC B (st i) ⟨fun r=>@SqQ (.loop B) ⟨Q⟩ r trivial⟩ trivial)
    (he:@WC B (st n) ⟨fun r=>@SqQ (.loop B) ⟨Q⟩ r trivial⟩ trivial):@WC (.loop B) s ⟨Q⟩ trivial:=by
 rw [hs]
 exact wc_up n st (fun _=>True) (fun i hi _ ih=>h i hi (ih trivial)) (fun _=>he) 0 (by omega) trivial
theorem c_cell_Memory_Write (m : Mem) (i : Int) (ver : Nat) (n : Int) (l : List It) (sg : List (List D)) (r : Nat) (hr : sg[r]? = some (eMem m)) (hm : ∀ c ∈ m.cs, c.ok) (hl : l.length ≤ 1000000) (hc : m.ck < 1000000000) (hlen : m.cs.length ≤ 1000) :
    LL.call n_cell_Memory_Write [.p r 0,.i .i64 i,.i .u64 ver,.a [.i .i64 n,.l .z 2 (l.map eI)]] sg sg.length=some (.b (wrB m i ver),sg.set r (eMem (wrM m i ver n l)),sg.length):=by
 refine wp_call e_cell_Memory_Write rfl ?_
 have hr':sg[r]? = some [.l .x 3 (m.cs.map eC),.i .u64 m.ck] := hr
 have hlt:=get_lt hr
 have hss:=set_same hr
 have hg:∀ a,(sg.set r a)[r]? = some a:=fun a=>List.getElem?_set_self hlt
 have hR:=c_cell_Memory_Read m i sg r hr hm
 have hX:=ex_fr [(22,R.v (D.b false))]
 by_cases h1:i < 0
 ·have hb:wrB m i ver=false:=by simp [wrB]; omega
  simp [F_cell_Memory_Write,h1,hb,wrM,hss]
 ·by_cases h2:(1000:Int) ≤ i
  ·have hb:wrB m i ver=false:=by simp [wrB]; omega
   simp [F_cell_Memory_Write,h1,h2,hb,wrM,hss]
  ·by_cases h3:(rdM m i).v=ver
   ·have hb:wrB m i ver=true:=by simp [wrB,h3]; omega
    obtain ⟨X,hX0,hXs⟩:=hX
    simp [F_cell_Memory_Write,h1,h2,hb,wrM,hR,h3,eC]
    obtain ⟨k,rfl⟩:∃ k:Nat,i=k:=⟨i.toNat,by omega⟩
    refine wc_upe (k + 1 - m.cs.length) (fun j=>⟨[(0,R.v (D.p r 0)),(1,R.v (D.i IntKind.i64 k)),(7,R.q (Q.ptr 7 0))] ++ X j,[(7,[D.i IntKind.i64 n,D.l K.z 2 (List.map eI l)])],sg.set r [D.l K.x 3 ((m.cs ++ List.replicate j zC).map eC),D.i IntKind.u64 ↑m.ck],sg.length⟩) ?_ ?_ ?_
    ·simp [hX0]; simpa [eMem] using hss.symm
    ·intro j hj ih
     rw [hXs] at ih
     have hb1:((m.cs.length:Int) + (j:Int)) ≤ (k:Int):=by omega
     have hb2:m.cs.length + j ≤ k:=by omega
     have ec:[eC zC] = [.a [.i .u64 0,.i .i64 0,.l .o 2 []]] := rfl
     rw [List.replicate_succ'] at ih
     simp at ih
     rw [ec] at ih
     simp [hg,hb1,hb2,nrs_eC,nrs_eCr]
     exact ⟨by omega,ih⟩
    ·have hb1:¬ ((m.cs.length:Int) + ((k + 1 - m.cs.length:Nat):Int)) ≤ (k:Int):=by omega
     have hC:callpv LL n_cell_Value_Clone [.a [.i .i64 n,.l .z 2 (l.map eI)]] = some (.a [.i .i64 n,.l .o 2 (l.map eI)]):=callpv_of (by simp) (c_cell_Value_Clone n l hl [])
     have hp:List.map eC m.cs ++ List.replicate (k + 1 - m.cs.length) (eC zC)=(padM m.cs k).map eC:=by simp [padM]
     have hpl:k < (padM m.cs k).length:=by simp [padM]; omega
     obtain ⟨c,hcc⟩:∃ c,(padM m.cs k)[k] = c:=⟨_,rfl⟩
     have he:eC c=.a [.i .u64 c.v,.i .i64 c.n,.l .o 2 (c.l.map eI)] := rfl
     have w1:IntKind.u64.wrap ((m.ck:Int) + 1)=(m.ck:Int) + 1:=wrapu64 (by omega)
     have hset:((padM m.cs k).map eC).set k (.a [.i .u64 ((m.ck:Int) + 1),.i .i64 n,.l .o 2 (l.map eI)])=((padM m.cs k).set k ⟨m.ck + 1,n,l⟩).map eC:=by rw [List.map_set]; simp [eC]
     simp [hg,hb1,hC,hp,hcc,he,w1,hset,hpl,Nat.not_le.2 hpl,eMem,putM,take_set,-List.map_set]
     rw [hb]
     exact ⟨rfl,rfl⟩
   ·have hb:wrB m i ver=false:=by simp [wrB,h3]
    have h3':(((rdM m i).v:Int) != ver)=true:=by simp; omega
    simp [F_cell_Memory_Write,h1,h2,hb,wrM,hR,h3,h3',eC,hss]
theorem c_cell_Memory_Len (m:Mem) (sg:List (List D)) (r:Nat) (hr:sg[r]? = some (eMem m)):LL.call n_cell_Memory_Len [.p r 0] sg sg.length=some (.i .i64 m.cs.length,sg,sg.length):=by
 refine wp_call e_cell_Memory_Len rfl ?_
 simp [F_cell_Memory_Len,hr,eMem]
theorem c_cell_New (sg:List (List D)):LL.call n_cell_New [] sg sg.length=some (.p sg.length 0,sg ++ [eMem ⟨[],0⟩],sg.length):=by
 refine wp_call e_cell_New rfl ?_
 simp [F_cell_New,eMem]
end Go.AM

namespace Go.AM
theorem i64_mask (i:Nat) (hi:i ≤ 62) (x:Int):bits .and .i64 x (2 ^ i - 1)=x % 2 ^ i:=by
 have hpos:0 < 2 ^ i:=Nat.two_pow_pos i
 have hlt:2 ^ i ≤ 2 ^ 62:=Nat.pow_le_pow_right (by decide) hi
 have hc:((2:Int) ^ i - 1)=((2 ^ i - 1:Nat):Int):=by rw [Int.natCast_sub hpos]; simp
 rw [hc]
 show IntKind.i64.wrap ((BitVec.ofInt 64 x &&& BitVec.ofInt 64 ((2 ^ i - 1:Nat):Int):BitVec 64).toNat:Int)=_
 rw [BitVec.ofInt_natCast,BitVec.toNat_and,BitVec.toNat_ofNat,Nat.mod_eq_of_lt (show 2 ^ i - 1 < 2 ^ 64 by omega),Nat.and_two_pow_sub_one_eq_mod]
 have e1:((BitVec.ofInt 64 x).toNat:Int)=x % 2 ^ 64:=by rw [BitVec.toNat_ofInt]; omega
 have hd:(2:Int) ^ i ∣ 2 ^ 64:=by
  have:=Nat.pow_dvd_pow 2 (show i ≤ 64 by omega)
  exact_mod_cast this
 have e2:(((BitVec.ofInt 64 x).toNat % 2 ^ i:Nat):Int)=x % 2 ^ i:=by
  rw [Int.natCast_emod,e1,Int.natCast_pow]
  exact Int.emod_emod_of_dvd x hd
 rw [e2,wrap64]
 have:=Int.emod_nonneg x (show (2:Int) ^ i ≠ 0 by exact_mod_cast Nat.pos_iff_ne_zero.1 hpos)
 have h3:=Int.emod_lt_of_pos x (show (0:Int) < 2 ^ i by exact_mod_cast hpos)
 have h4:(2:Int) ^ i ≤ 2 ^ 62:=by exact_mod_cast hlt
 constructor
 ·omega
 ·have:(2:Int) ^ 62=4611686018427387904:=by decide
  omega
theorem i64_255 (x:Int):bits .and .i64 x 255=x % 256:=i64_mask 8 (by decide) x
def legal (k p:Int):Int:=if k < 1 ∨ k > 4 then 6 else if p < 1 ∨ p > 16 ∨ (k=4 ∧ p ≠ 1 ∧ p ≠ 2 ∧ p ≠ 4 ∧ p ≠ 8 ∧ p ≠ 16) then 5 else 0
theorem pow2_16 (p:Int) (h1:1 ≤ p) (h2:p ≤ 16):bits .and .i64 p (IntKind.i64.wrap (p - 1))=0 ↔ (p=1 ∨ p=2 ∨ p=4 ∨ p=8 ∨ p=16):=by
 have:p=1 ∨ p=2 ∨ p=3 ∨ p=4 ∨ p=5 ∨ p=6 ∨ p=7 ∨ p=8 ∨ p=9 ∨ p=10 ∨ p=11 ∨ p=12 ∨ p=13 ∨ p=14 ∨ p=15 ∨ p=16:=by omega
 rcases this with rfl | rfl | rfl | rfl | rfl | rfl | rfl | rfl | rfl | rfl | rfl | rfl | rfl | rfl | rfl | rfl <;> decide
theorem c_op_Legal (k p:Int) (sg):LL.call n_op_Legal [.i .i64 k,.i .i64 p] sg sg.length=some (.i .i64 (legal k p),sg,sg.length):=by
 refine wp_call e_op_Legal rfl ?_
 simp [F_op_Legal]
 repeat' (refine bq_i (fun h=>?_) (fun h=>?_) <;> (have h':=h) <;> (try simp at h') <;> simp [h,h'])
 all_goals unfold legal
 ·rw [if_pos (by omega)]
 ·rw [if_pos (by omega)]
 ·rw [if_neg (by omega),if_pos (by omega)]
 ·rw [if_neg (by omega),if_pos (by omega)]
 ·rename_i a b c d e f g hh i j
  have:=pow2_16 p (by omega) (by omega)
  rw [if_neg (by omega),if_pos]
  omega
 ·rename_i a b c d e f g hh i j
  have:=pow2_16 p (by omega) (by omega)
  rw [if_neg (by omega),if_neg]
  omega
 ·rw [if_neg (by omega),if_neg (by omega)]
def kindOf (k:Int):Int:=1 + k % 4
def paramOf (k p:Int):Int:=if kindOf k=4 then 2 ^ (p % 256 % 5).toNat else 1 + p % 16
theorem kindOf_le (k:Int):1 ≤ kindOf k ∧ kindOf k ≤ 4:=by unfold kindOf; omega
theorem paramOf_le (k p:Int):1 ≤ paramOf k p ∧ paramOf k p ≤ 16:=by
 unfold paramOf
 split
 ·have:(p % 256 % 5).toNat=0 ∨ (p % 256 % 5).toNat=1 ∨ (p % 256 % 5).toNat=2 ∨ (p % 256 % 5).toNat=3 ∨ (p % 256 % 5).toNat=4:=by omega
  rcases this with h | h | h | h | h <;> rw [h] <;> decide
 ·omega
theorem legal_kind (k p:Int):legal (kindOf k) (paramOf k p)=0:=by
 have h1:=kindOf_le k
 have h2:=paramOf_le k p
 unfold legal
 rw [if_neg (by omega),if_neg]
 rintro (h | h | ⟨h,h'⟩)
 ·omega
 ·omega
 ·unfold paramOf at h'
  rw [if_pos h] at h'
  have:(p % 256 % 5).toNat=0 ∨ (p % 256 % 5).toNat=1 ∨ (p % 256 % 5).toNat=2 ∨ (p % 256 % 5).toNat=3 ∨ (p % 256 % 5).toNat=4:=by omega
  rcases this with h | h | h | h | h <;> rw [h] at h' <;> revert h' <;> decide
theorem tmod_nn (a b:Int) (h:0 ≤ a):a.tmod b=a % b:=Int.tmod_eq_emod_of_nonneg h
theorem c_law12_Kind (k p:Int) (sg):LL.call n_c_law12_Kind [.i .i64 k,.i .i64 p] sg sg.length=some (.t [.i .i64 (kindOf k),.i .i64 (paramOf k p)],sg,sg.length):=by
 refine wp_call e_c_law12_Kind rfl ?_
 have e1:(k % 256).tmod 4=k % 4:=by rw [tmod_nn _ _ (by omega)]; omega
 have e2:(p % 256).tmod 5=p % 256 % 5:=tmod_nn _ _ (by omega)
 have e3:(p % 256).tmod 16=p % 16:=by rw [tmod_nn _ _ (by omega)]; omega
 have e4:IntKind.i64.wrap (1 + k % 4)=kindOf k:=wrap64 (by omega)
 have e5:IntKind.i64.wrap (1 + p % 16)=1 + p % 16:=wrap64 (by omega)
 simp [F_c_law12_Kind,i64_255,e1,e4]
 refine bq_i (fun h=>?_) (fun h=>?_) <;> (have h':=h) <;> (try simp at h') <;> simp [h,h',i64_255,e2,e3,e5]
 ·refine ⟨by omega,?_⟩
  have e6:min (p % 256 % 5).toNat IntKind.i64.bits=(p % 256 % 5).toNat:=by simp [IntKind.bits]; omega
  rw [e6,paramOf,if_pos h']
  refine wrap64 ?_
  have:(p % 256 % 5).toNat=0 ∨ (p % 256 % 5).toNat=1 ∨ (p % 256 % 5).toNat=2 ∨ (p % 256 % 5).toNat=3 ∨ (p % 256 % 5).toNat=4:=by omega
  rcases this with h | h | h | h | h <;> rw [h] <;> decide
 ·simp [paramOf,h']
end Go.AM

namespace Go.AM
def shapeOf (k p:Int):Int × Int:=if k=1 then (p,0) else if k=2 then (1,0) else if k=3 then (0,p) else if k=4 then (0,1) else (0,0)
end Go.AM

namespace Go.AM
def ordered:List It → Bool
 | x :: y :: r=>decide (0 ≤ cmpI y x) && ordered (y :: r)
 | _=>true
def orderE (k:Int) (l:List It):Int:=if k=1 then (if 62 < l.length then 3 else if ordered l then 0 else 14) else 0
structure Im where
 k:Int
 p:Int
 c:Int
 ls:List (List It)
 cs:List Int
def eIm (x:Im):D:=.a [.i .i64 x.k,.i .i64 x.p,.i .u64 x.c,.l .z 1 (x.ls.map (eL 2 eI)),.l .z 1 (x.cs.map (.i .i64))]
def eRm (x:Im):D:=.a [.i .i64 x.k,.i .i64 x.p,.i .u64 x.c,.l .z 1 (x.ls.map (eL 2 eR)),.l .z 1 (x.cs.map (.i .i64))]
def Im.ok (x:Im):Prop:=(∀ l ∈ x.ls,∀ y ∈ l,y.ok) ∧ (∀ n ∈ x.cs,-9223372036854775808 ≤ n ∧ n ≤ 9223372036854775807) ∧ (x.ls.map List.length).sum ≤ 1099511627776
def ordersE (k:Int):List (List It) → Int
 | [] => 0
 | l :: r=>if orderE k l ≠ 0 then orderE k l else ordersE k r
def badN (n:Int):Bool:=n < 0 || n > 1125899906842624
def countsE (l:List Int):Int:=if l.any badN || l.sum > 1125899906842624 then 4 else 0
def checkI (x:Im):Int :=
 if legal x.k x.p ≠ 0 then legal x.k x.p else
 if (x.ls.length:Int) ≠ (shapeOf x.k x.p).1 ∨ (x.cs.length:Int) ≠ (shapeOf x.k x.p).2 then 2 else
 if ordersE x.k x.ls ≠ 0 then ordersE x.k x.ls else
 if (x.ls.map List.length).sum > 1000 then 3 else countsE x.cs
theorem legal_k {k p:Int} (h:legal k p=0):1 ≤ k ∧ k ≤ 4:=by
 unfold legal at h
 split at h
 ·cases h
 ·omega
theorem cmpI_swap (x y:It):cmpI y x=- cmpI x y:=by
 unfold cmpI cmpV cmpN
 repeat' split
 all_goals omega
end Go.AM

namespace Go.AM
def ltI (x y:It):Prop:=key x.p < key y.p ∨ (key x.p=key y.p ∧ x.v < y.v)
instance (x y:It):Decidable (ltI x y):=by unfold ltI; infer_instance
theorem cmpI_lt (x y:It):cmpI x y < 0 ↔ ltI x y:=by unfold cmpI cmpN cmpV ltI; repeat' split; all_goals omega
theorem cmpI_ge (x y:It):0 ≤ cmpI x y ↔ ¬ ltI x y:=by rw [← cmpI_lt]; omega
theorem ltI_trans' {x y z:It} (h1:¬ ltI y x) (h2:¬ ltI z y):¬ ltI z x:=by unfold ltI at *; omega
def backN (x:It) (l:List It):Nat → Nat
 | 0=>0
 | n + 1=>match l[n]? with
  | some y=>if ltI x y then backN x l n else n + 1
  | none=>n + 1
def insI (x:It) (l:List It):List It:=l.take (backN x l l.length) ++ x :: l.drop (backN x l l.length)
def sortI (l:List It):List It:=l.foldl (fun o x=>insI x o) []
theorem backN_le (x:It) (l:List It):∀ n,backN x l n ≤ n
 | 0=>by simp [backN]
 | n + 1=>by
  unfold backN
  split
  ·split
   ·have:=backN_le x l n; omega
   ·omega
  ·omega
theorem insI_len (x:It) (l:List It):(insI x l).length=l.length + 1:=by
 have:=backN_le x l l.length
 simp [insI]; omega
theorem sortI_len (l:List It):(sortI l).length=l.length:=by
 have:∀ (l o:List It),(l.foldl (fun o x=>insI x o) o).length=o.length + l.length:=by
  intro l
  induction l with
  | nil=>simp
  | cons x l ih=>intro o; simp only [List.foldl_cons,ih,insI_len,List.length_cons]; omega
 have h:=this l []
 simp only [List.length_nil,Nat.zero_add,List.nil_append] at h
 exact h
theorem insI_perm (x:It) (l:List It):(insI x l).Perm (x :: l):=by
 unfold insI
 refine List.perm_middle.trans ?_
 rw [List.take_append_drop]
theorem sortI_perm (l:List It):(sortI l).Perm l:=by
 have:∀ (l o:List It),(l.foldl (fun o x=>insI x o) o).Perm (o ++ l):=by
  intro l
  induction l with
  | nil=>simp
  | cons x l ih =>
   intro o
   simp only [List.foldl_cons]
   refine (ih (insI x o)).trans ?_
   refine ((insI_perm x o).append_right l).trans ?_
   exact List.perm_middle.symm
 have h:=this l []
 simp only [List.length_nil,Nat.zero_add,List.nil_append] at h
 exact h
theorem ordered_pw:∀ l:List It,ordered l=true ↔ l.Pairwise (fun a b=>¬ ltI b a)
 | [] => by simp [ordered]
 | [x] => by simp [ordered]
 | x :: y :: r=>by
  have ih:=ordered_pw (y :: r)
  simp only [ordered,Bool.and_eq_true,decide_eq_true_eq,ih,cmpI_ge]
  constructor
  ·rintro ⟨h1,h2⟩
   refine List.pairwise_cons.2 ⟨fun z hz=>?_,h2⟩
   rcases List.mem_cons.1 hz with rfl | hz
   ·exact h1
   ·exact ltI_trans' h1 ((List.pairwise_cons.1 h2).1 z hz)
  ·intro h
   have h':=List.pairwise_cons.1 h
   exact ⟨h'.1 y (by simp),h'.2⟩
theorem backN_above (x:It) (l:List It):∀ n,n ≤ l.length → ∀ j,backN x l n ≤ j → j < n → ∀ y,l[j]? = some y → ltI x y
 | 0=>by omega
 | n + 1=>by
  intro hn j h1 h2 y hy
  have q:l[n]? = some l[n] := List.getElem?_eq_getElem (by omega)
  rw [backN,q] at h1
  simp only at h1
  split at h1
  ·by_cases e:j=n
   ·subst e; rw [q] at hy; cases hy; assumption
   ·exact backN_above x l n (by omega) j h1 (by omega) y hy
  ·omega
theorem backN_below (x:It) (l:List It):∀ n,n ≤ l.length → 0 < backN x l n → ∃ y,l[backN x l n - 1]? = some y ∧ ¬ ltI x y
 | 0=>by simp [backN]
 | n + 1=>by
  intro hn h
  have q:l[n]? = some l[n] := List.getElem?_eq_getElem (by omega)
  rw [backN,q] at h ⊢
  simp only at h ⊢
  split
  ·rename_i e
   rw [if_pos e] at h
   exact backN_below x l n (by omega) h
  ·exact ⟨_,q,by assumption⟩
theorem insI_ordered (x:It) (l:List It) (h:ordered l=true):ordered (insI x l)=true:=by
 rw [ordered_pw] at h ⊢
 have hle:=backN_le x l l.length
 unfold insI
 refine List.pairwise_append.2 ⟨h.sublist (List.take_sublist _ _),List.pairwise_cons.2 ⟨fun y hy=>?_,h.sublist (List.drop_sublist _ _)⟩,fun a ha b hb=>?_⟩
 ·obtain ⟨j,hj⟩:=List.mem_iff_getElem?.1 hy
  rw [List.getElem?_drop] at hj
  have:backN x l l.length + j < l.length:=(List.getElem?_eq_some_iff.1 hj).1
  have:=backN_above x l l.length (by omega) _ (by omega) this y hj
  unfold ltI at *; omega
 ·have hax:¬ ltI x a:=by
   obtain ⟨j,hj⟩:=List.mem_iff_getElem?.1 ha
   rw [List.getElem?_take] at hj
   split at hj
   ·rename_i hlt
    obtain ⟨y,hy,hxy⟩:=backN_below x l l.length (by omega) (by omega)
    by_cases e:j=backN x l l.length - 1
    ·subst e; rw [hj] at hy; cases hy; exact hxy
    ·obtain ⟨p1,q1⟩:=List.getElem?_eq_some_iff.1 hj
     obtain ⟨p2,q2⟩:=List.getElem?_eq_some_iff.1 hy
     have:=List.pairwise_iff_getElem.1 h j (backN x l l.length - 1) p1 p2 (by omega)
     rw [q1,q2] at this
     exact ltI_trans' this hxy
   ·cases hj
  rcases List.mem_cons.1 hb with rfl | hb
  ·exact hax
  ·have:a ∈ l.take (backN x l l.length):=ha
   have h2:=List.take_append_drop (backN x l l.length) l
   rw [← h2] at h
   exact (List.pairwise_append.1 h).2.2 a ha b hb
theorem sortI_ordered (l:List It):ordered (sortI l)=true:=by
 have:∀ (l o:List It),ordered o=true → ordered (l.foldl (fun o x=>insI x o) o)=true:=by
  intro l
  induction l with
  | nil=>exact fun o h=>h
  | cons x l ih=>exact fun o h=>ih _ (insI_ordered x o h)
 exact this l [] rfl
end Go.AM

namespace Go.AM
def eLK {α : Type} (K:K) (sz:Nat) (e:α → D) (l:List α):D:=.l K sz (l.map e)
theorem zzs_eLK {α : Type} (K:K) (sz:Nat) (e:α → D) [Flat e] : ∀ l:List (List α),D.zzs (l.map (eLK K sz e))=l.map (eL sz e)
 | [] => rfl
 | x :: l=>by simp [D.zzs,zzs_eLK K sz e l,eLK,eL]
theorem fzs_eLK {α : Type} (K:K) (hK:K=.o ∨ K=.x) (sz:Nat) (e:α → D) [Flat e] : ∀ l:List (List α),D.fzs (l.map (eLK K sz e))=l.map (eL sz e)
 | [] => rfl
 | x :: l=>by
  have ih:=fzs_eLK K hK sz e l
  rcases hK with rfl | rfl <;> simp only [List.map_cons,D.fzs,ih] <;> simp [eLK,eL]
theorem fzs_eLo {α : Type} (sz:Nat) (e:α → D) [Flat e] (l:List (List α)):D.fzs (l.map (eLK .o sz e))=l.map (eL sz e):=fzs_eLK _ (.inl rfl) sz e l
theorem fzs_eLx {α : Type} (sz:Nat) (e:α → D) [Flat e] (l:List (List α)):D.fzs (l.map (eLK .x sz e))=l.map (eL sz e):=fzs_eLK _ (.inr rfl) sz e l
attribute [simp] zzs_eLK fzs_eLo fzs_eLx eL eLK
def eImK (K1 K2 K3:K) (x:Im):D:=.a [.i .i64 x.k,.i .i64 x.p,.i .u64 x.c,.l K1 1 (x.ls.map (eLK K2 2 eI)),.l K3 1 (x.cs.map (.i .i64))]
theorem zz_eImK (K1 K2 K3:K) (x:Im):D.zz (eImK K1 K2 K3 x)=eIm x:=by simp [eImK,eIm]
attribute [simp] zz_eImK
structure Raw where
 k:Int
 p:Int
 c:Int
 is:List It
 cs:List Int
 sp:Int
def eRaw (x:Raw):D:=.a [.i .i64 x.k,.i .i64 x.p,.i .u64 x.c,.l .z 2 (x.is.map eR),.l .z 1 (x.cs.map (.i .i64)),.i .i64 x.sp]
def Raw.ok (x:Raw):Prop:=(∀ y ∈ x.is,y.ok) ∧ (0 ≤ x.c ∧ x.c < 18446744073709551616) ∧ (-9223372036854775808 ≤ x.sp ∧ x.sp ≤ 9223372036854775807)
def dealI (n:Nat):List (List It) → Nat → List It → List (List It)
 | a,_,[] => a
 | a,i,x :: r=>dealI n (a.set (i % n) ((a[i % n]?).getD [] ++ [x.canon])) (i + 1) r
def makeCs (m:Nat) (cs:List Int):List Int:=(List.range m).map fun i=>match cs[i]? with
 | some n=>n % 1099511627776
 | none=>0
def makeI (x:Raw):Im :=
 let k:=kindOf x.k
 let p:=paramOf x.k x.p
 let n:=(shapeOf k p).1.toNat
 let ls:=dealI n (List.replicate n []) 0 (if n=0 then [] else x.is.take 60)
 ⟨k,p,x.c,if k=1 then ls.map sortI else ls,makeCs (shapeOf k p).2.toNat x.cs⟩
end Go.AM

namespace Go.AM
def eRmK (K1 K2 K3:K) (x:Im):D:=.a [.i .i64 x.k,.i .i64 x.p,.i .u64 x.c,.l K1 1 (x.ls.map (eLK K2 2 eR)),.l K3 1 (x.cs.map (.i .i64))]
theorem zz_eRmK (K1 K2 K3:K) (x:Im):D.zz (eRmK K1 K2 K3 x)=eRm x:=by simp [eRmK,eRm]
attribute [simp] zz_eRmK
def toldI (x:Im):Im:={ x with ls:=x.ls.map (·.map It.canon) }
def Im.small (x:Im):Prop:=x.ls.length ≤ 1099511627776 ∧ x.cs.length ≤ 1099511627776 ∧ ∀ l ∈ x.ls,l.length ≤ 1099511627776
end Go.AM

namespace Go.AM
end Go.AM

namespace Go.AM
theorem map_eq_iff {α β γ : Type} (f:α → γ) (g:β → γ) (a:List α) (b:List β) (hl:a.length=b.length):a.map f=b.map g ↔ ∀ i,∀ (h:i < a.length),f a[i] = g (b[i]'(hl ▸ h)):=by
 constructor
 ·intro h i hi
  have h1:(a.map f)[i]? = (b.map g)[i]? := by rw [h]
  rw [List.getElem?_map,List.getElem?_map,List.getElem?_eq_getElem hi,List.getElem?_eq_getElem (hl ▸ hi)] at h1
  simpa using h1
 ·intro h
  apply List.ext_getElem (by simp [hl])
  intro i h1 h2
  simp at h1
  simp [h i h1]
theorem cmpI_zero {x y:It} (hx:x.ok) (hy:y.ok):cmpI x y=0 ↔ x.canon=y.canon:=by
 have h1:cmpN (key x.p) (key y.p)=0 ↔ AM.canon x.p=AM.canon y.p:=by
  constructor
  ·intro h
   refine keyC_inj (canon_lt hx.1) (canon_lt hy.1) ?_
   show key x.p=key y.p
   unfold cmpN at h
   split at h
   ·omega
   ·split at h <;> omega
  ·intro h
   have:key x.p=key y.p:=by unfold key; rw [h]
   unfold cmpN; rw [this]; simp
 unfold It.canon cmpI
 by_cases h:AM.canon x.p=AM.canon y.p
 ·rw [if_neg (by simp [h1.2 h])]
  simp only [h,It.mk.injEq,true_and]
  unfold cmpV
  split
  ·omega
  ·split <;> omega
 ·have:cmpN (key x.p) (key y.p) ≠ 0:=fun h2=>h (h1.1 h2)
  rw [if_pos this]
  simp [h,this]
instance:DecidableEq Im:=fun x y=>decidable_of_iff (x.k=y.k ∧ x.p=y.p ∧ x.c=y.c ∧ x.ls=y.ls ∧ x.cs=y.cs) (by cases x; cases y; simp)
end Go.AM

namespace Go.AM
end Go.AM

namespace Go.AM
structure Pt where
 at_:Int
 n:Int
 l:List It
def ePt (p:Pt):D:=.a [.i .i64 p.at_,.i .i64 p.n,.l .z 2 (p.l.map eR)]
instance:Flat ePt:=⟨fun _=>rfl,fun p=>by simp [ePt],fun n p=>by simp [ePt]⟩
def Pt.ok (p:Pt):Prop:=0 ≤ p.at_ ∧ p.at_ < 1000 ∧ p.l.length ≤ 1000000
def rdP:List Pt → Nat → Int → Cl → Cl
 | [],_,_,c=>c
 | p :: ps,k,i,c=>rdP ps (k + 1) i (if p.at_=i then ⟨k + 1,p.n,p.l⟩ else c)
def memOf (ps:List Pt):Mem:=ps.foldl (fun m p=>putM m p.at_.toNat p.n p.l) ⟨[],0⟩
def lenP (ps:List Pt):Int:=ps.foldl (fun n p=>max n (p.at_ + 1)) 0
theorem padM_len (cs:List Cl) (i:Nat):(padM cs i).length=max cs.length (i + 1):=by simp [padM]; omega
theorem padM_get (cs:List Cl) (i j:Nat):((padM cs i)[j]?).getD zC=(cs[j]?).getD zC:=by
 unfold padM
 rw [List.getElem?_append]
 split
 ·rfl
 ·rename_i h
  rw [List.getElem?_eq_none (l:=cs) (by omega),List.getElem?_replicate]
  split <;> rfl
theorem rdM_putM (m:Mem) (a:Nat) (n:Int) (l:List It) (i:Int):rdM (putM m a n l) i=if (a:Int)=i then ⟨m.ck + 1,n,l⟩ else rdM m i:=by
 have hl:=padM_len m.cs a
 unfold rdM putM
 by_cases h0:0 ≤ i
 ·simp only [if_pos h0]
  rw [List.getElem?_set]
  by_cases h:(a:Int)=i
  ·rw [if_pos h,if_pos (by omega),if_pos (by omega)]; rfl
  ·rw [if_neg h,if_neg (by omega),padM_get]
 ·simp only [if_neg h0]
  rw [if_neg (by omega)]
end Go.AM

namespace Go.AM
def evL:List Nat → List Nat
 | x :: _ :: r=>x :: evL r
 | l=>l
def odL:List Nat → List Nat
 | _ :: y :: r=>y :: odL r
 | _=>[]
def mixL:List Nat → List Nat → List Nat
 | x :: xs,y :: ys=>x :: y :: mixL xs ys
 | _,_=>[]
def mergeG:Nat → List Nat → List Nat → List (Nat × Nat) × List Nat
 | 0,x,y=>([(x.headD 0,y.headD 0)],[x.headD 0,y.headD 0])
 | k + 1, x, y => ((mergeG k (evL x) (odL y)).1 ++ (mergeG k (odL x) (evL y)).1 ++ (mergeG k (evL x) (odL y)).2.zip (mergeG k (odL x) (evL y)).2,
     mixL (mergeG k (evL x) (odL y)).2 (mergeG k (odL x) (evL y)).2)
def countG:Nat → Nat → List (Nat × Nat) × List Nat
 | 0,a=>([],[a])
 | k + 1,a=>((countG k a).1 ++ (countG k (a + 2 ^ k)).1 ++ (mergeG k (countG k a).2 (countG k (a + 2 ^ k)).2).1,(mergeG k (countG k a).2 (countG k (a + 2 ^ k)).2).2)
def lgP (p:Nat):Nat:=if p=1 then 0 else if p=2 then 1 else if p=4 then 2 else if p=8 then 3 else 4
def gatesN (p:Nat):List (Nat × Nat):=(countG (lgP p) 0).1
def outsN (p:Nat):List Nat:=(countG (lgP p) 0).2
def eG (g:Nat × Nat):D:=.a [.i .i64 g.1,.i .i64 g.2]
def eN (n:Nat):D:=.i .i64 n
instance:Flat eG:=⟨fun _=>rfl,fun p=>by simp [eG],fun n p=>by simp [eG]⟩
instance:Flat eN:=⟨fun _=>rfl,fun p=>by simp [eN],fun n p=>by simp [eN]⟩
def pairsN (p:Nat):List Nat:=(gatesN p).flatMap fun g=>[g.1,g.2]
def widthN (p:Nat):Prop:=p=1 ∨ p=2 ∨ p=4 ∨ p=8 ∨ p=16
def ePlan (K:AM.K) (p:Nat):D:=.a [.i .i64 p,.l K 2 ((gatesN p).map eG),.l K 1 ((outsN p).map eN)]
def eNetR (K K2:AM.K) (p:Nat):D:=.a [.l K 1 ((pairsN p).map eN),.l K2 1 ((outsN p).map eN)]
def kW (p:Nat):AM.K:=if p=1 then .o else .z
set_option maxRecDepth 100000 in
theorem net1:LL.call n_net_New [.i .i64 1] [] 0=some (.t [ePlan .z 1,.i .i64 0],[],0):=lim_call.2 ⟨60,by kernel_rfl⟩
set_option maxRecDepth 100000 in
theorem net2:LL.call n_net_New [.i .i64 2] [] 0=some (.t [ePlan .z 2,.i .i64 0],[],0):=lim_call.2 ⟨60,by kernel_rfl⟩
set_option maxRecDepth 100000 in
theorem net4:LL.call n_net_New [.i .i64 4] [] 0=some (.t [ePlan .z 4,.i .i64 0],[],0):=lim_call.2 ⟨60,by kernel_rfl⟩
set_option maxRecDepth 100000 in
theorem net8:LL.call n_net_New [.i .i64 8] [] 0=some (.t [ePlan .z 8,.i .i64 0],[],0):=lim_call.2 ⟨60,by kernel_rfl⟩
set_option maxRecDepth 100000 in
theorem net16:LL.call n_net_New [.i .i64 16] [] 0=some (.t [ePlan .z 16,.i .i64 0],[],0):=lim_call.2 ⟨60,by kernel_rfl⟩
theorem p_net_New (p:Nat) (h:widthN p):callpv LL n_net_New [.i .i64 p] = some (.t [ePlan .z p,.i .i64 0]):=by
 rcases h with rfl | rfl | rfl | rfl | rfl
 ·exact callpv_of rfl net1
 ·exact callpv_of rfl net2
 ·exact callpv_of rfl net4
 ·exact callpv_of rfl net8
 ·exact callpv_of rfl net16
theorem widthN_facts (p:Nat) (h:widthN p):(∀ g ∈ gatesN p,g.1 < p ∧ g.2 < p) ∧ (∀ w ∈ outsN p,w < p) ∧ (outsN p).length=p ∧ (gatesN p).length ≤ 80:=by
 rcases h with rfl | rfl | rfl | rfl | rfl <;> decide
end Go.AM

namespace Go.AM
def hp (h:List It):List D:=[.l .x 2 (h.map eI)]
def swp (h:List It) (i j:Nat):List It:=(h.set i h[j]!).set j h[i]!
theorem c_items_Len {g:Nat} {h:List It} {sg:List (List D)} (hg:sg[g]? = some (hp h)):LL.call n_pile_items_Len_q [.p g 0] sg sg.length=some (.i .i64 h.length,sg,sg.length):=by
 refine wp_callq (d0:=.l .x 2 (h.map eI)) e_pile_items_Len_q rfl hg rfl ?_
 simp [F_pile_items_Len_q,hg,hp,St.at,lenv]
theorem c_items_Less {g : Nat} {h : List It} {sg : List (List D)} (hg : sg[g]? = some (hp h)) (i j : Nat) (hi : i < h.length) (hj : j < h.length) (h1 : h[i].ok) (h2 : h[j].ok) :
    LL.call n_pile_items_Less_q [.p g 0,.i .i64 i,.i .i64 j] sg sg.length=some (.b (decide (cmpI h[i] h[j] < 0)),sg,sg.length):=by
 refine wp_callq (d0:=.l .x 2 (h.map eI)) e_pile_items_Less_q rfl hg rfl ?_
 have e:=c_pile_Item_Cmp h[i] h[j] h1 h2 sg
 simp at e
 simp [F_pile_items_Less_q,hg,hp,St.at,hi,hj,e]
theorem c_items_Swap {g : Nat} {h : List It} {sg : List (List D)} (hg : sg[g]? = some (hp h)) (i j : Nat) (hi : i < h.length) (hj : j < h.length) :
    LL.call n_pile_items_Swap_q [.p g 0,.i .i64 i,.i .i64 j] sg sg.length=some (.t [],sg.set g (hp (swp h i j)),sg.length):=by
 refine wp_callq (d0:=.l .x 2 (h.map eI)) e_pile_items_Swap_q rfl hg rfl ?_
 have hlt:g < sg.length:=by rw [List.getElem?_eq_some_iff] at hg; exact hg.1
 have hg2:sg[g] = hp h:=by rw [List.getElem?_eq_some_iff] at hg; exact hg.2
 have s3:((h.map eI).set i (.a [.f .f64 h[j].p,.i .i64 h[j].v]))[j]'(by simpa using hj)=.a [.f .f64 h[j].p,.i .i64 h[j].v] := by rw [List.getElem_set]; split <;> simp
 simp [F_pile_items_Swap_q,hg,s3,hg2,hp,St.at,hi,hj,hlt,swp,List.getElem?_set,St.setAt]
 rw [List.take_of_length_le (by simp)]
theorem m_Len : EE.meth t_pile_items_u "Len" = some n_pile_items_Len_q := by kernel_rfl
theorem m_Less : EE.meth t_pile_items_u "Less" = some n_pile_items_Less_q := by kernel_rfl
theorem m_Swap : EE.meth t_pile_items_u "Swap" = some n_pile_items_Swap_q := by kernel_rfl
theorem m_Pop : EE.meth t_pile_items_u "Pop" = some n_pile_items_Pop := by kernel_rfl
attribute [simp] m_Len m_Less m_Swap m_Pop
def dn (h:List It) (i n:Nat):List It × Nat :=
 if hlt:2 * i + 1 < n then
  if 2 * i + 2 < n ∧ cmpI h[2 * i + 2]! h[2 * i + 1]! < 0 then
   if cmpI h[2 * i + 2]! h[i]! < 0 then dn (swp h i (2 * i + 2)) (2 * i + 2) n else (h,i)
  else
   if cmpI h[2 * i + 1]! h[i]! < 0 then dn (swp h i (2 * i + 1)) (2 * i + 1) n else (h,i)
 else (h,i)
termination_by n - i
theorem swp_len (h:List It) (i j:Nat):(swp h i j).length=h.length:=by simp [swp]
theorem swp_mem {h:List It} {i j:Nat} (hi:i < h.length) (hj:j < h.length) {x:It} (hx:x ∈ swp h i j):x ∈ h:=by
 unfold swp at hx
 rcases List.mem_or_eq_of_mem_set hx with hx | rfl
 ·rcases List.mem_or_eq_of_mem_set hx with hx | rfl
  ·exact hx
  ·rw [getElem!_pos h j hj]; exact List.getElem_mem hj
 ·rw [getElem!_pos h i hi]; exact List.getElem_mem hi
theorem heap_down {g : Nat} {h : List It} {sg : List (List D)} (hg : g < sg.length) (i n : Nat) (hn : n ≤ h.length) (hi : i < 1000000000000) (hl : h.length < 1000000000000) (hok : ∀ x ∈ h, x.ok) :
    LL.call n_container_heap_down [.ic t_pile_items_u (.p g 0),.i .i64 i,.i .i64 n] (sg.set g (hp h)) (sg.set g (hp h)).length=some (.b (decide ((dn h i n).2 > i)),sg.set g (hp (dn h i n).1),(sg.set g (hp h)).length):=by
 generalize hr:dn h i n=r
 refine wp_call e_container_heap_down rfl ?_
 simp [F_container_heap_down]
 refine wc_ind (fun a:List It × Nat=>⟨[(0,.v (.ic t_pile_items_u (.p g 0))),(1,.v (.i .i64 i)),(2,.v (.i .i64 n)),(7,.v (.i .i64 a.2))],[],sg.set g (hp a.1),sg.length⟩) (fun a=>n - a.2) (fun a=>dn a.1 a.2 n=r ∧ a.1.length=h.length ∧ (∀ x ∈ a.1,x.ok) ∧ a.2 < 1000000000000) ?_ (h,i) ⟨hr,rfl,hok,hi⟩
 rintro ⟨h',i'⟩ ⟨p1,p2,p3,p4⟩ ih
 simp only at p1 p2 p3 p4 ih
 obtain ⟨q,hq⟩:∃ q,q=2 * i' + 1:=⟨_,rfl⟩
 obtain ⟨q1,hq1⟩:∃ q,q=2 * i' + 2:=⟨_,rfl⟩
 have w1:IntKind.i64.wrap (IntKind.i64.wrap (2 * i') + 1)=(q:Int):=by
  have w0:IntKind.i64.wrap (2 * (i':Int))=2 * i':=wrap64 (by omega)
  rw [w0,wrap64 (by omega)]; omega
 have w2:IntKind.i64.wrap ((q:Int) + 1)=(q1:Int):=by rw [wrap64 (by omega)]; omega
 have hge:(sg.set g (hp h'))[g]? = some (hp h'):=by simp [hg]
 simp [w1]
 have hi':∀ x ∈ h',x.ok:=p3
 have gok:∀ k (hk:k < h'.length),h'[k].ok:=fun k hk=>p3 _ (List.getElem_mem hk)
 refine bq_i (fun c1=>?_) (fun c1=>?_) <;> (have c1':=c1) <;> simp at c1'
 ·rw [dn,dif_neg (by omega)] at p1
  subst p1
  simp [c1]
  exact List.take_of_length_le (by simp)
 ·have hq2:q < h'.length:=by omega
  have hi2:i' < h'.length:=by omega
  simp [c1]
  refine bq_i (fun c2=>?_) (fun c2=>?_) <;> (have c2':=c2) <;> simp at c2'
  ·omega
  rw [dn,dif_pos (by omega),← hq1,← hq] at p1
  simp [c2,w2]
  refine bq_i (fun c3=>?_) (fun c3=>?_) <;> (have c3':=c3) <;> simp at c3'
  ·have hq3:q1 < h'.length:=by omega
   have L1:=c_items_Less hge q1 q hq3 hq2 (gok _ hq3) (gok _ hq2)
   simp at L1
   simp [c3,L1]
   refine bq_i (fun c4=>?_) (fun c4=>?_) <;> (have c4':=c4) <;> simp at c4'
   ·have L2:=c_items_Less hge q1 i' hq3 hi2 (gok _ hq3) (gok _ hi2)
    have S1:=c_items_Swap hge i' q1 hi2 hq3
    simp at L2 S1
    rw [if_pos ⟨by omega,by rw [getElem!_pos h' q1 hq3,getElem!_pos h' q hq2]; exact c4'⟩,getElem!_pos h' q1 hq3,getElem!_pos h' i' hi2] at p1
    simp [c4,L2]
    refine bq_i (fun c5=>?_) (fun c5=>?_) <;> (have c5':=c5) <;> simp at c5'
    ·rw [if_neg (by omega)] at p1
     subst p1
     simp [c5]
     exact List.take_of_length_le (by simp)
    ·rw [if_pos (by omega)] at p1
     simp [c5,S1]
     have:=ih (swp h' i' q1,q1) (by simp; omega) ⟨p1,by rw [swp_len]; exact p2,fun x hx=>p3 x (swp_mem hi2 hq3 hx),by simp; omega⟩
     simpa using this
   ·have L2:=c_items_Less hge q i' hq2 hi2 (gok _ hq2) (gok _ hi2)
    have S1:=c_items_Swap hge i' q hi2 hq2
    simp at L2 S1
    rw [if_neg (by rw [getElem!_pos h' q1 hq3,getElem!_pos h' q hq2]; omega),getElem!_pos h' q hq2,getElem!_pos h' i' hi2] at p1
    simp [c4,L2]
    refine bq_i (fun c5=>?_) (fun c5=>?_) <;> (have c5':=c5) <;> simp at c5'
    ·rw [if_neg (by omega)] at p1
     subst p1
     simp [c5]
     exact List.take_of_length_le (by simp)
    ·rw [if_pos (by omega)] at p1
     simp [c5,S1]
     have:=ih (swp h' i' q,q) (by simp; omega) ⟨p1,by rw [swp_len]; exact p2,fun x hx=>p3 x (swp_mem hi2 hq2 hx),by simp; omega⟩
     simpa using this
  ·have L1:=c_items_Less hge q i' hq2 hi2 (gok _ hq2) (gok _ hi2)
   have S1:=c_items_Swap hge i' q hi2 hq2
   simp at L1 S1
   rw [if_neg (by omega),getElem!_pos h' q hq2,getElem!_pos h' i' hi2] at p1
   simp [c3,L1]
   refine bq_i (fun c5=>?_) (fun c5=>?_) <;> (have c5':=c5) <;> simp at c5'
   ·rw [if_neg (by omega)] at p1
    subst p1
    simp [c5]
    exact List.take_of_length_le (by simp)
   ·rw [if_pos (by omega)] at p1
    simp [c5,S1]
    have:=ih (swp h' i' q,q) (by simp; omega) ⟨p1,by rw [swp_len]; exact p2,fun x hx=>p3 x (swp_mem hi2 hq2 hx),by simp; omega⟩
    simpa using this
end Go.AM

namespace Go.AM
theorem swp_perm {h:List It} {i j:Nat} (hi:i < h.length) (hj:j < h.length):(swp h i j).Perm h:=by
 unfold swp
 rw [getElem!_pos h i hi,getElem!_pos h j hj]
 exact List.set_set_perm hi hj
theorem dn_perm:∀ (h:List It) (i n:Nat),n ≤ h.length → (dn h i n).1.Perm h:=by
 intro h i n hn
 fun_induction dn h i n with
 | case1 h i h1 h2 h3 ih=>exact (ih (by rw [swp_len]; exact hn)).trans (swp_perm (by omega) (by omega))
 | case2 h i h1 h2 h3=>exact .refl _
 | case3 h i h1 h2 h3 ih=>exact (ih (by rw [swp_len]; exact hn)).trans (swp_perm (by omega) (by omega))
 | case4 h i h1 h2 h3=>exact .refl _
 | case5 h i h1=>exact .refl _
theorem dn_len (h:List It) (i n:Nat) (hn:n ≤ h.length):(dn h i n).1.length=h.length:=(dn_perm h i n hn).length_eq
def hini (h:List It):Nat → List It
 | 0=>h
 | k + 1=>hini (dn h k h.length).1 k
theorem hini_perm:∀ (k:Nat) (h:List It),(hini h k).Perm h
 | 0,h=>.refl _
 | k + 1,h=>(hini_perm k _).trans (dn_perm h k h.length (Nat.le_refl _))
theorem heap_Init {g : Nat} {h : List It} {sg : List (List D)} (hg : g < sg.length) (hl : h.length < 1000000000000) (hok : ∀ x ∈ h, x.ok) :
    LL.call n_container_heap_Init [.ic t_pile_items_u (.p g 0)] (sg.set g (hp h)) (sg.set g (hp h)).length=some (.t [],sg.set g (hp (hini h (h.length / 2))),(sg.set g (hp h)).length):=by
 generalize hr:hini h (h.length / 2)=r
 refine wp_call e_container_heap_Init rfl ?_
 have hge:(sg.set g (hp h))[g]? = some (hp h):=by simp [hg]
 have L0:=c_items_Len hge
 simp at L0
 have w1:IntKind.i64.wrap (IntKind.i64.wrap ((h.length:Int) / 2) - 1)=((h.length / 2:Nat):Int) - 1:=by
  rw [wrap64 (x:=(h.length:Int) / 2) (by omega),wrap64 (by omega)]; omega
 simp [F_container_heap_Init,L0,w1]
 refine wc_ind (fun a:List It × Nat=>⟨[(0,.v (.ic t_pile_items_u (.p g 0))),(2,.v (.i .i64 h.length)),(3,.v (.i .i64 (a.2 - 1)))],[],sg.set g (hp a.1),sg.length⟩) (fun a=>a.2) (fun a=>hini a.1 a.2=r ∧ a.1.length=h.length ∧ (∀ x ∈ a.1,x.ok) ∧ a.2 ≤ h.length) ?_ (h,h.length / 2) ⟨hr,rfl,hok,by simp; omega⟩
 rintro ⟨h',k⟩ ⟨p1,p2,p3,p4⟩ ih
 simp only at p1 p2 p3 p4 ih
 simp
 cases k with
 | zero =>
  subst p1
  refine bq_i (fun c1=>?_) (fun c1=>?_) <;> (have c1':=c1) <;> simp at c1'
  simp [c1,hini]
  exact List.take_of_length_le (by simp)
 | succ k =>
  have w2:((k + 1:Nat):Int) - 1=k:=by omega
  have w3:IntKind.i64.wrap ((k:Int) - 1)=k - 1:=wrap64 (by omega)
  refine bq_i (fun c1=>?_) (fun c1=>?_) <;> (have c1':=c1) <;> simp at c1'
  ·have D1:=heap_down hg k h.length (by omega) (by omega) (by omega) p3
   simp at D1
   simp [c1,w2,D1,w3]
   rw [hini,p2] at p1
   have:=ih ((dn h' k h.length).1,k) (by simp) ⟨p1,by rw [dn_len _ _ _ (by omega)]; exact p2,fun x hx=>p3 x ((dn_perm _ _ _ (by omega)).mem_iff.1 hx),by simp; omega⟩
   simpa using this
  ·omega
def popH (h:List It):It × List It:=((dn (swp h 0 (h.length - 1)) 0 (h.length - 1)).1[h.length - 1]!,(dn (swp h 0 (h.length - 1)) 0 (h.length - 1)).1.take (h.length - 1))
theorem items_Pop {g : Nat} {h : List It} {sg : List (List D)} (hg : g < sg.length) (h0 : h ≠ []) (hl : h.length < 1000000000000) :
    LL.call n_pile_items_Pop [.p g 0] (sg.set g (hp h)) (sg.set g (hp h)).length=some (.ic t_pile_Item (eI h[h.length - 1]!),sg.set g (hp (h.take (h.length - 1))),(sg.set g (hp h)).length):=by
 have hpos:0 < h.length:=List.length_pos_iff.2 h0
 have hn:((h.length:Int) - 1)=((h.length - 1:Nat):Int):=by omega
 have w1:IntKind.i64.wrap ((h.length:Int) - 1)=((h.length - 1:Nat):Int):=by rw [wrap64 (by omega)]; omega
 have hlt:h.length - 1 < h.length:=by omega
 refine wp_call e_pile_items_Pop rfl ?_
 have hnr:D.nrs 0 ((h.map eI).take (h.length - 1))=true:=by rw [← List.map_take]; exact nrs_flat eI 0 _
 simp [F_pile_items_Pop,hg,hp,w1,St.at,hlt,h0,hnr]
 exact List.take_of_length_le (by simp)
theorem heap_Pop {g : Nat} {h : List It} {sg : List (List D)} (hg : g < sg.length) (h0 : h ≠ []) (hl : h.length < 1000000000000) (hok : ∀ x ∈ h, x.ok) :
    LL.call n_container_heap_Pop [.ic t_pile_items_u (.p g 0)] (sg.set g (hp h)) (sg.set g (hp h)).length=some (.ic t_pile_Item (eI (popH h).1),sg.set g (hp (popH h).2),(sg.set g (hp h)).length):=by
 have hpos:0 < h.length:=List.length_pos_iff.2 h0
 have w1:IntKind.i64.wrap ((h.length:Int) - 1)=((h.length - 1:Nat):Int):=by rw [wrap64 (by omega)]; omega
 have hge:(sg.set g (hp h))[g]? = some (hp h):=by simp [hg]
 have L0:=c_items_Len hge
 have S1:=c_items_Swap hge 0 (h.length - 1) hpos (by omega)
 have D1:=heap_down (h:=swp h 0 (h.length - 1)) hg 0 (h.length - 1) (by rw [swp_len]; omega) (by omega) (by rw [swp_len]; exact hl) (fun x hx=>hok x (swp_mem hpos (by omega) hx))
 have hlen:(dn (swp h 0 (h.length - 1)) 0 (h.length - 1)).1.length=h.length:=by rw [dn_len _ _ _ (by rw [swp_len]; omega),swp_len]
 have P1:=items_Pop (h:=(dn (swp h 0 (h.length - 1)) 0 (h.length - 1)).1) hg (by rw [← List.length_pos_iff,hlen]; exact hpos) (by omega)
 rw [hlen] at P1
 refine wp_call e_container_heap_Pop rfl ?_
 simp at L0 S1 D1 P1
 simp [F_container_heap_Pop,L0,w1,S1,D1,P1,popH]
 exact List.take_of_length_le (by simp)
theorem popH_perm {h:List It} (h0:h ≠ []):((popH h).1 :: (popH h).2).Perm h:=by
 have hpos:0 < h.length:=List.length_pos_iff.2 h0
 have hlen:(dn (swp h 0 (h.length - 1)) 0 (h.length - 1)).1.length=h.length:=by rw [dn_len _ _ _ (by rw [swp_len]; omega),swp_len]
 have e:(popH h).2 ++ [(popH h).1] = (dn (swp h 0 (h.length - 1)) 0 (h.length - 1)).1:=by
  unfold popH
  simp only
  rw [getElem!_pos _ _ (by omega)]
  conv=>rhs; rw [← List.take_append_drop (h.length - 1) (dn (swp h 0 (h.length - 1)) 0 (h.length - 1)).1]
  rw [List.drop_eq_getElem_cons (by omega),List.drop_eq_nil_of_le (by omega)]
 have p1:((popH h).1 :: (popH h).2).Perm ((popH h).2 ++ [(popH h).1]):=(List.perm_append_singleton _ _).symm
 rw [e] at p1
 exact p1.trans ((dn_perm _ _ _ (by rw [swp_len]; omega)).trans (swp_perm hpos (by omega)))
theorem popH_len {h:List It} (h0:h ≠ []):(popH h).2.length=h.length - 1:=by
 have:=(popH_perm h0).length_eq
 simp at this; omega
def newH (l:List It):List It:=hini (l.map It.canon) (l.length / 2)
theorem canon_okI {x:It} (h:x.ok):x.canon.ok:=⟨canon_lt h.1,h.2⟩
theorem newH_perm (l:List It):(newH l).Perm (l.map It.canon):=hini_perm _ _
theorem newH_len (l:List It):(newH l).length=l.length:=by have:=(newH_perm l).length_eq; simpa using this
theorem newH_ok {l:List It} (h:∀ x ∈ l,x.ok):∀ x ∈ newH l,x.ok:=by
 intro x hx
 have:=(newH_perm l).mem_iff.1 hx
 obtain ⟨y,hy,rfl⟩:=List.mem_map.1 this
 exact canon_okI (h y hy)
theorem pile_New (l : List It) (hl : l.length < 1000000000000) (hok : ∀ x ∈ l, x.ok) (sg : List (List D)) :
    LL.call n_pile_New [.l .z 2 (l.map eI)] sg sg.length=some (.p sg.length 0,sg ++ [hp (newH l)],sg.length):=by
 generalize hr:newH l=r
 refine wp_call e_pile_New rfl ?_
 simp [F_pile_New]
 refine wc_up l.length (fun i=>⟨[(3,.v (.p sg.length 0)),(8,.v (.l .z 2 (l.map eI))),(9,.v (.i .i64 l.length)),(10,.v (.i .i64 i))],[],sg ++ [hp ((l.take i).map It.canon)],sg.length⟩) (fun _=>True) ?_ ?_ 0 (by omega) trivial
 ·intro i hi _ ih
  have w1:IntKind.i64.wrap ((i:Int) + 1)=((i + 1:Nat):Int):=by rw [wrap64 (by omega)]; omega
  have C1:callpv LL n_pile_Item_Canon [eI l[i]] = some (eI l[i].canon):=callpv_of rfl (c_pile_Item_Canon l[i] (hok _ (List.getElem_mem hi)) [])
  have ih:=ih trivial
  simp at C1
  have hlen:(i + 1:Int) * 16 ≤ 140737488355328:=by omega
  simp [hi,C1,hp,w1]
  refine ⟨by omega,?_⟩
  have e:((l.take (i + 1)).map It.canon).map eI=List.take i (List.map (eI ∘ It.canon) l) ++ [.a [.f .f64 l[i].canon.p,.i .i64 l[i].canon.v]] := by
   simp only [List.map_map,List.map_take]
   rw [List.take_succ_eq_append_getElem (by simpa using hi)]; simp
  simp only [hp,e] at ih
  simpa using ih
 ·intro _
  have hg:sg.length < (sg ++ [hp (l.map It.canon)]).length:=by simp
  have I1:=heap_Init (h:=l.map It.canon) hg (by simpa using hl) (by
   intro x hx
   obtain ⟨y,hy,rfl⟩:=List.mem_map.1 hx
   exact canon_okI (hok y hy))
  simp at I1
  simp [I1]
  rw [← hr]; rfl
theorem pile_Take {g : Nat} {h : List It} {sg : List (List D)} (hg : g < sg.length) (hl : h.length < 1000000000000) (hok : ∀ x ∈ h, x.ok) :
    LL.call n_pile_Pile_Take [.p g 0] (sg.set g (hp h)) (sg.set g (hp h)).length=some (if h=[] then .t [eI ⟨0,0⟩,.b false] else .t [eI (popH h).1,.b true],if h=[] then sg.set g (hp h) else sg.set g (hp (popH h).2),(sg.set g (hp h)).length):=by
 refine wp_call e_pile_Pile_Take rfl ?_
 by_cases h0:h=[]
 ·subst h0
  simp [F_pile_Pile_Take,hg,hp,St.at]
  exact List.take_of_length_le (by simp)
 ·have P1:=heap_Pop hg h0 hl hok
  simp [hp] at P1
  have hpos:=List.length_pos_iff.2 h0
  simp [F_pile_Pile_Take,hg,hp,St.at,h0]
  refine bq_i (fun c=>?_) (fun c=>?_) <;> (have c':=c) <;> simp at c'
  ·exact absurd c' h0
  ·simp [c,P1]
   refine ⟨h0,?_⟩
   rw [if_neg h0]
   exact List.take_of_length_le (by simp)
def allH (h:List It):List It:=if h0:h=[] then [] else (popH h).1 :: allH (popH h).2
termination_by h.length
decreasing_by
 rw [popH_len h0]
 have:=List.length_pos_iff.2 h0
 omega
theorem cps_eI:∀ l:List It,D.cps (l.map eI)=some (l.map eI)
 | [] => rfl
 | x :: l=>by simp [D.cps,D.cp,cps_eI l]
theorem popH_ok {h:List It} (h0:h ≠ []) (hok:∀ x ∈ h,x.ok):(popH h).1.ok ∧ ∀ x ∈ (popH h).2,x.ok :=
 ⟨hok _ ((popH_perm h0).mem_iff.1 (by simp)),fun x hx=>hok _ ((popH_perm h0).mem_iff.1 (by simp [hx]))⟩
theorem pile_All {g : Nat} {h : List It} {sg : List (List D)} (hg : sg[g]? = some (hp h)) (hl : h.length < 1000000000) (hok : ∀ x ∈ h, x.ok) :
    LL.call n_pile_Pile_All [.p g 0] sg sg.length=some (.l .o 2 ((allH h).map eI),sg,sg.length):=by
 generalize hr:allH h=r
 refine wp_call e_pile_Pile_All rfl ?_
 have hlt:g < sg.length:=by rw [List.getElem?_eq_some_iff] at hg; exact hg.1
 have hg2:sg[g] = hp h:=by rw [List.getElem?_eq_some_iff] at hg; exact hg.2
 have hc:=cps_eI h
 simp [F_pile_Pile_All,hg2,hp,St.at,hlt,hc]
 refine ⟨by omega,?_⟩
 refine wc_ind (fun a:List It × List It=>⟨[(3,.v (.p sg.length 0)),(4,.v (.l .o 2 (a.2.map eI)))],[],sg ++ [hp a.1],sg.length⟩) (fun a=>a.1.length) (fun a=>a.2 ++ allH a.1=r ∧ a.1.length + a.2.length < 1000000000 ∧ ∀ x ∈ a.1,x.ok) ?_ (h,[]) ⟨by simpa using hr,by simpa using hl,hok⟩
 rintro ⟨h',acc⟩ ⟨p1,p2,p3⟩ ih
 simp only at p1 p2 p3 ih
 have T1:=pile_Take (g:=sg.length) (h:=h') (sg:=sg ++ [hp h']) (by simp) (by omega) p3
 by_cases h0:h'=[]
 ·subst h0
  rw [allH,dif_pos rfl] at p1
  simp at p1 T1
  subst p1
  simp [T1]
 ·rw [allH,dif_neg h0] at p1
  simp [h0] at T1
  have:=popH_len h0
  have hpos:=List.length_pos_iff.2 h0
  have ih:=ih ((popH h').2,acc ++ [(popH h').1]) (by simp; omega) ⟨by simpa using p1,by simp; omega,(popH_ok h0 p3).2⟩
  simp [T1]
  exact ⟨by omega,by simpa using ih⟩
theorem c_pile_Sorted (l : List It) (hl : l.length < 1000000000) (hok : ∀ x ∈ l, x.ok) (sg : List (List D)) :
    LL.call n_pile_Sorted [.l .z 2 (l.map eI)] sg sg.length=some (.l .o 2 ((allH (newH l)).map eI),sg,sg.length):=by
 have N1:=pile_New l (by omega) hok sg
 have A1:=pile_All (g:=sg.length) (h:=newH l) (sg:=sg ++ [hp (newH l)]) (by simp) (by rw [newH_len]; exact hl) (newH_ok hok)
 refine wp_call e_pile_Sorted rfl ?_
 simp at N1 A1
 simp [F_pile_Sorted,N1,A1]
end Go.AM

namespace Go.AM
abbrev leI (a b:It):Prop:=¬ ltI b a
theorem leI_refl (a:It):leI a a:=by unfold leI ltI; omega
theorem leI_trans {a b c:It} (h1:leI a b) (h2:leI b c):leI a c:=ltI_trans' h1 h2
theorem leI_of_lt {a b:It} (h:ltI a b):leI a b:=by unfold leI ltI at *; omega
theorem swp_get {h:List It} {i j:Nat} (hi:i < h.length) (hj:j < h.length) (k:Nat):(swp h i j)[k]! = if k=j then h[i]! else if k=i then h[j]! else h[k]! := by
 unfold swp
 simp only [List.getElem!_eq_getElem?_getD,List.getElem?_set,List.length_set]
 by_cases e:j=k
 ·subst e; simp [hj]
 ·rw [if_neg e,if_neg (Ne.symm e)]
  by_cases e2:i=k
  ·subst e2; simp [hi]
  ·rw [if_neg e2,if_neg (Ne.symm e2)]
def HP (h:List It) (s n:Nat):Prop:=∀ j,1 ≤ j → j < n → s ≤ (j - 1) / 2 → leI h[(j - 1) / 2]! h[j]!
def PreH (h:List It) (i s n:Nat):Prop:=s ≤ i ∧ (∀ j,1 ≤ j → j < n → s ≤ (j - 1) / 2 → (j - 1) / 2 ≠ i → leI h[(j - 1) / 2]! h[j]!) ∧
 (1 ≤ i → s ≤ (i - 1) / 2 → ∀ c,(c - 1) / 2=i → 1 ≤ c → c < n → leI h[(i - 1) / 2]! h[c]!)
theorem pre_swp {h : List It} {i s n c : Nat} (hn : n ≤ h.length) (hp : PreH h i s n) (hc : c = 2 * i + 1 ∨ c = 2 * i + 2) (hcn : c < n) (hlt : ltI h[c]! h[i]!)
    (hsib:∀ d,(d=2 * i + 1 ∨ d=2 * i + 2) → d < n → leI h[c]! h[d]!):PreH (swp h i c) c s n:=by
 obtain ⟨h1,h2,h3⟩:=hp
 have hi:i < h.length:=by omega
 have hcl:c < h.length:=by omega
 refine ⟨by omega,fun j j1 j2 j3 j4=>?_,fun _ _ d d1 d2 d3=>?_⟩
 ·rw [swp_get hi hcl,swp_get hi hcl,if_neg j4]
  by_cases e:j=c
  ·rw [if_pos e,if_pos (by omega)]
   exact leI_of_lt hlt
  ·rw [if_neg e]
   by_cases e2:j=i
   ·rw [if_pos e2,if_neg (by omega)]
    subst e2
    exact h3 j1 j3 c (by omega) (by omega) hcn
   ·rw [if_neg e2]
    by_cases e3:(j - 1) / 2=i
    ·rw [if_pos e3]
     exact hsib j (by omega) j2
    ·rw [if_neg e3]
     exact h2 j j1 j2 j3 e3
 ·rw [swp_get hi hcl,swp_get hi hcl,if_neg (by omega),if_pos (by omega),if_neg (by omega),if_neg (by omega)]
  have:=h2 d d2 d3 (by omega) (by omega)
  rw [d1] at this; exact this
theorem hp_stop {h:List It} {i s n:Nat} (hp:PreH h i s n) (hle:∀ d,(d=2 * i + 1 ∨ d=2 * i + 2) → d < n → leI h[i]! h[d]!):HP h s n:=by
 intro j j1 j2 j3
 by_cases e:(j - 1) / 2=i
 ·rw [e]; exact hle j (by omega) j2
 ·exact hp.2.1 j j1 j2 j3 e
theorem dn_hp {h:List It} {i n s:Nat} (hn:n ≤ h.length) (hp:PreH h i s n):HP (dn h i n).1 s n:=by
 fun_induction dn h i n with
 | case1 h i h1 h2 h3 ih =>
  refine ih (by rw [swp_len]; exact hn) (pre_swp hn hp (.inr rfl) h2.1 ((cmpI_lt _ _).1 h3) ?_)
  rintro d (rfl | rfl) hd
  ·exact leI_of_lt ((cmpI_lt _ _).1 h2.2)
  ·exact leI_refl _
 | case2 h i h1 h2 h3 =>
  refine hp_stop hp ?_
  have e3:leI h[i]! h[2 * i + 2]! := (cmpI_ge _ _).1 (by omega)
  rintro d (rfl | rfl) hd
  ·exact leI_trans e3 (leI_of_lt ((cmpI_lt _ _).1 h2.2))
  ·exact e3
 | case3 h i h1 h2 h3 ih =>
  refine ih (by rw [swp_len]; exact hn) (pre_swp hn hp (.inl rfl) h1 ((cmpI_lt _ _).1 h3) ?_)
  rintro d (rfl | rfl) hd
  ·exact leI_refl _
  ·exact (cmpI_ge _ _).1 (Int.not_lt.1 (fun e=>h2 ⟨hd,e⟩))
 | case4 h i h1 h2 h3 =>
  refine hp_stop hp ?_
  have e3:leI h[i]! h[2 * i + 1]! := (cmpI_ge _ _).1 (by omega)
  rintro d (rfl | rfl) hd
  ·exact e3
  ·exact leI_trans e3 ((cmpI_ge _ _).1 (Int.not_lt.1 (fun e=>h2 ⟨hd,e⟩)))
 | case5 h i h1 =>
  refine hp_stop hp ?_
  rintro d (rfl | rfl) hd <;> omega
theorem dn_above {h:List It} {i n:Nat} (hn:n ≤ h.length) (k:Nat) (hk:n ≤ k):(dn h i n).1[k]! = h[k]! := by
 fun_induction dn h i n with
 | case1 h i h1 h2 h3 ih=>rw [ih (by rw [swp_len]; exact hn),swp_get (by omega) (by omega),if_neg (by omega),if_neg (by omega)]
 | case2 h i h1 h2 h3=>rfl
 | case3 h i h1 h2 h3 ih=>rw [ih (by rw [swp_len]; exact hn),swp_get (by omega) (by omega),if_neg (by omega),if_neg (by omega)]
 | case4 h i h1 h2 h3=>rfl
 | case5 h i h1=>rfl
theorem hini_hp:∀ (k:Nat) (h:List It),HP h k h.length → HP (hini h k) 0 h.length
 | 0,h,hp=>hp
 | k + 1,h,hp=>by
  rw [hini]
  have e:=dn_len h k h.length (Nat.le_refl _)
  have:=hini_hp k (dn h k h.length).1 (by
   rw [e]
   refine dn_hp (Nat.le_refl _) ⟨Nat.le_refl _,fun j j1 j2 j3 j4=>hp j j1 j2 (by omega),fun h1 h2=>by omega⟩)
  rw [e] at this; exact this
theorem newH_hp (l:List It):HP (newH l) 0 (newH l).length:=by
 rw [newH_len]
 have:=hini_hp (l.length / 2) (l.map It.canon) (fun j j1 j2 j3=>by simp at j2; omega)
 simpa [newH] using this
theorem hp_min {h:List It} {n:Nat} (hp:HP h 0 n):∀ k,k < n → leI h[0]! h[k]! := by
 intro k
 induction k using Nat.strongRecOn with
 | ind k ih =>
  intro hk
  by_cases e:k=0
  ·subst e; exact leI_refl _
  ·exact leI_trans (ih ((k - 1) / 2) (by omega) (by omega)) (hp k (by omega) hk (Nat.zero_le _))
theorem popH_first {h:List It} (h0:h ≠ []):(popH h).1=h[0]! := by
 have hpos:0 < h.length:=List.length_pos_iff.2 h0
 show (dn (swp h 0 (h.length - 1)) 0 (h.length - 1)).1[h.length - 1]! = _
 rw [dn_above (by rw [swp_len]; omega) _ (Nat.le_refl _),swp_get hpos (by omega),if_pos rfl]
theorem popH_hp {h:List It} (h0:h ≠ []) (hp:HP h 0 h.length):HP (popH h).2 0 (popH h).2.length:=by
 have hpos:0 < h.length:=List.length_pos_iff.2 h0
 rw [popH_len h0]
 have e:HP (dn (swp h 0 (h.length - 1)) 0 (h.length - 1)).1 0 (h.length - 1):=by
  refine dn_hp (by rw [swp_len]; omega) ⟨Nat.le_refl _,fun j j1 j2 j3 j4=>?_,fun h1=>by omega⟩
  rw [swp_get hpos (by omega),swp_get hpos (by omega),if_neg (by omega),if_neg (by omega),if_neg (by omega),if_neg (by omega)]
  exact hp j j1 (by omega) j3
 intro j j1 j2 j3
 have e2:∀ k,k < h.length - 1 → (popH h).2[k]! = (dn (swp h 0 (h.length - 1)) 0 (h.length - 1)).1[k]! := by
  intro k hk
  simp only [popH,List.getElem!_eq_getElem?_getD,List.getElem?_take,if_pos hk]
 rw [e2 _ (by omega),e2 _ j2]
 exact e j j1 j2 j3
theorem allH_perm (h:List It):(allH h).Perm h:=by
 fun_induction allH h with
 | case1=>exact .refl _
 | case2 h h0 ih=>exact (ih.cons _).trans (popH_perm h0)
theorem allH_ordered (h:List It) (hp:HP h 0 h.length):(allH h).Pairwise leI:=by
 fun_induction allH h with
 | case1=>exact .nil
 | case2 h h0 ih =>
  refine List.pairwise_cons.2 ⟨fun y hy=>?_,ih (popH_hp h0 hp)⟩
  have hy2:y ∈ h:=(popH_perm h0).mem_iff.1 (List.mem_cons_of_mem _ ((allH_perm _).mem_iff.1 hy))
  obtain ⟨k,hk,rfl⟩:=List.mem_iff_getElem.1 hy2
  rw [popH_first h0]
  have:=hp_min hp k hk
  rwa [getElem!_pos h k hk] at this
theorem leI_antisymm {a b:It} (ha:a.ok) (hb:b.ok) (ca:a.canon=a) (cb:b.canon=b) (h1:leI a b) (h2:leI b a):a=b:=by
 have:cmpI a b=0:=by
  have e1:=(cmpI_ge a b).2 h2
  have e2:=(cmpI_ge b a).2 h1
  rw [cmpI_swap] at e2
  omega
 have:=(cmpI_zero ha hb).1 this
 rwa [ca,cb] at this
theorem ordered_unique {l m:List It} (hl:∀ x ∈ l,x.ok ∧ x.canon=x) (h1:l.Pairwise leI) (h2:m.Pairwise leI) (hp:l.Perm m):l=m:=by
 refine List.Perm.eq_of_pairwise (le:=leI) (fun a b ha hb e1 e2=>?_) h1 h2 hp
 have hb':=hl b (hp.mem_iff.2 hb)
 have ha':=hl a ha
 exact leI_antisymm ha'.1 hb'.1 ha'.2 hb'.2 e1 e2
theorem allH_sort (l:List It) (hok:∀ x ∈ l,x.ok):allH (newH l)=sortI (l.map It.canon):=by
 refine ordered_unique (fun x hx=>?_) (allH_ordered _ (newH_hp l)) ((ordered_pw _).1 (sortI_ordered _)) ?_
 ·have:=(newH_perm l).mem_iff.1 ((allH_perm _).mem_iff.1 hx)
  obtain ⟨y,hy,rfl⟩:=List.mem_map.1 this
  exact ⟨canon_okI (hok y hy),by simp [It.canon,canon_canon]⟩
 ·exact (allH_perm _).trans ((newH_perm l).trans (sortI_perm _).symm)
theorem c_Sorted (l : List It) (hl : l.length < 1000000000) (hok : ∀ x ∈ l, x.ok) (sg : List (List D)) :
    LL.call n_pile_Sorted [.l .z 2 (l.map eI)] sg sg.length=some (.l .o 2 ((sortI (l.map It.canon)).map eI),sg,sg.length):=by
 rw [c_pile_Sorted l hl hok sg,allH_sort l hok]
end Go.AM

namespace Go.AM
structure Vl where
 k:Int
 is:List It
 n:Int
 deriving DecidableEq
def eVl (K:K) (v:Vl):D:=.a [.i .i64 v.k,.l K 2 (v.is.map eI),.i .i64 v.n]
def eVr (K:K) (v:Vl):D:=.a [.i .i64 v.k,.l K 2 (v.is.map eR),.i .i64 v.n]
def valI (x:Im):Vl:=⟨x.k,if x.k=1 then sortI (x.ls.flatten.map It.canon) else x.ls.flatten,x.cs.sum⟩
end Go.AM

namespace Go.AM
def withI (x:It):List It → List It
 | [] => [x]
 | y :: l=>if cmpI x y < 0 then x :: y :: l else y :: withI x l
def withs (l:List It) (o:List It):List It:=l.foldl (fun o x=>withI x o) o
end Go.AM

namespace Go.AM
structure Mem.good (m:Mem):Prop where
 len:m.cs.length ≤ 1000
 ck:m.ck < 1000000000
 it:∀ c ∈ m.cs,c.l.length ≤ 62 ∧ ∀ x ∈ c.l,x.ok
 num:∀ c ∈ m.cs,-1125899906842624 ≤ c.n ∧ c.n ≤ 1125899906842624
 ver:∀ c ∈ m.cs,c.v ≤ m.ck ∧ (c.n ≠ 0 → c.v ≠ 0)
 dis:∀ i j:Nat,∀ c d,m.cs[i]? = some c → m.cs[j]? = some d → c.v=d.v → c.v ≠ 0 → i=j
theorem Mem.good.rd {m:Mem} (h:m.good) (i:Int):(rdM m i).l.length ≤ 62 ∧ (∀ x ∈ (rdM m i).l,x.ok) ∧ (-1125899906842624 ≤ (rdM m i).n ∧ (rdM m i).n ≤ 1125899906842624) ∧ (rdM m i).v ≤ m.ck:=by
 unfold rdM
 split
 ·cases hc:m.cs[i.toNat]? with
  | none=>exact ⟨by simp [zC],by simp [zC],by simp [zC],by simp [zC]⟩
  | some c =>
   have:=List.mem_of_getElem? hc
   exact ⟨(h.it c this).1,(h.it c this).2,h.num c this,(h.ver c this).1⟩
 ·exact ⟨by simp [zC],by simp [zC],by simp [zC],by simp [zC]⟩
theorem Mem.good.ok {m:Mem} (h:m.good):∀ c ∈ m.cs,c.ok:=fun c hc=>by have:=(h.it c hc).1; unfold Cl.ok; omega
def bagM (m:Mem):Nat → List It
 | 0=>[]
 | p + 1=>bagM m p ++ (rdM m p).l
def sumM (m:Mem) (f:Nat):Nat → Int
 | 0=>0
 | p + 1=>sumM m f p + (rdM m ((f + p:Nat):Int)).n
theorem bagM_len {m:Mem} (h:m.good):∀ p,(bagM m p).length ≤ 62 * p
 | 0=>by simp [bagM]
 | p + 1=>by have:=bagM_len h p; have:=(h.rd p).1; simp only [bagM,List.length_append]; omega
theorem bagM_ok {m:Mem} (h:m.good):∀ p,∀ x ∈ bagM m p,x.ok
 | 0=>by simp [bagM]
 | p + 1=>by
  intro x hx
  simp only [bagM,List.mem_append] at hx
  rcases hx with hx | hx
  ·exact bagM_ok h p x hx
  ·exact (h.rd p).2.1 x hx
theorem sumM_rng {m:Mem} (h:m.good) (f:Nat):∀ p:Nat,-1125899906842624 * (p:Int) ≤ sumM m f p ∧ sumM m f p ≤ 1125899906842624 * (p:Int)
 | 0=>by simp [sumM]
 | p + 1=>by
  have:=sumM_rng h f p
  have:=(h.rd ((f + p:Nat):Int)).2.2.1
  simp only [sumM]
  omega
theorem c_value_bag (m : Mem) (hm : m.good) (p : Nat) (hp : p ≤ 16) (sg : List (List D)) (r : Nat) (hr : sg[r]? = some (eMem m)) :
    LL.call n_value_bag [.i .i64 p,.p r 0] sg sg.length=some (.l .o 2 ((sortI ((bagM m p).map It.canon)).map eI),sg,sg.length):=by
 refine wp_call e_value_bag rfl ?_
 simp [F_value_bag]
 refine wc_up p (fun i=>⟨[(1,.v (.p r 0)),(5,.v (.l .o 2 ((bagM m i).map eI))),(7,.v (.i .i64 p)),(8,.v (.i .i64 i))],[],sg,sg.length⟩) (fun _=>True) ?_ ?_ 0 (by omega) trivial
 ·intro i hi _ ih
  have ih:=ih trivial
  have R1:=c_cell_Memory_Read m i sg r hr hm.ok
  have l1:=bagM_len hm i
  have l2:=(hm.rd i).1
  have w1:IntKind.i64.wrap ((i:Int) + 1)=i + 1:=wrap64 (by omega)
  have hap:((bagM m i).length + (rdM m i).l.length) * 16 ≤ 140737488355328:=by omega
  simp [bagM] at ih
  simp [hi,R1,eC,w1,hap]
  simpa using ih
 ·intro _
  have S1:=c_Sorted (bagM m p) (by have:=bagM_len hm p; omega) (bagM_ok hm p) sg
  simp [S1]
theorem c_value_sum (m : Mem) (hm : m.good) (f p : Nat) (hp : p ≤ 16) (hf : f ≤ 1000000) (sg : List (List D)) (r : Nat) (hr : sg[r]? = some (eMem m)) :
    LL.call n_value_sum [.i .i64 f,.i .i64 p,.p r 0] sg sg.length=some (.i .i64 (sumM m f p),sg,sg.length):=by
 refine wp_call e_value_sum rfl ?_
 simp [F_value_sum]
 refine wc_up p (fun i=>⟨[(0,.v (.i .i64 f)),(2,.v (.p r 0)),(7,.v (.i .i64 (sumM m f i))),(9,.v (.i .i64 p)),(10,.v (.i .i64 i))],[],sg,sg.length⟩) (fun _=>True) ?_ ?_ 0 (by omega) trivial
 ·intro i hi _ ih
  have ih:=ih trivial
  have e:((f + i:Nat):Int)=(f:Int) + i:=by omega
  have R1:=c_cell_Memory_Read m ((f + i:Nat):Int) sg r hr hm.ok
  have l1:=sumM_rng hm f i
  have l2:=(hm.rd ((f + i:Nat):Int)).2.2.1
  rw [e] at R1 l2
  have w0:IntKind.i64.wrap ((f:Int) + i)=(f:Int) + i:=wrap64 (by omega)
  have w1:IntKind.i64.wrap ((i:Int) + 1)=i + 1:=wrap64 (by omega)
  have w2:IntKind.i64.wrap (sumM m f i + (rdM m ((f:Int) + i)).n)=sumM m f i + (rdM m ((f:Int) + i)).n:=wrap64 (by omega)
  simp [sumM] at ih
  simp [hi,R1,eC,w0,w1,w2]
  simpa using ih
 ·intro _
  simp
def fullM (m:Mem):List Cl:=(m.cs.drop 2).filter (fun c=>c.n == 1)
def lineM (m:Mem):List It:=((fullM m).mergeSort (fun a b=>decide (a.v ≤ b.v))).flatMap (·.l)
theorem srt_line (xs:List D):LL.srt n_slices_SortFunc_cell_Cell_cell_Cell n_value_line_1 3 xs=srtV xs:=by
 have h:LL.srt n_slices_SortFunc_cell_Cell_cell_Cell n_value_line_1 3 xs=srtL n_slices_SortFunc_cell_Cell_cell_Cell n_value_line_1 3 xs:=rfl
 rw [h]
 unfold srtL
 rw [if_pos ⟨rfl,rfl,rfl⟩]
theorem fullM_nodup {m:Mem} (hm:m.good):((fullM m).map (·.v)).Nodup:=by
 have key:((m.cs.filter (fun c=>c.n == 1)).map (·.v)).Nodup:=by
  have h0:(m.cs.filter (fun c=>c.n == 1)).Pairwise (fun c d=>c.v ≠ d.v):=by
   rw [List.pairwise_filter]
   rw [List.pairwise_iff_getElem]
   intro i j hi hj hij h1 h2 he
   simp only [beq_iff_eq] at h1 h2
   have hv:=(hm.ver m.cs[i] (List.getElem_mem hi)).2 (by omega)
   have:=hm.dis i j _ _ (List.getElem?_eq_getElem hi) (List.getElem?_eq_getElem hj) he hv
   omega
  exact List.pairwise_map.2 h0
 refine List.Sublist.nodup (List.Sublist.map _ ?_) key
 exact (List.drop_sublist 2 m.cs).filter _
theorem mergeV (l:List Cl) (hn:(l.map (·.v)).Nodup) (hb:∀ c ∈ l,c.v < 1000000000) (hl:l.length < 1000000000):srtV (l.map eC)=some ((l.mergeSort (fun a b=>decide (a.v ≤ b.v))).map eC):=by
 have hv:∀ c:Cl,verD (eC c)=c.v:=fun c=>rfl
 unfold srtV
 rw [if_pos]
 ·congr 1
  refine (List.map_mergeSort (f:=eC) (s:=leVer) (fun a _ b _=>?_)).symm
  unfold leVer
  rw [hv,hv]
  simp only [decide_eq_decide]
  omega
 ·refine ⟨?_,?_,by simp; omega⟩
  ·rw [List.all_eq_true]
   intro d hd
   obtain ⟨c,hc,rfl⟩:=List.mem_map.1 hd
   have:=hb c hc
   unfold okV
   rw [hv]
   simp
   omega
  ·rw [List.map_map]
   have:(l.map (verD ∘ eC))=(l.map (·.v)).map (fun n:Nat=>(n:Int)):=by rw [List.map_map]; rfl
   rw [this]
   exact List.Pairwise.map _ (fun a b h h'=>h (by omega)) hn
def eCz (c:Cl):D:=.a [.i .u64 c.v,.i .i64 c.n,.l .z 2 (c.l.map eI)]
theorem fzs_eC:∀ l:List Cl,D.fzs (l.map eC)=l.map eCz
 | [] => rfl
 | c :: l=>by simp only [List.map_cons,D.fzs,fzs_eC l]; rfl
theorem flat_len62:∀ (l:List Cl),(∀ c ∈ l,c.l.length ≤ 62) → (l.flatMap (·.l)).length ≤ 62 * l.length
 | [],_=>by simp
 | c :: l,h=>by
  have:=flat_len62 l (fun d hd=>h d (by simp [hd]))
  have:=h c (by simp)
  simp only [List.flatMap_cons,List.length_append,List.length_cons]; omega
end Go.AM

namespace Go.AM
theorem call_lib {E:En} {f:FuncId} {ds:List D} {d:D} {sg:List (List D)} (hn:E.fn f=none) (hl:E.lib f ds=some d):(lim E).call f ds sg sg.length=some (d,sg,sg.length) :=
 call_of (by unfold stepCall; simp [hn,hl])
def clnK (l:List It):K:=if l.length=0 then .n else .x
theorem c_slices_Clone (l:List It) (h:l.length ≤ 1000000) (sg):LL.call n_slices_Clone_pile_Item_pile_Item [.l .z 2 (l.map eI)] sg sg.length=some (.l (clnK l) 2 (l.map eI),sg,sg.length):=by
 refine call_lib (by kernel_rfl) ?_
 rw [show EE.lib=libL from rfl]
 have:clnD (l.map eI)=.l (clnK l) 2 (l.map eI):=by
  unfold clnD clnK
  cases l <;> simp
 unfold libL
 rw [if_neg (by decide),if_pos (by decide)]
 simp only [clnL]
 rw [if_pos (by simp; omega),this]
theorem c_slices_Delete (l:List It) (i:Nat) (hi:i < l.length) (sg):LL.call n_slices_Delete_pile_Item_pile_Item [.l .x 2 (l.map eI),.i .i64 i,.i .i64 ((i:Int) + 1)] sg sg.length=some (.l .x 2 ((l.eraseIdx i).map eI),sg,sg.length):=by
 refine call_lib (by kernel_rfl) ?_
 rw [show EE.lib=libL from rfl]
 unfold libL
 rw [if_pos (by decide)]
 have e1:((i:Int) + 1).toNat=i + 1:=by omega
 have e2:l.eraseIdx i=l.take i ++ l.drop (i + 1):=List.eraseIdx_eq_take_drop_succ l i
 simp only [delL]
 rw [if_pos ⟨by omega,by omega,by simp; omega⟩,e1,e2]
 simp
end Go.AM

namespace Go.AM
theorem wc_lst {α β : Type} {B : C} {Q : Rs → Prop} {s : St} (l : List α) (st : Nat → β → St) (P : Nat → List α → β → Prop) (b : β) (hs : s = st 0 b) (hb : P 0 l b)
    (h:∀ i x r b (hi:i < l.length),l[i] = x → P i (x :: r) b → (∀ b',P (i + 1) r b' → @WC (.loop B) (st (i + 1) b') ⟨Q⟩ trivial) → @WC B (st i b) ⟨fun r=>@SqQ (.loop B) ⟨Q⟩ r trivial⟩ trivial)
    (he:∀ b,P l.length [] b → @WC B (st l.length b) ⟨fun r=>@SqQ (.loop B) ⟨Q⟩ r trivial⟩ trivial):@WC (.loop B) s ⟨Q⟩ trivial:=by
 rw [hs]
 refine wc_ind (fun a:Nat × β => st a.1 a.2) (fun a=>l.length - a.1) (fun a=>a.1 ≤ l.length ∧ P a.1 (l.drop a.1) a.2) ?_ (0,b) ⟨by simp,by simpa using hb⟩
 rintro ⟨i,b⟩ ⟨h1,h2⟩ ih
 simp only at h1 h2 ih ⊢
 rcases Nat.lt_or_eq_of_le h1 with h3 | h3
 ·rw [List.drop_eq_getElem_cons h3] at h2
  exact h i l[i] _ b h3 rfl h2 (fun b' hb'=>ih (i + 1,b') (by simp; omega) ⟨h3,hb'⟩)
 ·subst h3; rw [List.drop_length] at h2; exact he b h2
theorem c_without_1 (x y : It) (hx : x.ok) (hy : y.ok) (sg) (r : Nat) (hr : sg[r]? = some [.f .f64 x.p, .i .i64 x.v]) :
    LL.call n_value_Value_without_1 [eI y,.p r 0] sg sg.length=some (.b (decide (x.canon=y.canon)),sg,sg.length):=by
 refine wp_call e_value_Value_without_1 rfl ?_
 have h1:=c_pile_Item_Cmp x y hx hy sg
 simp at h1
 simp [F_value_Value_without_1,hr,h1]
 have hz:=cmpI_zero hx hy
 by_cases h:cmpI x y=0
 ·simp [h,hz.1 h]
 ·have h2:¬ x.canon=y.canon:=fun h'=>h (hz.2 h')
  simp [h,h2]
def findI (x:It):List It → Nat → Int
 | [],_=>-1
 | y :: l,i=>if x.canon=y.canon then i else findI x l (i + 1)
theorem c_IndexFunc (x : It) (hx : x.ok) (l : List It) (hl : ∀ y ∈ l, y.ok) (hn : l.length ≤ 1099511627776) (sg) (r : Nat) (hr : sg[r]? = some [.f .f64 x.p, .i .i64 x.v]) :
    LL.call n_slices_IndexFunc_pile_Item_pile_Item [.l .z 2 (l.map eI),.fn n_value_Value_without_1 [.p r 0]] sg sg.length=some (.i .i64 (findI x l 0),sg,sg.length):=by
 generalize hT:findI x l 0=T
 refine wp_call e_slices_IndexFunc_pile_Item_pile_Item rfl ?_
 simp [F_slices_IndexFunc_pile_Item_pile_Item]
 refine wc_lst l (fun i (_:Unit)=>⟨[(0,.v (.l .z 2 (l.map eI))),(1,.v (.fn n_value_Value_without_1 [.p r 0])),(7,.v (.i .i64 l.length)),(8,.v (.i .i64 i))],[],sg,sg.length⟩)
  (fun i rest _=>findI x rest i=T) () (by simp) hT ?_ ?_
 ·rintro i y rest _ hlt hx1 h1 ih
  have hlt':(i:Int) < l.length:=by omega
  have hy:=hl y (by rw [← hx1]; exact List.getElem_mem _)
  have C1:=c_without_1 x y hx hy sg r hr
  have w1:IntKind.i64.wrap ((i:Int) + 1)=i + 1:=wrap64 (by omega)
  simp at C1
  unfold findI at h1
  by_cases hc:x.canon=y.canon
  ·rw [if_pos hc] at h1
   subst h1
   simp [hlt,hlt',hx1,C1,hc]
  ·rw [if_neg hc] at h1
   have ih:=ih () h1
   simp at ih
   simp [hlt,hlt',hx1,C1,hc,w1]
   exact ih
 ·intro _ h1
  simp [findI] at h1
  subst h1
  simp
theorem findI_rng (x:It):∀ (l:List It) (i:Nat),findI x l i=-1 ∨ ∃ j:Nat,findI x l i=((i + j:Nat):Int) ∧ j < l.length
 | [],i=>.inl rfl
 | y :: l,i=>by
  unfold findI
  split
  ·exact .inr ⟨0,by simp,by simp⟩
  ·rcases findI_rng x l (i + 1) with h | ⟨j,h,hj⟩
   ·exact .inl h
   ·exact .inr ⟨j + 1,by rw [h]; omega,by simp; omega⟩
def outI (x:It) (l:List It) (most:Int):Option (List It):=if findI x l 0 < 0 ∨ most ≤ findI x l 0 then none else some (l.eraseIdx (findI x l 0).toNat)
theorem c_value_without (v : Vl) (x : It) (hx : x.ok) (most : Int) (hl : ∀ y ∈ v.is, y.ok) (hn : v.is.length ≤ 1000000) (sg) :
    LL.call n_value_Value_without [eVl .z v,eI x,.i .i64 most] sg sg.length=some (.t [match outI x v.is most with | some l=>eVl .o ⟨v.k,l,v.n⟩ | none=>eVl .z v,.b (outI x v.is most).isSome],sg,sg.length):=by
 generalize hT:outI x v.is most=T
 refine wp_call e_value_Value_without rfl ?_
 have hg:(sg ++ [[D.f .f64 x.p,D.i .i64 x.v]])[sg.length]? = some [.f .f64 x.p,.i .i64 x.v] := by simp
 have I1:=c_IndexFunc x hx v.is hl (by omega) (sg ++ [[.f .f64 x.p,.i .i64 x.v]]) sg.length hg
 have C1:=c_slices_Clone v.is hn (sg ++ [[.f .f64 x.p,.i .i64 x.v]])
 have C2:=c_slices_Clone v.is hn sg
 have hr:=findI_rng x v.is 0
 unfold outI at hT
 generalize findI x v.is 0=f at *
 simp at I1 C1 C2
 by_cases h1:f < 0
 ·rw [if_pos (.inl h1)] at hT
  subst hT
  simp [F_value_Value_without,eVl,I1,h1]
 ·by_cases h2:most ≤ f
  ·rw [if_pos (.inr h2)] at hT
   subst hT
   simp [F_value_Value_without,eVl,I1,h1,h2]
  ·rw [if_neg (by omega)] at hT
   obtain ⟨j,hj,hjl⟩:∃ j:Nat,f=j ∧ j < v.is.length:=by
    rcases hr with h | ⟨j,h,hj⟩
    ·omega
    ·exact ⟨j,by simpa using h,hj⟩
   subst hj
   have hK:clnK v.is=.x:=by unfold clnK; rw [if_neg (by omega)]
   have D1:=fun sg=>c_slices_Delete v.is j hjl sg
   have D1a:=D1 sg
   have D1b:=D1 (sg ++ [[.f .f64 x.p,.i .i64 x.v]])
   have w1:IntKind.i64.wrap ((j:Int) + 1)=j + 1:=wrap64 (by omega)
   simp at D1a D1b hT
   rw [hK] at C1 C2
   subst hT
   simp [F_value_Value_without,eVl,I1,h1,h2,C1,C2,D1a,D1b,w1]
end Go.AM

namespace Go.AM
theorem c_value_line (m : Mem) (hm : m.good) (sg : List (List D)) (r : Nat) (hr : sg[r]? = some (eMem m)) :
    LL.call n_value_line [.p r 0] sg sg.length=some (.l .o 2 ((lineM m).map eI),sg,sg.length):=by
 generalize hT:lineM m=T
 refine wp_call e_value_line rfl ?_
 have hL:=c_cell_Memory_Len m sg r hr
 have hlen:=hm.len
 simp [F_value_line]
 refine wc_upe (m.cs.length - 2) (fun j=>⟨[(0,.v (.p r 0)),(3,.v (.l .x 3 ((((m.cs.drop 2).take j).filter (fun c=>c.n == 1)).map eC))),(4,.v (.i .i64 ((2 + j:Nat):Int)))],[],sg,sg.length⟩) (by simp) ?_ ?_
 ·intro j hj ih
  have hj2:2 + j < m.cs.length:=by omega
  have hj3:(2:Int) + j < m.cs.length:=by omega
  have R1:=c_cell_Memory_Read m ((2 + j:Nat):Int) sg r hr hm.ok
  have hrd:rdM m ((2 + j:Nat):Int)=m.cs[2 + j] := by
   unfold rdM
   rw [if_pos (by omega),show ((2 + j:Nat):Int).toNat=2 + j by omega,List.getElem?_eq_getElem hj2]; rfl
  rw [hrd] at R1
  have hg:(m.cs.drop 2)[j]? = some m.cs[2 + j] := by rw [List.getElem?_drop,List.getElem?_eq_getElem hj2]
  have e:(m.cs.drop 2).take (j + 1)=(m.cs.drop 2).take j ++ [m.cs[2 + j]] := by
   have hjd:j < (m.cs.drop 2).length:=by simp; omega
   rw [List.take_succ_eq_append_getElem hjd]
   congr 2
   rw [List.getElem_drop]
  rw [e,List.filter_append] at ih
  have w1:IntKind.i64.wrap ((2:Int) + j + 1)=2 + j + 1:=wrap64 (by omega)
  have e1:((2 + (j + 1):Nat):Int)=2 + j + 1:=by omega
  have e2:((2 + j:Nat):Int)=2 + j:=by omega
  have hfl:(((m.cs.drop 2).take j).filter (fun c=>c.n == 1)).length ≤ 1000:=by
   have h1:=List.length_filter_le (fun c:Cl=>c.n == 1) ((m.cs.drop 2).take j)
   have h2:((m.cs.drop 2).take j).length ≤ 1000:=by simp; omega
   omega
  rw [e1] at ih
  rw [e2] at R1
  generalize m.cs[2 + j] = c at *
  have hap:((((m.cs.drop 2).take j).filter (fun c=>c.n == 1)).length + 1) * 40 ≤ 140737488355328:=by omega
  obtain ⟨fl,hfl2⟩:∃ fl,fl=((m.cs.drop 2).take j).filter (fun c=>c.n == 1):=⟨_,rfl⟩
  rw [← hfl2] at ih hap ⊢
  by_cases hc:c.n=1
  ·have hc':(c.n == 1)=true:=by simp [hc]
   simp [List.filter,hc'] at ih
   simp [hL,hj3,e2,R1,eC,hc,w1,hap]
   simpa [eC,hc] using ih
  ·have hc':(c.n == 1)=false:=by simp [hc]
   simp [List.filter,hc'] at ih
   simp [hL,hj3,e2,R1,eC,hc',w1]
   simpa using ih
 ·have hend:¬ ((2:Int) + ((m.cs.length - 2:Nat):Int) < m.cs.length):=by omega
  have ht:(m.cs.drop 2).take (m.cs.length - 2)=m.cs.drop 2:=List.take_of_length_le (by simp)
  rw [ht]
  have hfull:(m.cs.drop 2).filter (fun c=>c.n == 1)=fullM m:=rfl
  rw [hfull]
  have hfl:(fullM m).length ≤ 1000:=by
   have h1:=List.length_filter_le (fun c:Cl=>c.n == 1) (m.cs.drop 2)
   have h2:(m.cs.drop 2).length ≤ 1000:=by simp; omega
   unfold fullM; omega
  have hmem:∀ c ∈ fullM m,c ∈ m.cs:=fun c hc=>List.mem_of_mem_drop (List.mem_filter.1 hc).1
  have hck:=hm.ck
  have S:=mergeV (fullM m) (fullM_nodup hm) (fun c hc=>by have:=(hm.ver c (hmem c hc)).1; omega) (by omega)
  rw [← srt_line] at S
  obtain ⟨sl,hsl⟩:∃ sl,sl=(fullM m).mergeSort (fun a b=>decide (a.v ≤ b.v)):=⟨_,rfl⟩
  have hTs:sl.flatMap (·.l)=T:=by rw [hsl,← hT]; rfl
  have hsp:sl.Perm (fullM m):=by rw [hsl]; exact List.mergeSort_perm _ _
  have hsll:=hsp.length_eq
  rw [← hsl] at S
  have hs62:∀ c ∈ sl,c.l.length ≤ 62:=fun c hc=>(hm.it c (hmem c (hsp.mem_iff.1 hc))).1
  have hfl62:=flat_len62 sl hs62
  rw [hTs] at hfl62
  simp [hL,hend,S,hsll,fzs_eC]
  refine wc_lst sl (fun i (out:List It)=>⟨[(6,.v (.l .o 2 (out.map eI))),(28,.v (.l .o 3 (sl.map eCz))),(29,.v (.i .i64 sl.length)),(30,.v (.i .i64 i))],[],sg,sg.length⟩)
   (fun i rest out=>out ++ rest.flatMap (·.l)=T) [] ?_ hTs ?_ ?_
  ·simp [hsll]
  ·rintro i c rest out hi hx h1 ih
   have hi':(i:Int) < sl.length:=by omega
   have w1:IntKind.i64.wrap ((i:Int) + 1)=i + 1:=wrap64 (by omega)
   have ih:=ih (out ++ c.l) (by rw [← h1]; simp)
   have hap:(out.length + c.l.length) * 16 ≤ 140737488355328:=by
    have:=congrArg List.length h1
    simp at this
    omega
   simp at ih
   simp [hi',hi,hx,eCz,w1,hap]
   simpa using ih
  ·rintro out h1
   simp at h1
   subst h1
   simp
def ofM (k:Int) (p:Nat) (m:Mem):Vl :=
 if k=1 then ⟨1,sortI ((bagM m p).map It.canon),0⟩ else if k=2 then ⟨2,lineM m,0⟩ else if k=3 then ⟨3,[],sumM m 0 p⟩ else ⟨4,[],sumM m (gatesN p).length p⟩
theorem legal_width {p:Nat} (h:legal 4 p=0):widthN p:=by
 unfold legal at h
 rw [if_neg (by omega)] at h
 unfold widthN
 split at h
 ·cases h
 ·omega
theorem gates_le (p:Nat) (h:widthN p):(gatesN p).length ≤ 100000:=by
 rcases h with rfl | rfl | rfl | rfl | rfl <;> decide
theorem c_net_Out (p:Nat) (h:widthN p) (i:Nat) (hi:i ≤ 1000000) (sg):LL.call n_net_Net_Out [ePlan .z p,.i .i64 i] sg sg.length=some (.i .i64 ((gatesN p).length + i:Nat),sg,sg.length):=by
 refine wp_call e_net_Net_Out rfl ?_
 have hg:=gates_le p h
 have w1:IntKind.i64.wrap (((gatesN p).length:Int) + i)=(gatesN p).length + i:=wrap64 (by omega)
 simp [F_net_Net_Out,ePlan,w1]
theorem c_value_Of (k p : Int) (m : Mem) (hm : m.good) (sg : List (List D)) (r : Nat) (hr : sg[r]? = some (eMem m)) :
    LL.call n_value_Of [.i .i64 k,.i .i64 p,.p r 0] sg sg.length=some (.t [if legal k p=0 then eVl .o (ofM k p.toNat m) else eVl .o ⟨0,[],0⟩,.i .i64 (legal k p)],sg,sg.length):=by
 refine wp_call e_value_Of rfl ?_
 have L1:=c_op_Legal k p sg
 by_cases hl:legal k p=0
 ·rw [hl] at L1
  have hk:1 ≤ k ∧ k ≤ 4 ∧ 1 ≤ p ∧ p ≤ 16:=by
   unfold legal at hl
   split at hl
   ·cases hl
   ·split at hl
    ·cases hl
    ·omega
  obtain ⟨q,rfl⟩:∃ q:Nat,p=q:=⟨p.toNat,by omega⟩
  have hq:q ≤ 16:=by omega
  have hc:k=1 ∨ k=2 ∨ k=3 ∨ k=4:=by omega
  rcases hc with rfl | rfl | rfl | rfl
  ·have B:=c_value_bag m hm q hq sg r hr
   simp [F_value_Of,L1,B,hl,ofM,eVl]
  ·have B:=c_value_line m hm sg r hr
   simp [F_value_Of,L1,B,hl,ofM,eVl]
  ·have B:=c_value_sum m hm 0 q hq (by omega) sg r hr
   simp at B
   simp [F_value_Of,L1,B,hl,ofM,eVl]
  ·have hw:=legal_width hl
   have N1:=p_net_New q hw
   have O1:=c_net_Out q hw 0 (by omega) sg
   have B:=c_value_sum m hm (gatesN q).length q hq (by have:=gates_le q hw; omega) sg r hr
   simp [ePlan] at N1 O1
   simp [F_value_Of,L1,B,hl,ofM,eVl,N1,O1]
 ·have hl':(legal k p != 0)=true:=by simp [hl]
  simp [F_value_Of,L1,hl,hl',eVl]
end Go.AM

namespace Go.AM
end Go.AM

namespace Go.AM
def opA (k:Int):Int:=2 * k - 1
def opN (k:Int):Int:=if k=4 then 1 else 2
theorem c_op_Of4 (k:Int) (hk:1 ≤ k ∧ k ≤ 4) (sg):LL.call n_op_Of [.i .i64 k] sg sg.length=some (.l .o 1 (if k=4 then [.i .i64 7] else [.i .i64 (2 * k - 1),.i .i64 (2 * k)]),sg,sg.length):=by
 have:k=1 ∨ k=2 ∨ k=3 ∨ k=4:=by omega
 rcases this with rfl | rfl | rfl | rfl
 all_goals
  refine wp_call e_op_Of rfl ?_
  simp [F_op_Of]
theorem c_ref06_Of (k:Int) (hk:1 ≤ k ∧ k ≤ 4) (sg):LL.call n_c_ref06_Of [.i .i64 k] sg sg.length=some (.t [.i .i64 (2 * k - 1),.i .i64 (if k=4 then 7 else 2 * k)],sg,sg.length):=by
 have:k=1 ∨ k=2 ∨ k=3 ∨ k=4:=by omega
 rcases this with rfl | rfl | rfl | rfl
 all_goals
  refine wp_call e_c_ref06_Of rfl ?_
  simp [F_c_ref06_Of]
theorem c_op_Check_ok (k o : Int) (hk : 1 ≤ k ∧ k ≤ 4) (ho : 2 * k - 1 ≤ o ∧ o ≤ if k = 4 then 7 else 2 * k) (p : Nat) (v a b : Int) (hv : o = 5 → 0 ≤ v ∧ v ≤ 4294967296) (sg) :
    LL.call n_op_Op_Check [.a [.i .i64 o,.f .f64 p,.i .i64 v,.i .i64 a,.i .i64 b],.i .i64 k] sg sg.length=some (.i .i64 0,sg,sg.length):=by
 have O:=c_op_Of4 k hk sg
 have w1:IntKind.i64.wrap 1=1:=by decide
 refine wp_call e_op_Op_Check rfl ?_
 have hc:(k=1 ∧ (o=1 ∨ o=2)) ∨ (k=2 ∧ (o=3 ∨ o=4)) ∨ (k=3 ∧ (o=5 ∨ o=6)) ∨ (k=4 ∧ o=7):=by
  have:k=1 ∨ k=2 ∨ k=3 ∨ k=4:=by omega
  rcases this with rfl | rfl | rfl | rfl <;> simp at ho <;> omega
 rcases hc with ⟨rfl,rfl | rfl⟩ | ⟨rfl,rfl | rfl⟩ | ⟨rfl,rfl | rfl⟩ | ⟨rfl,rfl⟩
 all_goals
  simp at O
  simp [F_op_Op_Check,O]
  refine wc_loop ?_
  first
   | (simp; done)
   | (obtain ⟨v1, v2⟩ := hv rfl
      have v1:¬ v < 0:=by omega
      have v2:¬ 4294967296 < v:=by omega
      simp [v1,v2]; done)
   | (simp [w1]
      refine wc_loop ?_
      simp [w1]; done)
end Go.AM

namespace Go.AM
def aftV (v:Vl) (o:Int) (x:It) (ok:Bool) (ai:It) (param:Int):Vl × Bool :=
 if ok=false then (v,decide (o ≤ 4)) else
 if o=1 then (⟨v.k,sortI ((v.is ++ [x]).map It.canon),v.n⟩,true) else
 if o=3 then (⟨v.k,v.is ++ [x.canon],v.n⟩,true) else
 if o=2 then (match outI ai v.is v.is.length with | some l=>(⟨v.k,l,v.n⟩,true) | none=>(v,false)) else
 if o=4 then (match outI ai v.is param with | some l=>(⟨v.k,l,v.n⟩,true) | none=>(v,false)) else
 if o=5 then (⟨v.k,v.is,v.n + x.v⟩,true) else
 if o=7 then (⟨v.k,v.is,v.n + 1⟩,true) else (v,true)
theorem c_value_After (v : Vl) (o : Int) (x : It) (a b : Int) (ok : Bool) (ai : It) (n param : Int) (hk : 1 ≤ v.k ∧ v.k ≤ 4) (ho : 2 * v.k - 1 ≤ o ∧ o ≤ if v.k = 4 then 7 else 2 * v.k) (hv : o = 5 → 0 ≤ x.v ∧ x.v ≤ 4294967296)
    (hx:x.ok) (hai:ai.ok) (hl:∀ y ∈ v.is,y.ok) (hn:v.is.length ≤ 1000) (hvn:0 ≤ v.n ∧ v.n ≤ 1125899906842624) (sg) :
    ∃ K,(K=.z ∨ K=.o) ∧ LL.call n_value_Value_After [eVl .z v,.a [.i .i64 o,.f .f64 x.p,.i .i64 x.v,.i .i64 a,.i .i64 b],.a [.b ok,.f .f64 ai.p,.i .i64 ai.v,.i .i64 n],.i .i64 param] sg sg.length =
     some (.t [eVl K (aftV v o x ok ai param).1,.b (aftV v o x ok ai param).2],sg,sg.length):=by
 have Ck:=c_op_Check_ok v.k o hk ho x.p x.v a b hv sg
 have W1:=c_value_without v ai hai v.is.length hl (by omega) sg
 have W2:=c_value_without v ai hai param hl (by omega) sg
 have Cl:=c_slices_Clone v.is (by omega) sg
 have So:=c_pile_Sorted (v.is ++ [x]) (by simp; omega) (fun y hy=>by
  rcases List.mem_append.1 hy with hy | hy
  ·exact hl y hy
  ·simp at hy; subst hy; exact hx) sg
 rw [allH_sort _ (fun y hy=>by
  rcases List.mem_append.1 hy with hy | hy
  ·exact hl y hy
  ·simp at hy; subst hy; exact hx)] at So
 have Cn:=c_pile_Item_Canon x hx sg
 simp [eVl] at W1 W2 So Cn
 have w5:o=5 → IntKind.i64.wrap (v.n + x.v)=v.n + x.v:=fun h=>wrap64 (by have:=hv h; omega)
 have w7:IntKind.i64.wrap (v.n + 1)=v.n + 1:=wrap64 (by omega)
 cases ok with
 | false =>
  refine ⟨.z,by simp,wp_call e_value_Value_After rfl ?_⟩
  by_cases h4:o ≤ 4
  ·simp [F_value_Value_After,eVl,Ck,aftV,h4]
  ·simp [F_value_Value_After,eVl,Ck,aftV,h4]
 | true =>
  have hc:o=1 ∨ o=2 ∨ o=3 ∨ o=4 ∨ o=5 ∨ o=6 ∨ o=7:=by
   have:v.k=1 ∨ v.k=2 ∨ v.k=3 ∨ v.k=4:=by omega
   rcases this with h | h | h | h <;> simp [h] at ho <;> omega
  rcases hc with rfl | rfl | rfl | rfl | rfl | rfl | rfl
  ·refine ⟨.o,by simp,wp_call e_value_Value_After rfl ?_⟩
   have hap:(v.is.length + 1) * 16 ≤ 140737488355328:=by omega
   unfold clnK at Cl
   by_cases h0:v.is.length=0
   ·have h00:v.is=[] := List.length_eq_zero_iff.1 h0
    simp [h00] at Cl So
    simp [F_value_Value_After,eVl,Ck,Cl,So,aftV,h00]
   ·simp [h0] at Cl
    simp [F_value_Value_After,eVl,Ck,Cl,So,aftV,hap]
  ·cases hO:outI ai v.is v.is.length with
   | none =>
    rw [hO] at W1
    refine ⟨.z,by simp,wp_call e_value_Value_After rfl ?_⟩
    simp at W1
    simp [F_value_Value_After,eVl,Ck,W1,aftV,hO]
   | some l =>
    rw [hO] at W1
    refine ⟨.z,by simp,wp_call e_value_Value_After rfl ?_⟩
    simp at W1
    simp [F_value_Value_After,eVl,Ck,W1,aftV,hO]
  ·refine ⟨.o,by simp,wp_call e_value_Value_After rfl ?_⟩
   have hap:(v.is.length + 1) * 16 ≤ 140737488355328:=by omega
   unfold clnK at Cl
   by_cases h0:v.is.length=0
   ·have h00:v.is=[] := List.length_eq_zero_iff.1 h0
    simp [h00] at Cl
    simp [F_value_Value_After,eVl,Ck,Cl,Cn,aftV,h00]
   ·simp [h0] at Cl
    simp [F_value_Value_After,eVl,Ck,Cl,Cn,aftV,hap]
  ·cases hO:outI ai v.is param with
   | none =>
    rw [hO] at W2
    refine ⟨.z,by simp,wp_call e_value_Value_After rfl ?_⟩
    simp at W2
    simp [F_value_Value_After,eVl,Ck,W2,aftV,hO]
   | some l =>
    rw [hO] at W2
    refine ⟨.z,by simp,wp_call e_value_Value_After rfl ?_⟩
    simp at W2
    simp [F_value_Value_After,eVl,Ck,W2,aftV,hO]
  ·refine ⟨.z,by simp,wp_call e_value_Value_After rfl ?_⟩
   simp [F_value_Value_After,eVl,Ck,aftV,w5 rfl]
  ·refine ⟨.z,by simp,wp_call e_value_Value_After rfl ?_⟩
   simp [F_value_Value_After,eVl,Ck,aftV]
  ·refine ⟨.z,by simp,wp_call e_value_Value_After rfl ?_⟩
   simp [F_value_Value_After,eVl,Ck,aftV,w7]
end Go.AM

namespace Go.AM
end Go.AM

namespace Go.AM
structure Rw where
 k:Int
 x:It
 a:Int
 b:Int
 deriving DecidableEq,Inhabited
def eRw (r:Rw):D:=.a [.i .i64 r.k,.i .u64 r.x.p,.i .i64 r.x.v,.i .i64 r.a,.i .i64 r.b]
def eOp (r:Rw):D:=.a [.i .i64 r.k,.f .f64 r.x.p,.i .i64 r.x.v,.i .i64 r.a,.i .i64 r.b]
instance:Flat eRw:=⟨fun _=>rfl,fun _=>rfl,fun _ _=>rfl⟩
instance:Flat eOp:=⟨fun _=>rfl,fun _=>rfl,fun _ _=>rfl⟩
def Rw.ok (r:Rw):Prop:=r.x.ok ∧ (-9223372036854775808 ≤ r.k ∧ r.k ≤ 9223372036854775807) ∧ (-9223372036854775808 ≤ r.a ∧ r.a ≤ 9223372036854775807) ∧ (-9223372036854775808 ≤ r.b ∧ r.b ≤ 9223372036854775807)
def into (d n:Int):Int:=if n < 1 then 0 else d % n
theorem tmod_emod (d n:Int) (h:1 ≤ n):(if d.tmod n < 0 then d.tmod n + n else d.tmod n)=d % n:=by
 have h0:=Int.emod_nonneg d (show n ≠ 0 by omega)
 have h1:=Int.emod_lt_of_pos d (show 0 < n by omega)
 have e:=@Int.tmod_eq_emod d n
 have hn:(n.natAbs:Int)=n:=by omega
 by_cases hc:0 ≤ d ∨ n ∣ d
 ·rw [if_pos hc] at e
  simp at e
  rw [e,if_neg (by omega)]
 ·rw [if_neg hc,hn] at e
  rw [e,if_pos (by omega)]; omega
theorem into_rng (d n:Int) (h:1 ≤ n):0 ≤ into d n ∧ into d n < n:=by
 unfold into
 rw [if_neg (by omega)]
 exact ⟨Int.emod_nonneg d (by omega),Int.emod_lt_of_pos d (by omega)⟩
theorem c_ref06_Into (d n:Int) (hn:n ≤ 1000000000) (sg):LL.call n_c_ref06_Into [.i .i64 d,.i .i64 n] sg sg.length=some (.i .i64 (into d n),sg,sg.length):=by
 refine wp_call e_c_ref06_Into rfl ?_
 by_cases h:n < 1
 ·simp [F_c_ref06_Into,h,into]
 ·have e:=tmod_emod d n (by omega)
  have h0:=Int.emod_nonneg d (show n ≠ 0 by omega)
  have h1:=Int.emod_lt_of_pos d (show 0 < n by omega)
  have hz:n ≠ 0:=by omega
  by_cases h2:d.tmod n < 0
  ·rw [if_pos h2] at e
   have w1:IntKind.i64.wrap (d.tmod n + n)=d % n:=by rw [e]; exact wrap64 (by omega)
   simp [F_c_ref06_Into,h,into,hz,h2,w1]
  ·rw [if_neg h2] at e
   have h3:¬ d % n < 0:=by omega
   simp [F_c_ref06_Into,h,into,hz,h3,e]
theorem c_op_Into (d n:Int) (hn:n ≤ 1000000000) (sg):LL.call n_op_Into [.i .i64 d,.i .i64 n] sg sg.length=some (.i .i64 (into d n),sg,sg.length):=by
 refine wp_call e_op_Into rfl ?_
 by_cases h:n < 1
 ·have h':n ≤ 0:=by omega
  simp [F_op_Into,h',h,into]
 ·have h':¬ n ≤ 0:=by omega
  have e:=tmod_emod d n (by omega)
  have h0:=Int.emod_nonneg d (show n ≠ 0 by omega)
  have h1:=Int.emod_lt_of_pos d (show 0 < n by omega)
  have hz:n ≠ 0:=by omega
  by_cases h2:d.tmod n < 0
  ·rw [if_pos h2] at e
   have w1:IntKind.i64.wrap (d.tmod n + n)=d % n:=by rw [e]; exact wrap64 (by omega)
   simp [F_op_Into,h',h,into,hz,h2,w1]
  ·rw [if_neg h2] at e
   have h3:¬ d % n < 0:=by omega
   simp [F_op_Into,h',h,into,hz,h3,e]
theorem i64_32 (x:Int):bits .and .i64 x 4294967295=x % 4294967296:=i64_mask 32 (by decide) x
def ownO (kind:Int) (r:Rw):Rw :=
 let k:=opA kind + into r.k (opN kind)
 ⟨k,⟨r.x.p,if k=5 then r.x.v % 4294967296 else r.x.v⟩,r.a,r.b⟩
theorem ownO_rng (kind:Int) (hk:1 ≤ kind ∧ kind ≤ 4) (r:Rw):2 * kind - 1 ≤ (ownO kind r).k ∧ (ownO kind r).k ≤ (if kind=4 then 7 else 2 * kind):=by
 have h:=into_rng r.k (opN kind) (by unfold opN; split <;> omega)
 unfold ownO opA
 unfold opN at h ⊢
 simp only
 split <;> rename_i h4 <;> simp only [h4,if_true,if_false] at h ⊢ <;> omega
theorem ownO_ok {kind:Int} (hk:1 ≤ kind ∧ kind ≤ 4) {r:Rw} (h:r.ok):(ownO kind r).ok ∧ ((ownO kind r).k=5 → 0 ≤ (ownO kind r).x.v ∧ (ownO kind r).x.v ≤ 4294967296):=by
 have hr:=ownO_rng kind hk r
 obtain ⟨⟨h1,h2⟩,h3,h4,h5⟩:=h
 have e:(ownO kind r).x.v=if (ownO kind r).k=5 then r.x.v % 4294967296 else r.x.v:=rfl
 refine ⟨⟨⟨h1,?_⟩,?_,h4,h5⟩,fun h5=>by rw [e,if_pos h5]; omega⟩
 ·rw [e]; split <;> omega
 ·split at hr <;> omega
theorem c_law06_Own (kind:Int) (hk:1 ≤ kind ∧ kind ≤ 4) (r:Rw) (sg):LL.call n_c_law06_Own [.i .i64 kind,eRw r] sg sg.length=some (eOp (ownO kind r),sg,sg.length):=by
 refine wp_call e_c_law06_Own rfl ?_
 have O:=c_ref06_Of kind hk sg
 have I:=c_ref06_Into r.k (opN kind) (by unfold opN; split <;> omega) sg
 have W:=c_law04_Own r.x sg
 have hin:=into_rng r.k (opN kind) (by unfold opN; split <;> omega)
 have hb:1 ≤ opN kind ∧ opN kind ≤ 2:=by unfold opN; split <;> omega
 have e1:IntKind.i64.wrap (IntKind.i64.wrap ((if kind=4 then 7 else 2 * kind) - (2 * kind - 1)) + 1)=opN kind:=by
  unfold opN
  split
  ·rename_i h; subst h; decide
  ·have e0:IntKind.i64.wrap (2 * kind - (2 * kind - 1))=1:=by rw [show 2 * kind - (2 * kind - 1)=1 by omega]; decide
   rw [e0]; decide
 have e2:IntKind.i64.wrap (2 * kind - 1 + into r.k (opN kind))=opA kind + into r.k (opN kind):=by unfold opA; exact wrap64 (by omega)
 simp at W
 simp [F_c_law06_Own,eRw,O,e1,I,W,e2]
 refine bq_i (fun c=>?_) (fun c=>?_) <;> (have c':=c) <;> simp at c'
 ·simp [c,i64_32,eOp,ownO,c']
 ·simp [c,eOp,ownO,c']
structure FrR where
 o:Rw
 pc:Int
 at_:Int
 seen:Int
 seg:Int
 tot:Int
 em:Bool
 v0:Nat
 v1:Nat
 n0:Int
 l0:List It
 n1:Int
 l1:List It
 deriving DecidableEq,Inhabited
def eFrK (K0 K1:K) (f:FrR):D:=.a [.i .i64 f.o.k,.i .u64 f.o.x.p,.i .i64 f.o.x.v,.i .i64 f.o.a,.i .i64 f.o.b,.i .i64 f.pc,.i .i64 f.at_,.i .i64 f.seen,.i .i64 f.seg,.i .i64 f.tot,.b f.em,.i .i64 f.v0,.i .i64 f.v1,
 .i .i64 f.n0,.l K0 2 (f.l0.map eR),.i .i64 f.n1,.l K1 2 (f.l1.map eR)]
def eFr:FrR → D:=eFrK .z .z
def newF (o:Rw):FrR:=⟨⟨o.k,o.x.canon,o.a,o.b⟩,0,0,0,0,0,false,0,0,0,[],0,[]⟩
structure An where
 ok:Bool
 x:It
 n:Int
 deriving DecidableEq,Inhabited
def eAn (a:An):D:=.a [.b a.ok,.f .f64 a.x.p,.i .i64 a.x.v,.i .i64 a.n]
def eAr (a:An):D:=.a [.b a.ok,.i .u64 a.x.p,.i .i64 a.x.v,.i .i64 a.n]
instance:Flat eAn:=⟨fun _=>rfl,fun _=>rfl,fun _ _=>rfl⟩
instance:Flat eAr:=⟨fun _=>rfl,fun _=>rfl,fun _ _=>rfl⟩
end Go.AM

namespace Go.AM
end Go.AM

namespace Go.AM
theorem c_VSame_1 (x y:It) (hx:x.ok) (hy:y.ok) (sg):LL.call n_value_Value_Same_1 [eI x,eI y] sg sg.length=some (.b (decide (x.canon=y.canon)),sg,sg.length):=by
 refine wp_call e_value_Value_Same_1 rfl ?_
 have h1:=c_pile_Item_Cmp x y hx hy sg
 simp at h1
 simp [F_value_Value_Same_1,h1]
 have hz:=cmpI_zero hx hy
 by_cases h:cmpI x y=0
 ·simp [h,hz.1 h]
 ·have h2:¬ x.canon=y.canon:=fun h'=>h (hz.2 h')
  simp [h,h2]
theorem c_VEqual (a b : List It) (hoa : ∀ y ∈ a, y.ok) (hob : ∀ y ∈ b, y.ok) (ha : a.length ≤ 1099511627776) (sg) :
    LL.call n_slices_EqualFunc_pile_Item_pile_Item_pile_Item_pile_Item_1 [.l .z 2 (a.map eI),.l .z 2 (b.map eI),.fn n_value_Value_Same_1 []] sg sg.length=some (.b (decide (a.map It.canon=b.map It.canon)),sg,sg.length):=by
 refine wp_call e_slices_EqualFunc_pile_Item_pile_Item_pile_Item_pile_Item_1 rfl ?_
 by_cases hl:a.length=b.length
 ·have b0:((a.length:Int) != b.length)=false:=by simp; omega
  have hiff:=map_eq_iff It.canon It.canon a b hl
  simp [F_slices_EqualFunc_pile_Item_pile_Item_pile_Item_pile_Item_1,b0]
  refine wc_up a.length (fun i=>⟨[(1,.v (.l .z 2 (b.map eI))),(2,.v (.fn n_value_Value_Same_1 [])),(15,.v (.l .z 2 (a.map eI))),(16,.v (.i .i64 a.length)),(17,.v (.i .i64 i))],[],sg,sg.length⟩) (fun i=>∀ j,j < i → ∀ (h:j < a.length),a[j].canon=(b[j]'(hl ▸ h)).canon) ?_ ?_ 0 (by omega) (by omega)
  ·intro i hi hp ih
   have hib:i < b.length:=by omega
   have hi':(i:Int) < b.length:=by omega
   have hi2:(i:Int) < a.length:=by omega
   have w1:IntKind.i64.wrap ((i:Int) + 1)=i + 1:=wrap64 (by omega)
   have h1:=c_VSame_1 a[i] b[i] (hoa _ (List.getElem_mem _)) (hob _ (List.getElem_mem _)) sg
   simp at h1
   by_cases he:a[i].canon=b[i].canon
   ·simp only [he,decide_true] at h1
    simp [hi',hib,hi,hi2,h1]
    have:=ih (fun j hj h=>by
     by_cases e:j=i
     ·subst e; exact he
     ·exact hp j (by omega) h)
    simpa [w1] using this
   ·simp only [he,decide_false] at h1
    have:¬ a.map It.canon=b.map It.canon:=fun h=>he (hiff.1 h i hi)
    simp [hi',hib,hi,hi2,h1]
    simp [this]
  ·intro hp
   have:a.map It.canon=b.map It.canon:=hiff.2 (fun i h=>hp i h h)
   simp
   simp [this]
 ·have b0:((a.length:Int) != b.length)=true:=by simp; omega
  have:¬ a.map It.canon=b.map It.canon:=fun h=>hl (by have:=congrArg List.length h; simpa using this)
  simp [F_slices_EqualFunc_pile_Item_pile_Item_pile_Item_pile_Item_1,b0]
  simp [this]
theorem c_value_Same (v:Vl) (h:∀ y ∈ v.is,y.ok) (hl:v.is.length ≤ 1099511627776) (sg):LL.call n_value_Value_Same [eVl .z v,eVl .z v] sg sg.length=some (.b true,sg,sg.length):=by
 refine wp_call e_value_Value_Same rfl ?_
 have h1:=c_VEqual v.is v.is h h hl sg
 simp at h1
 simp [F_value_Value_Same,eVl,h1]
end Go.AM

namespace Go.AM
def checkO (k o v:Int):Int:=if k < 1 ∨ 4 < k then 6 else if o < 2 * k - 1 ∨ (if k=4 then 7 else 2 * k) < o then 6 else if o=5 ∧ (v < 0 ∨ 4294967296 < v) then 4 else 0
theorem c_op_OfO (k:Int) (hk:k < 1 ∨ 4 < k) (sg):LL.call n_op_Of [.i .i64 k] sg sg.length=some (.l .o 1 [],sg,sg.length):=by
 refine wp_call e_op_Of rfl ?_
 have h1:(k == 1)=false:=by simp; omega
 have h2:(k == 2)=false:=by simp; omega
 have h3:(k == 3)=false:=by simp; omega
 have h4:(k == 4)=false:=by simp; omega
 simp [F_op_Of,h1,h2,h3,h4]
theorem c_op_Check (k o:Int) (p:Nat) (v a b:Int) (sg):LL.call n_op_Op_Check [.a [.i .i64 o,.f .f64 p,.i .i64 v,.i .i64 a,.i .i64 b],.i .i64 k] sg sg.length=some (.i .i64 (checkO k o v),sg,sg.length):=by
 generalize hr:checkO k o v=r
 refine wp_call e_op_Op_Check rfl ?_
 have w1:IntKind.i64.wrap 1=1:=by decide
 have w2:IntKind.i64.wrap 2=2:=by decide
 by_cases hk:k < 1 ∨ 4 < k
 ·have O:=c_op_OfO k hk sg
  unfold checkO at hr
  rw [if_pos hk] at hr
  subst hr
  simp [F_op_Op_Check,O]
  refine wc_loop ?_
  simp
 ·have O:=c_op_Of4 k (by omega) sg
  unfold checkO at hr
  rw [if_neg hk] at hr
  have hc:k=1 ∨ k=2 ∨ k=3 ∨ k=4:=by omega
  rcases hc with rfl | rfl | rfl | rfl
  all_goals
   simp at O hr
   simp [F_op_Op_Check,O]
   refine wc_loop ?_
   simp [w1]
   refine bq_i (fun h=>?_) (fun h=>?_) <;> (have h':=h) <;> simp at h'
   ·simp [h,w1]
    refine wc_loop ?_
    simp [w1,w2]
    try
     refine bq_i (fun g=>?_) (fun g=>?_) <;> (have g':=g) <;> simp at g'
     ·simp [g,w1,w2]
      refine wc_loop ?_
      simp [w2]
      subst hr
      (repeat' split) <;> first | rfl | omega
     ·simp [g]
      subst hr
      (repeat' split) <;> first | rfl | omega
    try (subst hr; (repeat' split) <;> first | rfl | omega)
   ·simp [h]
    try (repeat' (refine bq_i (fun g=>?_) (fun g=>?_) <;> (have g':=g) <;> (try simp at g') <;> simp [g,g']))
    all_goals (subst hr; (repeat' split) <;> first | rfl | omega)
def sameV (v w:Vl):Prop:=v.k=w.k ∧ v.n=w.n ∧ v.is.map It.canon=w.is.map It.canon
instance (v w:Vl):Decidable (sameV v w):=by unfold sameV; infer_instance
end Go.AM

namespace Go.AM
def cntD (m n i:Nat):Nat:=m / n + if i < m % n then 1 else 0
theorem qr (m n:Nat) (hn:0 < n):∃ q r,m=n * q + r ∧ r < n ∧ m / n=q ∧ m % n=r:=⟨m / n,m % n,(Nat.div_add_mod m n).symm,Nat.mod_lt _ hn,rfl,rfl⟩
def dealO (l:List It) (n m:Nat):List (List It):=(List.range n).map fun i=>(List.range (cntD m n i)).map fun j=>l[i + j * n]!
def dealD (l:List It) (n:Int):List (List It):=if 0 < n then dealO l n.toNat l.length else []
end Go.AM

namespace Go.AM
def evenD (m n:Nat):List Int:=(List.range n).map fun i=>(cntD m n i:Int)
end Go.AM

namespace Go.AM
theorem w_cpy (OO : Or) (m : TypeId → String → Option FuncId) (s : St) (d : Option Nat) (Q : R → St → Ac → Prop) (sz : Nat) (x y : X) : @W1 (evO OO m (.cpy sz x y) s d) ⟨Q⟩ trivial ↔ @O1 _ (rx x s) ⟨fun p => @O1 _ (rxv y p.2) ⟨fun q => match q.1 with
    | .l _ sz' ys=>@O1 _ (hpl p.1) ⟨fun h=>match q.2.at h.1 with
     | some (.l .x sz'' xs)=>(sz'=sz ∧ sz''=sz) ∧ Q (.v (.i .i64 (min ys.length xs.length))) { q.2.setAt h.1 (.l .x sz (ys.take xs.length ++ xs.drop ys.length)) with lo:=q.2.loAt (.l .z sz ys) h.1 } h.1.we
     | _=>False⟩ trivial
    | _=>False⟩ trivial⟩ trivial:=by
 simp only [evO]
 cases rx x s with
 | none=>simp [w1_none,o1_none]
 | some p =>
  obtain ⟨r,s1⟩:=p
  simp only [o1_some]
  cases h2:rxv y s1 with
  | none=>simp [w1_none,o1_none,h2]
  | some q =>
   obtain ⟨v,s2⟩:=q
   simp only [o1_some,h2]
   cases v <;> simp only [w1_none]
   rename_i k sz' ys
   cases h3:hpl r with
   | none=>simp [w1_none,o1_none,h3]
   | some h =>
    obtain ⟨pl,ac⟩:=h
    simp only [o1_some,h3]
    cases h4:s2.at pl with
    | none=>simp [w1_none,h4]
    | some e =>
     cases e <;> (try simp only [h4,w1_none])
     rename_i k2 sz2 xs
     cases k2 <;> simp only [h4,w1_none]
     by_cases h5:sz'=sz ∧ sz2=sz
     ·rw [if_pos h5,w1_some]; simp [h5]
     ·rw [if_neg h5,w1_none]; simp [h5]
attribute [simp ↓] w_cpy
attribute [simp] hpl
def passN:List (Nat × Nat) → List Int → List Int × List Int
 | [],now=>([],now)
 | g :: gs, now => (((now[g.1]?).getD 0 + (now[g.2]?).getD 0) :: (passN gs ((now.set g.1 (((now[g.1]?).getD 0 + (now[g.2]?).getD 0) - ((now[g.1]?).getD 0 + (now[g.2]?).getD 0) / 2)).set g.2 (((now[g.1]?).getD 0 + (now[g.2]?).getD 0) / 2))).1,
     (passN gs ((now.set g.1 (((now[g.1]?).getD 0 + (now[g.2]?).getD 0) - ((now[g.1]?).getD 0 + (now[g.2]?).getD 0) / 2)).set g.2 (((now[g.1]?).getD 0 + (now[g.2]?).getD 0) / 2))).2)
def gateN (now:List Int) (a b:Nat):List Int:=(now.set a (((now[a]?).getD 0 + (now[b]?).getD 0) - ((now[a]?).getD 0 + (now[b]?).getD 0) / 2)).set b (((now[a]?).getD 0 + (now[b]?).getD 0) / 2)
end Go.AM

namespace Go.AM
end Go.AM

namespace Go.AM
end Go.AM

namespace Go.AM
end Go.AM

namespace Go.AM
theorem legal_p {k p:Int} (h:legal k p=0):1 ≤ p ∧ p ≤ 16:=by
 unfold legal at h
 split at h
 ·cases h
 split at h
 ·cases h
 ·omega
end Go.AM

namespace Go.AM
def roomI (p:Int):Int:=998 / max p 1 * max p 1
def sprI (x:Im) (p:Int):Im :=
 if p=x.p then x else if x.k=1 then ⟨x.k,p,x.c,dealD (valI x).is p,x.cs⟩ else if x.k=3 then ⟨x.k,p,x.c,x.ls,evenD x.cs.sum.toNat p.toNat⟩ else ⟨x.k,p,x.c,x.ls,x.cs⟩
def toE (x:Im) (p:Int):Int :=
 if checkI x ≠ 0 then checkI x else if legal x.k p ≠ 0 then legal x.k p else
 if p ≠ x.p ∧ ((x.k=1 ∧ ((valI x).is.length:Int) > p * 62) ∨ (x.k=2 ∧ ((valI x).is.length:Int) > roomI p)) then 3 else 0
end Go.AM

namespace Go.AM
def numsP (l:List Int):List Pt:=l.mapIdx fun i n=>⟨i,n,[]⟩
def slotsP (l:List It):List Pt:=l.mapIdx fun i x=>⟨(i:Int) + 2,1,[x]⟩
def fifoP (p:Int) (l:List It):List Pt:=slotsP l ++ if l.length=0 then [] else [⟨1,((l.length:Int) - 1) / p,[]⟩]
def tokP (p:Nat) (n:Int):List Pt:=numsP ((passN (gatesN p) (evenD n.toNat p)).1 ++ (outsN p).map fun w=>((passN (gatesN p) (evenD n.toNat p)).2[w]?).getD 0)
def layP (x:Im):List Pt :=
 if x.k=1 then x.ls.mapIdx fun i l=>⟨i,0,l⟩ else if x.k=2 then fifoP x.p (x.ls.headD []) else if x.k=3 then numsP x.cs else tokP x.p.toNat (x.cs.headD 0)
def layE (x:Im):Int:=if checkI x ≠ 0 then checkI x else if x.k=2 ∧ ((x.ls.headD []).length:Int) > roomI x.p then 3 else 0
end Go.AM

namespace Go.AM
theorem iav_p (s:St) (sz m g o:Nat) (n:Int):iav s sz (some m) (.v (.p g o)) n=if n < 0 then none else if n < m then some (.v (.p g (o + n.toNat * sz)),.no) else none:=rfl
attribute [simp] iav_p
def eMach (k:Int) (p:Nat):D:=if k=1 then .ic t_multi_Multi (.a [.i .i64 p]) else if k=2 then .ic t_kfifo_Queue (.a [.i .i64 p]) else if k=3 then .ic t_tally_Tally (.a [.i .i64 p]) else .ic t_net_Net (ePlan .z p)
def eFp:Option Nat → D
 | none=>.nilp
 | some r=>.p r 0
structure Eng where
 k:Int
 p:Nat
 m:Nat
 th:List (Option Nat)
 cl:Bool
 st:Nat
 deriving DecidableEq
def eEng (e:Eng):List D:=.i .i64 e.k :: .i .i64 e.p :: .p e.m 0 :: eMach e.k e.p :: (e.th.map eFp ++ [.b e.cl,.i .i64 e.st])
def newE (k:Int) (p m:Nat):Eng:=⟨k,p,m,[none,none,none,none,none,none],false,0⟩
theorem six {α : Type} {l:List α} (h:l.length=6):∃ a b c d e f,l=[a,b,c,d,e,f] := by
 match l,h with
 | [a,b,c,d,e,f],_=>exact ⟨a,b,c,d,e,f,rfl⟩
theorem c_multi_New (p:Int) (sg):LL.call n_multi_New [.i .i64 p] sg sg.length=some (.t [.a [.i .i64 (if legal 1 p=0 then p else 0)],.i .i64 (legal 1 p)],sg,sg.length):=by
 have L:=c_op_Legal 1 p sg
 refine wp_call e_multi_New rfl ?_
 by_cases h:legal 1 p=0
 ·simp [F_multi_New,L,h]
 ·have h':(legal 1 p != 0)=true:=by simp [h]
  simp [F_multi_New,L,h,h']
theorem c_kfifo_NewG (p:Int) (sg):LL.call n_kfifo_New [.i .i64 p] sg sg.length=some (.t [.a [.i .i64 (if legal 2 p=0 then p else 0)],.i .i64 (legal 2 p)],sg,sg.length):=by
 have L:=c_op_Legal 2 p sg
 refine wp_call e_kfifo_New rfl ?_
 by_cases h:legal 2 p=0
 ·simp [F_kfifo_New,L,h]
 ·have h':(legal 2 p != 0)=true:=by simp [h]
  simp [F_kfifo_New,L,h,h']
theorem c_tally_New (p:Int) (sg):LL.call n_tally_New [.i .i64 p] sg sg.length=some (.t [.a [.i .i64 (if legal 3 p=0 then p else 0)],.i .i64 (legal 3 p)],sg,sg.length):=by
 have L:=c_op_Legal 3 p sg
 refine wp_call e_tally_New rfl ?_
 by_cases h:legal 3 p=0
 ·simp [F_tally_New,L,h]
 ·have h':(legal 3 p != 0)=true:=by simp [h]
  simp [F_tally_New,L,h,h']
theorem c_wire_Make_no (p:Int) (h:legal 4 p ≠ 0) (sg):LL.call n_wire_Make [.i .i64 p] sg sg.length=some (.t [.a [.i .i64 0,.l .o 2 [],.l .o 1 []],.i .i64 (legal 4 p)],sg,sg.length):=by
 have L:=c_op_Legal 4 p sg
 refine wp_call e_wire_Make rfl ?_
 have h':(legal 4 p != 0)=true:=by simp [h]
 simp [F_wire_Make,L,h,h']
theorem c_net_New_no (p:Int) (h:legal 4 p ≠ 0) (sg):LL.call n_net_New [.i .i64 p] sg sg.length=some (.t [.a [.i .i64 0,.l .z 2 [],.l .z 1 []],.i .i64 (legal 4 p)],sg,sg.length):=by
 have L:=c_wire_Make_no p h sg
 refine wp_call e_net_New rfl ?_
 simp [F_net_New,L]
theorem c_engine_With (k p : Int) (m : Nat) (sg) : LL.call n_engine_With [.i .i64 k, .i .i64 p, .p m 0] sg sg.length =
    if legal k p=0 then some (.t [.p sg.length 0,.i .i64 0],sg ++ [eEng (newE k p.toNat m)],sg.length) else some (.t [.nilp,.i .i64 (legal k p)],sg,sg.length):=by
 have hM : (∃ ty d, (legal k p = 0 → .ic ty d = eMach k p.toNat) ∧ LL.call n_engine_machine [.i .i64 k, .i .i64 p] sg sg.length = some (.t [.ic ty d, .i .i64 (legal k p)], sg, sg.length)) ∨
     (legal k p ≠ 0 ∧ LL.call n_engine_machine [.i .i64 k,.i .i64 p] sg sg.length=some (.t [.nili,.i .i64 (legal k p)],sg,sg.length)):=by
  by_cases hk:k < 1 ∨ 4 < k
  ·refine .inr ⟨fun h=>?_,wp_call e_engine_machine rfl ?_⟩
   ·unfold legal at h; rw [if_pos (by omega)] at h; cases h
   ·have h0:legal k p=6:=by unfold legal; rw [if_pos (by omega)]
    have h1:(k == 1)=false:=by simp; omega
    have h2:(k == 2)=false:=by simp; omega
    have h3:(k == 3)=false:=by simp; omega
    have h4:(k == 4)=false:=by simp; omega
    simp [F_engine_machine,h0,h1,h2,h3,h4]
  ·have hc:k=1 ∨ k=2 ∨ k=3 ∨ k=4:=by omega
   rcases hc with rfl | rfl | rfl | rfl
   ·refine .inl ⟨t_multi_Multi,.a [.i .i64 (if legal 1 p=0 then p else 0)],fun h=>?_,wp_call e_engine_machine rfl ?_⟩
    ·have:(p.toNat:Int)=p:=by unfold legal at h; split at h; cases h; split at h; cases h; omega
     simp [eMach,h,this]
    ·have N:=c_multi_New p sg
     simp [F_engine_machine,N]
   ·refine .inl ⟨t_kfifo_Queue,.a [.i .i64 (if legal 2 p=0 then p else 0)],fun h=>?_,wp_call e_engine_machine rfl ?_⟩
    ·have:(p.toNat:Int)=p:=by unfold legal at h; split at h; cases h; split at h; cases h; omega
     simp [eMach,h,this]
    ·have N:=c_kfifo_NewG p sg
     simp [F_engine_machine,N]
   ·refine .inl ⟨t_tally_Tally,.a [.i .i64 (if legal 3 p=0 then p else 0)],fun h=>?_,wp_call e_engine_machine rfl ?_⟩
    ·have:(p.toNat:Int)=p:=by unfold legal at h; split at h; cases h; split at h; cases h; omega
     simp [eMach,h,this]
    ·have N:=c_tally_New p sg
     simp [F_engine_machine,N]
   ·by_cases h:legal 4 p=0
    ·have e:(p.toNat:Int)=p:=by unfold legal at h; split at h; cases h; split at h; cases h; omega
     have hw:=legal_width (p:=p.toNat) (by rw [e]; exact h)
     have N:=p_net_New p.toNat hw
     rw [e] at N
     refine .inl ⟨t_net_Net,ePlan .z p.toNat,fun _=>by simp [eMach],wp_call e_engine_machine rfl ?_⟩
     simp [ePlan] at N
     simp [F_engine_machine,N,h,ePlan]
    ·have N:callpv LL n_net_New [.i .i64 p] = some (.t [.a [.i .i64 0,.l .z 2 [],.l .z 1 []],.i .i64 (legal 4 p)]):=callpv_of (by simp) (c_net_New_no p h [])
     refine .inl ⟨t_net_Net,.a [.i .i64 0,.l .z 2 [],.l .z 1 []],fun h'=>absurd h' h,wp_call e_engine_machine rfl ?_⟩
     simp [F_engine_machine,N]
 rcases hM with ⟨ty,d,hd,M⟩ | ⟨h,M⟩
 ·by_cases h:legal k p=0
  ·rw [if_pos h]
   have e:(p.toNat:Int)=p:=by unfold legal at h; split at h; cases h; split at h; cases h; omega
   rw [h] at M
   refine wp_call e_engine_With rfl ?_
   simp [F_engine_With,M,eEng,newE,← hd h,e,eFp]
  ·rw [if_neg h]
   have h':(legal k p != 0)=true:=by simp [h]
   refine wp_call e_engine_With rfl ?_
   simp [F_engine_With,M,h']
 ·rw [if_neg h]
  have h':(legal k p != 0)=true:=by simp [h]
  refine wp_call e_engine_With rfl ?_
  simp [F_engine_With,M,h']
theorem c_engine_New (k p : Int) (sg) : LL.call n_engine_New [.i .i64 k, .i .i64 p] sg sg.length =
    if legal k p=0 then some (.t [.p (sg.length + 1) 0,.i .i64 0],sg ++ [eMem ⟨[],0⟩,eEng (newE k p.toNat sg.length)],sg.length) else some (.t [.nilp,.i .i64 (legal k p)],sg,sg.length):=by
 have N:=c_cell_New sg
 have W:=c_engine_With k p sg.length (sg ++ [eMem ⟨[],0⟩])
 by_cases h:legal k p=0
 ·rw [if_pos h] at W ⊢
  refine wp_call e_engine_New rfl ?_
  simp at W
  simp [F_engine_New,N,W]
 ·rw [if_neg h] at W ⊢
  refine wp_call e_engine_New rfl ?_
  simp at W
  simp [F_engine_New,N,W]
section
variable (e:Eng) (sg:List (List D)) (r:Nat) (hr:sg[r]? = some (eEng e)) (h6:e.th.length=6)
include hr
include h6
theorem c_engine_Steps:LL.call n_engine_Engine_Steps [.p r 0] sg sg.length=some (.i .i64 e.st,sg,sg.length):=by
 refine wp_call e_engine_Engine_Steps rfl ?_
 obtain ⟨k,p,m,th,cl,st⟩:=e
 obtain ⟨a,b,c,d,x,y,rfl⟩:=six h6
 simp [F_engine_Engine_Steps,hr,eEng]
end
theorem cps_eFp:∀ l:List (Option Nat),D.cps (l.map eFp)=some (l.map eFp)
 | [] => rfl
 | none :: l=>by simp only [List.map_cons,D.cps,cps_eFp l]; rfl
 | some _ :: l=>by simp only [List.map_cons,D.cps,cps_eFp l]; rfl
def busyL:List (Option Nat) → Nat → List Nat
 | [],_=>[]
 | none :: r,i=>busyL r (i + 1)
 | some _ :: r,i=>i :: busyL r (i + 1)
theorem c_engine_Busy (e : Eng) (h6 : e.th.length = 6) (sg : List (List D)) (r : Nat) (hr : sg[r]? = some (eEng e)) :
    LL.call n_engine_Engine_Busy [.p r 0] sg sg.length=some (.l .o 1 ((busyL e.th 0).map eN),sg,sg.length):=by
 generalize hT:busyL e.th 0=T
 refine wp_call e_engine_Engine_Busy rfl ?_
 obtain ⟨k,p,m,th,cl,st⟩:=e
 obtain ⟨a,b,c,d,x,y,rfl⟩:=six h6
 have hcell:∀ o:Option Nat,D.cp (eFp o)=some (eFp o):=fun o=>by cases o <;> rfl
 simp [F_engine_Engine_Busy,hr,eEng,hcell]
 obtain ⟨l,hl⟩:∃ l,l=[a,b,c,d,x,y] := ⟨_,rfl⟩
 have hl6:l.length=6:=by rw [hl]; rfl
 simp only [← hl] at hT
 refine wc_lst l (fun i (out:List Nat)=>⟨[(3,.v (.l .o 1 (out.map eN))),(9,.v (.a (l.map eFp))),(10,.v (.i .i64 i))],[],sg,sg.length⟩) (fun i rest out=>out ++ busyL rest i=T ∧ out.length ≤ i) [] ?_ ⟨hT,by simp⟩ ?_ ?_
 ·rw [hl]; simp
 ·rintro i o rest out hi hx1 ⟨h1,h2⟩ ih
  have hi6:(i:Int) < 6:=by omega
  have hi5:i < 6:=by omega
  have w1:IntKind.i64.wrap ((i:Int) + 1)=i + 1:=wrap64 (by omega)
  have hd:List.take 1 (List.drop i (l.map eFp))=[eFp o] := by
   rw [List.drop_eq_getElem_cons (by simpa using hi)]
   simp [hx1]
  have hle:i + 1 ≤ l.length:=by omega
  cases o with
  | none =>
   have ih:=ih out ⟨by simpa [busyL] using h1,by omega⟩
   simp [eFp] at hd
   simp at ih
   simp [hi6,hi5,hd,hle,w1,cps_eFp]
   simpa using ih
  | some q =>
   have ih:=ih (out ++ [i]) ⟨by rw [← h1]; simp [busyL],by simp; omega⟩
   have hap:(out.length + 1) * 8 ≤ 140737488355328:=by omega
   simp [eFp] at hd
   simp [eN] at ih
   simp [hi6,hi5,hd,hle,w1,hap,cps_eFp]
   simpa [eN] using ih
 ·rintro out ⟨h1,h2⟩
  simp [busyL] at h1
  subst h1
  simp [hl6]
def eFrP (f:FrR):List D:=[.i .i64 f.o.k,.f .f64 f.o.x.p,.i .i64 f.o.x.v,.i .i64 f.o.a,.i .i64 f.o.b,.i .i64 f.pc,.i .i64 f.at_,.i .i64 f.seen,.i .i64 f.seg,.i .i64 f.tot,.b f.em,
 .i .u64 f.v0,.i .i64 f.n0,.l .o 2 (f.l0.map eI),.i .u64 f.v1,.i .i64 f.n1,.l .o 2 (f.l1.map eI)]
def begF (o:Rw):FrR:=⟨o,0,0,0,0,0,false,0,0,0,[],0,[]⟩
def begE (e:Eng) (t:Int) (o:Rw):Int:=if t < 0 ∨ 6 ≤ t then 4 else if e.cl then 12 else if checkO e.k o.k o.x.v ≠ 0 then checkO e.k o.k o.x.v else if (e.th[t.toNat]?).join.isSome then 11 else 0
theorem c_engine_Begin (e : Eng) (h6 : e.th.length = 6) (t : Int) (o : Rw) (sg : List (List D)) (r : Nat) (hr : sg[r]? = some (eEng e)) :
    LL.call n_engine_Engine_Begin [.p r 0,.i .i64 t,eOp o] sg sg.length =
     if begE e t o=0 then some (.i .i64 0,sg.set r (eEng { e with th:=e.th.set t.toNat (some sg.length) }) ++ [eFrP (begF o)],r) else some (.i .i64 (begE e t o),sg,sg.length):=by
 generalize hT:begE e t o=T
 have hlt:=get_lt hr
 have C:=c_op_Check e.k o.k o.x.p o.x.v o.a o.b sg
 unfold begE at hT
 obtain ⟨k,p,m,th,cl,st⟩:=e
 obtain ⟨a,b,c,d,x,y,rfl⟩:=six h6
 simp only at hT C
 by_cases h1:t < 0
 ·rw [if_pos (.inl h1)] at hT
  subst hT
  refine wp_call e_engine_Engine_Begin rfl ?_
  simp [F_engine_Engine_Begin,eOp,h1]
 ·by_cases h2:6 ≤ t
  ·rw [if_pos (.inr h2)] at hT
   subst hT
   refine wp_call e_engine_Engine_Begin rfl ?_
   simp [F_engine_Engine_Begin,eOp,h1,h2]
  ·rw [if_neg (by omega)] at hT
   cases cl with
   | true =>
    simp at hT
    subst hT
    refine wp_call e_engine_Engine_Begin rfl ?_
    simp [F_engine_Engine_Begin,eOp,h1,h2,hr,eEng]
   | false =>
    simp at hT
    by_cases h3:checkO k o.k o.x.v=0
    ·rw [if_pos h3] at hT
     rw [h3] at C
     have ht:t=0 ∨ t=1 ∨ t=2 ∨ t=3 ∨ t=4 ∨ t=5:=by omega
     have hmin:min sg.length r=r:=by omega
     have hnl:¬ sg.length ≤ r:=by omega
     obtain ⟨_,hr2⟩:=List.getElem?_eq_some_iff.1 hr
     have happ:∀ z:List D,(sg ++ [z])[r]? = some (eEng ⟨k,p,m,[a,b,c,d,x,y],false,st⟩):=fun z=>by rw [List.getElem?_append_left hlt]; exact hr
     simp [eEng,eFp] at hr2 happ
     rcases ht with rfl | rfl | rfl | rfl | rfl | rfl
     ·cases a
      all_goals
       simp at hT
       subst hT
       refine wp_call e_engine_Engine_Begin rfl ?_
       simp [eFp] at hr2 happ
       simp [F_engine_Engine_Begin,eOp,hr2,happ,eEng,eFp,C,hlt,hmin,hnl,eFrP,begF]
     ·cases b
      all_goals
       simp at hT
       subst hT
       refine wp_call e_engine_Engine_Begin rfl ?_
       simp [eFp] at hr2 happ
       simp [F_engine_Engine_Begin,eOp,hr2,happ,eEng,eFp,C,hlt,hmin,hnl,eFrP,begF]
     ·cases c
      all_goals
       simp at hT
       subst hT
       refine wp_call e_engine_Engine_Begin rfl ?_
       simp [eFp] at hr2 happ
       simp [F_engine_Engine_Begin,eOp,hr2,happ,eEng,eFp,C,hlt,hmin,hnl,eFrP,begF]
     ·cases d
      all_goals
       simp at hT
       subst hT
       refine wp_call e_engine_Engine_Begin rfl ?_
       simp [eFp] at hr2 happ
       simp [F_engine_Engine_Begin,eOp,hr2,happ,eEng,eFp,C,hlt,hmin,hnl,eFrP,begF]
     ·cases x
      all_goals
       simp at hT
       subst hT
       refine wp_call e_engine_Engine_Begin rfl ?_
       simp [eFp] at hr2 happ
       simp [F_engine_Engine_Begin,eOp,hr2,happ,eEng,eFp,C,hlt,hmin,hnl,eFrP,begF]
     ·cases y
      all_goals
       simp at hT
       subst hT
       refine wp_call e_engine_Engine_Begin rfl ?_
       simp [eFp] at hr2 happ
       simp [F_engine_Engine_Begin,eOp,hr2,happ,eEng,eFp,C,hlt,hmin,hnl,eFrP,begF]
    ·rw [if_neg h3] at hT
     have h3':(checkO k o.k o.x.v != 0)=true:=by simp [h3]
     subst hT
     rw [if_neg h3]
     refine wp_call e_engine_Engine_Begin rfl ?_
     simp [F_engine_Engine_Begin,eOp,h1,h2,hr,eEng,C,h3,h3']
end Go.AM

namespace Go.AM
def noA:An:=⟨false,⟨0,0⟩,0⟩
structure So where
 m:Mem
 f:FrR
 a:An
 d:Bool
def tallyP (p:Nat) (M:Mem) (f:FrR):So :=
 if f.o.k=6 then (if f.at_ + 1 < p then ⟨M,{ f with tot:=f.tot + (rdM M f.at_).n,at_:=f.at_ + 1 },noA,false⟩ else ⟨M,{ f with tot:=f.tot + (rdM M f.at_).n,at_:=f.at_ + 1 },⟨true,⟨0,0⟩,f.tot + (rdM M f.at_).n⟩,true⟩)
 else if f.pc=0 then ⟨M,{ f with v0:=(rdM M (into f.o.a p)).v,n0:=(rdM M (into f.o.a p)).n,l0:=(rdM M (into f.o.a p)).l,pc:=1 },noA,false⟩
 else if wrB M (into f.o.a p) f.v0 then ⟨wrM M (into f.o.a p) f.v0 (f.n0 + f.o.x.v) [],f,⟨true,⟨0,0⟩,0⟩,true⟩ else ⟨M,{ f with pc:=0 },noA,false⟩
def after (sg:List (List D)) (m fr:Nat) (s:So):List (List D):=(sg.set m (eMem s.m)).set fr (eFrP s.f)
structure FrR.small (f:FrR):Prop where
 it:f.o.x.ok
 at_:0 ≤ f.at_ ∧ f.at_ ≤ 1000000
 seen:0 ≤ f.seen ∧ f.seen ≤ 1000000
 seg:0 ≤ f.seg ∧ f.seg ≤ 1125899906842624
 tot:-1152921504606846976 ≤ f.tot ∧ f.tot ≤ 1152921504606846976
 n0:-1125899906842624 ≤ f.n0 ∧ f.n0 ≤ 1125899906842624
 n1:-1125899906842624 ≤ f.n1 ∧ f.n1 ≤ 1125899906842624
 l0:f.l0.length ≤ 62 ∧ ∀ x ∈ f.l0,x.ok
 l1:f.l1.length ≤ 62 ∧ ∀ x ∈ f.l1,x.ok
section
variable (p:Nat) (hp:1 ≤ p ∧ p ≤ 16) (M:Mem) (hM:M.good) (f:FrR) (hs:f.small) (sg:List (List D)) (m fr:Nat) (hm:sg[m]? = some (eMem M)) (hf:sg[fr]? = some (eFrP f)) (hne:m ≠ fr)
include hp hM hs hm hf hne
theorem c_tally_sum : LL.call n_tally_Tally_sum [.a [.i .i64 p], .p m 0, .p fr 0] sg sg.length =
    some (.t [eAn (if f.at_ + 1 < p then noA else ⟨true,⟨0,0⟩,f.tot + (rdM M f.at_).n⟩),.b (!decide (f.at_ + 1 < p))],sg.set fr (eFrP { f with tot:=f.tot + (rdM M f.at_).n,at_:=f.at_ + 1 }),sg.length):=by
 refine wp_call e_tally_Tally_sum rfl ?_
 have R:=c_cell_Memory_Read M f.at_ sg m hm hM.ok
 have hlt:=get_lt hf
 have hg:∀ a,(sg.set fr a)[fr]? = some a:=fun a=>List.getElem?_set_self hlt
 have hr:=(hM.rd f.at_).2.2.1
 have h1:=hs.at_
 have h2:=hs.tot
 have w1:IntKind.i64.wrap (f.tot + (rdM M f.at_).n)=f.tot + (rdM M f.at_).n:=wrap64 (by omega)
 have w2:IntKind.i64.wrap (f.at_ + 1)=f.at_ + 1:=wrap64 (by omega)
 have hf':=hf
 simp [eFrP] at hf'
 simp [eC] at R
 by_cases hc:f.at_ + 1 < p
 ·simp [F_tally_Tally_sum,hf',R,hg,w1,w2,hc,eAn,noA,eFrP,take_set]
 ·simp [F_tally_Tally_sum,hf',R,hg,w1,w2,hc,eAn,noA,eFrP,take_set]
theorem c_tally_Step (hv : f.o.k ≠ 6 → 0 ≤ f.o.x.v ∧ f.o.x.v ≤ 4294967296) : LL.call n_tally_Tally_Step [.a [.i .i64 p], .p m 0, .p fr 0] sg sg.length =
    some (.t [eAn (tallyP p M f).a,.b (tallyP p M f).d],after sg m fr (tallyP p M f),sg.length):=by
 generalize hT:tallyP p M f=T
 refine wp_call e_tally_Tally_Step rfl ?_
 have hlt:=get_lt hf
 have hg:∀ a,(sg.set fr a)[fr]? = some a:=fun a=>List.getElem?_set_self hlt
 have hgm:∀ a,(sg.set fr a)[m]? = some (eMem M):=fun a=>by rw [List.getElem?_set_ne (Ne.symm hne)]; exact hm
 have hgf:∀ a,(sg.set m a)[fr]? = some (eFrP f):=fun a=>by rw [List.getElem?_set_ne hne]; exact hf
 have hsm:sg.set m (eMem M)=sg:=set_same hm
 have hsf:sg.set fr (eFrP f)=sg:=set_same hf
 have hsmf:∀ a,(sg.set m a).set fr (eFrP f)=sg.set m a:=fun a=>set_same (hgf a)
 unfold tallyP at hT
 by_cases h6:f.o.k=6
 ·rw [if_pos h6] at hT
  have S:=c_tally_sum p hp M hM f hs sg m fr hm hf hne
  have hf':=hf
  simp [eFrP,h6] at hf'
  by_cases hc:f.at_ + 1 < p
  ·rw [if_pos hc] at hT
   subst hT
   simp [hc,eAn,noA] at S
   simp [F_tally_Tally_Step,hf',S,eAn,noA,after,hsm,take_set]
  ·rw [if_neg hc] at hT
   subst hT
   simp [hc,eAn,noA] at S
   simp [F_tally_Tally_Step,hf',S,eAn,noA,after,hsm,take_set]
 ·rw [if_neg h6] at hT
  have hv:=hv h6
  have h6':(f.o.k == 6)=false:=by simp [h6]
  have I:=c_op_Into f.o.a p (by omega) sg
  have hin:=into_rng f.o.a p (by omega)
  obtain ⟨at_,hat⟩:∃ at_,at_=into f.o.a p:=⟨_,rfl⟩
  rw [← hat] at I hT hin
  have R:=c_cell_Memory_Read M at_ sg m hm hM.ok
  simp [eC] at R
  have hf':=hf
  simp [eFrP] at hf'
  by_cases hc:f.pc=0
  ·rw [if_pos hc] at hT
   subst hT
   simp [F_tally_Tally_Step,hf',h6',I,R,hc,hg,eAn,noA,after,hsm,eFrP,take_set]
  ·rw [if_neg hc] at hT
   have hc':(f.pc == 0)=false:=by simp [hc]
   have h1:=hs.n0
   have w1:IntKind.i64.wrap (f.n0 + f.o.x.v)=f.n0 + f.o.x.v:=wrap64 (by omega)
   have W:=c_cell_Memory_Write M at_ f.v0 (f.n0 + f.o.x.v) [] sg m hm hM.ok (by simp) hM.ck hM.len
   simp at W
   by_cases hw:wrB M at_ f.v0=true
   ·rw [if_pos hw] at hT
    subst hT
    simp [hw] at W
    simp [F_tally_Tally_Step,hf',h6',I,hc',hg,w1,W,eAn,noA,after,hsmf,take_set]
   ·rw [if_neg hw] at hT
    have hw':wrB M at_ f.v0=false:=by simpa using hw
    subst hT
    have hwm:wrM M at_ f.v0 (f.n0 + f.o.x.v) [] = M:=by unfold wrM; rw [if_neg hw]
    rw [hwm] at W
    simp [hw',hsm] at W
    simp [F_tally_Tally_Step,hf',h6',I,hc',hg,w1,W,eAn,noA,after,hsm,eFrP,take_set]
end
end Go.AM

namespace Go.AM
def betP (a b:List It):Int × Bool:=match a,b with
 | [],b=>(1,decide (b ≠ []))
 | x :: _,y :: _=>if cmpI y x < 0 then (1,true) else (0,true)
 | _ :: _,[] => (0,true)
def delW (M:Mem) (f:FrR) (at_:Int) (v:Nat) (l:List It):So :=
 if wrB M at_ v then ⟨wrM M at_ v 0 (allH (popH (newH l)).2),f,⟨true,(popH (newH l)).1,0⟩,true⟩ else ⟨M,{ f with pc:=0 },noA,false⟩
def delP (p:Nat) (M:Mem) (f:FrR):So :=
 if f.pc=0 then ⟨M,{ f with v0:=(rdM M (into f.o.a p)).v,n0:=(rdM M (into f.o.a p)).n,l0:=(rdM M (into f.o.a p)).l,pc:=1 },noA,false⟩
 else if f.pc=1 then ⟨M,{ f with v1:=(rdM M (into f.o.b p)).v,n1:=(rdM M (into f.o.b p)).n,l1:=(rdM M (into f.o.b p)).l,pc:=2,at_:=(betP f.l0 (rdM M (into f.o.b p)).l).1 },noA,!(betP f.l0 (rdM M (into f.o.b p)).l).2⟩
 else if f.at_=0 then delW M f (into f.o.a p) f.v0 f.l0 else delW M f (into f.o.b p) f.v1 f.l1
theorem c_multi_better (f : FrR) (hs : f.small) (sg : List (List D)) (fr : Nat) (hf : sg[fr]? = some (eFrP f)) :
    LL.call n_multi_better [.p fr 0] sg sg.length=some (.t [.i .i64 (betP f.l0 f.l1).1,.b (betP f.l0 f.l1).2],sg,sg.length):=by
 generalize hr:betP f.l0 f.l1=r
 have k0:=hs.l0.2
 have k1:=hs.l1.2
 refine wp_call e_multi_better rfl ?_
 obtain ⟨o,pc,at_,seen,seg,tot,em,v0,v1,n0,l0,n1,l1⟩:=f
 simp [eFrP] at hf
 cases l0 with
 | nil =>
  cases l1 with
  | nil=>simp [betP] at hr; subst hr; simp [F_multi_better,hf]
  | cons y t=>simp [betP] at hr; subst hr; simp [F_multi_better,hf]
 | cons x s =>
  cases l1 with
  | nil =>
   have hl:((s.length:Int) + 1 == 0)=false:=by rw [beq_eq_false_iff_ne]; omega
   simp [betP] at hr; subst hr; simp [F_multi_better,hf,hl]
  | cons y t =>
   have C:=c_pile_Item_Cmp y x (k1 y (by simp)) (k0 x (by simp)) sg
   simp [eI] at C
   have hl:((s.length:Int) + 1 == 0)=false:=by rw [beq_eq_false_iff_ne]; omega
   have hl2:(0:Int) < (t.length:Int) + 1:=by omega
   simp [betP] at hr
   by_cases hc:cmpI y x < 0
   ·simp [hc] at hr; subst hr
    simp [F_multi_better,hf,hl,hl2,C,hc]
   ·simp [hc] at hr; subst hr
    simp [F_multi_better,hf,hl,hl2,C,hc]
def delOK (f:FrR):Prop:=f.pc=0 ∨ f.pc=1 ∨ (f.pc=2 ∧ ((f.at_=0 ∧ f.l0 ≠ []) ∨ (f.at_=1 ∧ f.l1 ≠ [])))
section
variable (p:Nat) (hp:1 ≤ p ∧ p ≤ 16) (M:Mem) (hM:M.good) (f:FrR) (hs:f.small) (sg:List (List D)) (m fr:Nat) (hm:sg[m]? = some (eMem M)) (hf:sg[fr]? = some (eFrP f)) (hne:m ≠ fr)
include hp hM hs hm hf hne
theorem c_multi_delete (hd : delOK f) : LL.call n_multi_Multi_delete [.a [.i .i64 p], .p m 0, .p fr 0] sg sg.length =
    some (.t [eAn (delP p M f).a,.b (delP p M f).d],after sg m fr (delP p M f),sg.length):=by
 generalize hT:delP p M f=T
 refine wp_call e_multi_Multi_delete rfl ?_
 have hlt:=get_lt hf
 have hltm:=get_lt hm
 have hg:∀ a,(sg.set fr a)[fr]? = some a:=fun a=>List.getElem?_set_self hlt
 have hgm:∀ a,(sg.set fr a)[m]? = some (eMem M):=fun a=>by rw [List.getElem?_set_ne (Ne.symm hne)]; exact hm
 have hgf:∀ a,(sg.set m a)[fr]? = some (eFrP f):=fun a=>by rw [List.getElem?_set_ne hne]; exact hf
 have hsm:sg.set m (eMem M)=sg:=set_same hm
 have hsmf:∀ a,(sg.set m a).set fr (eFrP f)=sg.set m a:=fun a=>set_same (hgf a)
 have w1:IntKind.i64.wrap 1=1:=by decide
 have w2:IntKind.i64.wrap 2=2:=by decide
 unfold delP at hT
 rcases hd with hc | hc | ⟨hc,hd⟩
 ·rw [if_pos hc] at hT
  have I:=c_op_Into f.o.a p (by omega) sg
  have R:=c_cell_Memory_Read M (into f.o.a p) sg m hm hM.ok
  simp [eC] at R
  have hf':=hf
  simp [eFrP,hc] at hf'
  subst hT
  simp [F_multi_Multi_delete,hf',w1,w2,I,R,hg,eAn,noA,after,hsm,eFrP,take_set]
 ·rw [if_neg (by omega),if_pos hc] at hT
  have I:=c_op_Into f.o.b p (by omega) sg
  have R:=c_cell_Memory_Read M (into f.o.b p) sg m hm hM.ok
  obtain ⟨c,hcc⟩:∃ c,c=rdM M (into f.o.b p):=⟨_,rfl⟩
  have hrd:=hM.rd (into f.o.b p)
  rw [← hcc] at R hT hrd
  obtain ⟨g,hgg⟩:∃ g,g=({ f with v1:=c.v,n1:=c.n,l1:=c.l,pc:=2 }:FrR):=⟨_,rfl⟩
  have hgs:g.small:=by
   subst hgg
   exact { hs with n1:=hrd.2.2.1,l1:=⟨hrd.1,hrd.2.1⟩ }
  have B:=c_multi_better g hgs (sg.set fr (eFrP g)) fr (hg _)
  simp [eC] at R
  have hf':=hf
  simp [eFrP,hc] at hf'
  subst hT
  simp [hgg,eFrP] at B
  simp [F_multi_Multi_delete,hf',w1,w2,I,R,hg,B,eAn,noA,after,hsm,eFrP,take_set]
 ·rw [if_neg (by omega),if_neg (by omega)] at hT
  rcases hd with ⟨ha,hl⟩ | ⟨ha,hl⟩
  ·have hT:delW M f (into f.o.a p) f.v0 f.l0=T:=by simpa [ha] using hT
   have I:=c_op_Into f.o.a p (by omega) sg
   have l1:=hs.l0.1
   have l2:=hs.l0.2
   have hne0:newH f.l0 ≠ [] := by
    intro h
    have:=newH_len f.l0
    rw [h] at this
    exact hl (List.length_eq_zero_iff.1 this.symm)
   have N:=pile_New f.l0 (by omega) l2 sg
   have K:=pile_Take (g:=sg.length) (h:=newH f.l0) (sg:=sg ++ [AM.hp (newH f.l0)]) (by simp) (by rw [newH_len]; omega) (newH_ok l2)
   have A:=pile_All (g:=sg.length) (h:=(popH (newH f.l0)).2) (sg:=sg ++ [AM.hp (popH (newH f.l0)).2]) (by simp) (by have:=popH_len hne0; have:=newH_len f.l0; omega) (popH_ok hne0 (newH_ok l2)).2
   have W:=c_cell_Memory_Write M (into f.o.a p) f.v0 0 (allH (popH (newH f.l0)).2) (sg ++ [AM.hp (popH (newH f.l0)).2]) m (by rw [List.getElem?_append_left hltm]; exact hm) hM.ok (by have:=(allH_perm (popH (newH f.l0)).2).length_eq; have:=popH_len hne0; have:=newH_len f.l0; omega) hM.ck hM.len
   rw [if_neg hne0,if_neg hne0] at K
   obtain ⟨it,hit⟩:∃ it,it=(popH (newH f.l0)).1:=⟨_,rfl⟩
   obtain ⟨tl,htl⟩:∃ tl,tl=(popH (newH f.l0)).2:=⟨_,rfl⟩
   unfold delW at hT
   rw [← htl] at K A W hT
   rw [← hit] at K hT
   have I2:=c_op_Into f.o.a p (by omega) (sg ++ [AM.hp tl])
   simp [AM.hp] at N K A W I2
   have hf':=hf
   simp [eFrP,hc,ha] at hf'
   have hfa:∀ z:List D,(sg ++ [z])[fr]? = some (eFrP f):=fun z=>by rw [List.getElem?_append_left hlt]; exact hf
   simp [eFrP,hc,ha] at hfa
   have hma:∀ z:List D,(sg ++ [z])[m]? = some (eMem M):=fun z=>by rw [List.getElem?_append_left hltm]; exact hm
   have hsa:∀ z a:List D,(sg ++ [z]).set m a=sg.set m a ++ [z] := fun z a=>by rw [List.set_append_left _ _ hltm]
   have hsb:∀ z a:List D,(sg ++ [z]).set fr a=sg.set fr a ++ [z] := fun z a=>by rw [List.set_append_left _ _ hlt]
   by_cases hw:wrB M (into f.o.a p) f.v0=true
   ·rw [if_pos hw] at hT
    simp [hw,hsa,hsm] at W
    subst hT
    simp [F_multi_Multi_delete,hf',hfa,hma,I,I2,N,K,A,W,eAn,noA,after,hsm,hsmf,hsa,hsb,take_set,AM.hp]
   ·rw [if_neg hw] at hT
    have hw':wrB M (into f.o.a p) f.v0=false:=by simpa using hw
    have hwm:wrM M (into f.o.a p) f.v0 0 (allH tl)=M:=by unfold wrM; rw [if_neg hw]
    rw [hwm] at W
    simp [hw',hsa,hsm] at W
    subst hT
    simp [F_multi_Multi_delete,hf',hfa,hma,I,I2,N,K,A,W,eAn,noA,after,hsm,hsmf,hsa,hsb,take_set,AM.hp,eFrP,hc,ha]
  ·have hT:delW M f (into f.o.b p) f.v1 f.l1=T:=by simpa [ha] using hT
   have I:=c_op_Into f.o.b p (by omega) sg
   have l1:=hs.l1.1
   have l2:=hs.l1.2
   have hne0:newH f.l1 ≠ [] := by
    intro h
    have:=newH_len f.l1
    rw [h] at this
    exact hl (List.length_eq_zero_iff.1 this.symm)
   have N:=pile_New f.l1 (by omega) l2 sg
   have K:=pile_Take (g:=sg.length) (h:=newH f.l1) (sg:=sg ++ [AM.hp (newH f.l1)]) (by simp) (by rw [newH_len]; omega) (newH_ok l2)
   have A:=pile_All (g:=sg.length) (h:=(popH (newH f.l1)).2) (sg:=sg ++ [AM.hp (popH (newH f.l1)).2]) (by simp) (by have:=popH_len hne0; have:=newH_len f.l1; omega) (popH_ok hne0 (newH_ok l2)).2
   have W:=c_cell_Memory_Write M (into f.o.b p) f.v1 0 (allH (popH (newH f.l1)).2) (sg ++ [AM.hp (popH (newH f.l1)).2]) m (by rw [List.getElem?_append_left hltm]; exact hm) hM.ok (by have:=(allH_perm (popH (newH f.l1)).2).length_eq; have:=popH_len hne0; have:=newH_len f.l1; omega) hM.ck hM.len
   rw [if_neg hne0,if_neg hne0] at K
   obtain ⟨it,hit⟩:∃ it,it=(popH (newH f.l1)).1:=⟨_,rfl⟩
   obtain ⟨tl,htl⟩:∃ tl,tl=(popH (newH f.l1)).2:=⟨_,rfl⟩
   unfold delW at hT
   rw [← htl] at K A W hT
   rw [← hit] at K hT
   have I2:=c_op_Into f.o.b p (by omega) (sg ++ [AM.hp tl])
   simp [AM.hp] at N K A W I2
   have hf':=hf
   simp [eFrP,hc,ha] at hf'
   have hfa:∀ z:List D,(sg ++ [z])[fr]? = some (eFrP f):=fun z=>by rw [List.getElem?_append_left hlt]; exact hf
   simp [eFrP,hc,ha] at hfa
   have hma:∀ z:List D,(sg ++ [z])[m]? = some (eMem M):=fun z=>by rw [List.getElem?_append_left hltm]; exact hm
   have hsa:∀ z a:List D,(sg ++ [z]).set m a=sg.set m a ++ [z] := fun z a=>by rw [List.set_append_left _ _ hltm]
   have hsb:∀ z a:List D,(sg ++ [z]).set fr a=sg.set fr a ++ [z] := fun z a=>by rw [List.set_append_left _ _ hlt]
   by_cases hw:wrB M (into f.o.b p) f.v1=true
   ·rw [if_pos hw] at hT
    simp [hw,hsa,hsm] at W
    subst hT
    simp [F_multi_Multi_delete,hf',hfa,hma,I,I2,N,K,A,W,eAn,noA,after,hsm,hsmf,hsa,hsb,take_set,AM.hp]
   ·rw [if_neg hw] at hT
    have hw':wrB M (into f.o.b p) f.v1=false:=by simpa using hw
    have hwm:wrM M (into f.o.b p) f.v1 0 (allH tl)=M:=by unfold wrM; rw [if_neg hw]
    rw [hwm] at W
    simp [hw',hsa,hsm] at W
    subst hT
    simp [F_multi_Multi_delete,hf',hfa,hma,I,I2,N,K,A,W,eAn,noA,after,hsm,hsmf,hsa,hsb,take_set,AM.hp,eFrP,hc,ha]
theorem c_multi_Step_delete (hk : f.o.k ≠ 1) (hd : delOK f) : LL.call n_multi_Multi_Step [.a [.i .i64 p], .p m 0, .p fr 0] sg sg.length =
    some (.t [eAn (delP p M f).a,.b (delP p M f).d],after sg m fr (delP p M f),sg.length):=by
 have D:=c_multi_delete p hp M hM f hs sg m fr hm hf hne hd
 refine wp_call e_multi_Multi_Step rfl ?_
 have hk':(f.o.k == 1)=false:=by simp [hk]
 have hf':=hf
 simp [eFrP] at hf'
 have hl:(after sg m fr (delP p M f)).length=sg.length:=by simp [after]
 simp [eAn] at D
 simp [F_multi_Multi_Step,hf',hk',D,eAn,take_set]
 exact List.take_of_length_le (by omega)
end
end Go.AM

namespace Go.AM
theorem m_Push : EE.meth t_pile_items_u "Push" = some n_pile_items_Push := by kernel_rfl
def upH (h:List It) (j:Nat):List It :=
 if hj:j=0 then h else if cmpI h[j]! h[(j - 1) / 2]! < 0 then upH (swp h ((j - 1) / 2) j) ((j - 1) / 2) else h
termination_by j
theorem upH_perm (h:List It) (j:Nat) (hj:j < h.length):(upH h j).Perm h:=by
 rw [upH]
 split
 ·exact .refl _
 ·split
  ·exact (upH_perm _ _ (by rw [swp_len]; omega)).trans (swp_perm (by omega) hj)
  ·exact .refl _
termination_by j
theorem heap_up {g : Nat} {h : List It} {sg : List (List D)} (hg : g < sg.length) (j : Nat) (hj : j < h.length) (hl : h.length < 1000000000000) (hok : ∀ x ∈ h, x.ok) :
    LL.call n_container_heap_up [.ic t_pile_items_u (.p g 0),.i .i64 j] (sg.set g (hp h)) (sg.set g (hp h)).length=some (.t [],sg.set g (hp (upH h j)),(sg.set g (hp h)).length):=by
 generalize hr:upH h j=r
 refine wp_call e_container_heap_up rfl ?_
 simp [F_container_heap_up]
 refine wc_ind (fun a:List It × Nat=>⟨[(0,.v (.ic t_pile_items_u (.p g 0))),(1,.v (.i .i64 a.2))],[],sg.set g (hp a.1),sg.length⟩) (fun a=>a.2) (fun a=>upH a.1 a.2=r ∧ a.1.length=h.length ∧ (∀ x ∈ a.1,x.ok) ∧ a.2 < h.length) ?_ (h,j) ⟨hr,rfl,hok,hj⟩
 rintro ⟨h',k⟩ ⟨p1,p2,p3,p4⟩ ih
 simp only at p1 p2 p3 p4 ih
 have hge:(sg.set g (hp h'))[g]? = some (hp h'):=by simp [hg]
 have w0:IntKind.i64.wrap ((k:Int) - 1)=k - 1:=wrap64 (by omega)
 obtain ⟨q,hq⟩:∃ q,q=(k - 1) / 2:=⟨_,rfl⟩
 have hd:Int.tdiv ((k:Int) - 1) 2=q:=by
  by_cases h0:k=0
  ·subst h0; subst hq; decide
  ·rw [Int.tdiv_eq_ediv_of_nonneg (by omega)]; omega
 have w1:IntKind.i64.wrap (q:Int)=q:=wrap64 (by omega)
 by_cases h0:k=0
 ·rw [upH,dif_pos h0] at p1
  subst p1
  have hqb:((q:Int) == k)=true:=by rw [beq_iff_eq]; omega
  simp [w0,hd,w1,hqb]
  exact List.take_of_length_le (by simp)
 ·have hqk:¬ (q:Int)=k:=by omega
  have hqb:((q:Int) == k)=false:=by simp; omega
  have hk2:k < h'.length:=by omega
  have hq2:q < h'.length:=by omega
  have L:=c_items_Less hge k q hk2 hq2 (p3 _ (List.getElem_mem hk2)) (p3 _ (List.getElem_mem hq2))
  have S:=c_items_Swap hge q k hq2 hk2
  rw [upH,dif_neg h0,← hq,getElem!_pos h' k hk2,getElem!_pos h' q hq2] at p1
  simp at L S
  by_cases hc:cmpI h'[k] h'[q] < 0
  ·rw [if_pos hc] at p1
   simp [hc] at L
   simp [w0,hd,w1,hqb,L,S]
   have:=ih (swp h' q k,q) (by simp; omega) ⟨p1,by rw [swp_len]; exact p2,fun x hx=>p3 x (swp_mem hq2 hk2 hx),by simp; omega⟩
   simpa using this
  ·rw [if_neg hc] at p1
   subst p1
   simp [hc] at L
   simp [w0,hd,w1,hqb,L]
   exact List.take_of_length_le (by simp)
theorem items_Push {g : Nat} {h : List It} {sg : List (List D)} (hg : g < sg.length) (x : It) (hl : h.length < 1000000000000) :
    LL.call n_pile_items_Push [.p g 0,.ic t_pile_Item (eI x)] (sg.set g (hp h)) (sg.set g (hp h)).length=some (.t [],sg.set g (hp (h ++ [x])),(sg.set g (hp h)).length):=by
 refine wp_call e_pile_items_Push rfl ?_
 have hap:(h.length + 1) * 16 ≤ 140737488355328:=by omega
 simp [F_pile_items_Push,hg,hp,St.at,hap]
 exact List.take_of_length_le (by simp)
theorem heap_Push {g : Nat} {h : List It} {sg : List (List D)} (hg : g < sg.length) (x : It) (hx : x.ok) (hl : h.length < 100000000000) (hok : ∀ x ∈ h, x.ok) :
    LL.call n_container_heap_Push [.ic t_pile_items_u (.p g 0),.ic t_pile_Item (eI x)] (sg.set g (hp h)) (sg.set g (hp h)).length=some (.t [],sg.set g (hp (upH (h ++ [x]) h.length)),(sg.set g (hp h)).length):=by
 have P:=items_Push hg x (h:=h) (by omega)
 have L:=c_items_Len (g:=g) (h:=h ++ [x]) (sg:=sg.set g (hp (h ++ [x]))) (by simp [hg])
 have U:=heap_up hg h.length (h:=h ++ [x]) (by simp) (by simp; omega) (by
  intro y hy
  rcases List.mem_append.1 hy with hy | hy
  ·exact hok y hy
  ·simp at hy; subst hy; exact hx)
 have w1:IntKind.i64.wrap (h.length:Int)=h.length:=wrap64 (by omega)
 refine wp_call e_container_heap_Push rfl ?_
 simp at P L U
 simp [F_container_heap_Push,m_Push,P,L,w1,U]
 exact List.take_of_length_le (by simp)
def putH (h:List It) (x:It):List It:=upH (h ++ [x.canon]) h.length
theorem putH_perm (h:List It) (x:It):(putH h x).Perm (x.canon :: h):=(upH_perm _ _ (by simp)).trans (List.perm_append_singleton _ _)
theorem pile_Put {g : Nat} {h : List It} {sg : List (List D)} (hg : g < sg.length) (x : It) (hx : x.ok) (hl : h.length < 100000000000) (hok : ∀ x ∈ h, x.ok) :
    LL.call n_pile_Pile_Put [.p g 0,eI x] (sg.set g (hp h)) (sg.set g (hp h)).length=some (.t [],sg.set g (hp (putH h x)),(sg.set g (hp h)).length):=by
 have C:=c_pile_Item_Canon x hx (sg.set g (hp h))
 have P:=heap_Push hg x.canon (canon_okI hx) hl hok
 refine wp_call e_pile_Pile_Put rfl ?_
 simp [hp] at C P
 simp [F_pile_Pile_Put,C,P,hg,hp,putH]
 exact List.take_of_length_le (by simp)
end Go.AM

namespace Go.AM
def insP (p:Nat) (M:Mem) (f:FrR):So :=
 if f.pc=0 then ⟨M,{ f with v0:=(rdM M (into f.o.a p)).v,n0:=(rdM M (into f.o.a p)).n,l0:=(rdM M (into f.o.a p)).l,pc:=1 },noA,decide (62 ≤ (rdM M (into f.o.a p)).l.length)⟩
 else if wrB M (into f.o.a p) f.v0 then ⟨wrM M (into f.o.a p) f.v0 0 (allH (putH (newH f.l0) f.o.x)),f,⟨true,f.o.x.canon,0⟩,true⟩
 else ⟨M,{ f with pc:=0 },noA,false⟩
section
variable (p:Nat) (hp:1 ≤ p ∧ p ≤ 16) (M:Mem) (hM:M.good) (f:FrR) (hs:f.small) (sg:List (List D)) (m fr:Nat) (hm:sg[m]? = some (eMem M)) (hf:sg[fr]? = some (eFrP f)) (hne:m ≠ fr)
include hp hM hs hm hf hne
theorem c_multi_insert : LL.call n_multi_Multi_insert [.a [.i .i64 p], .p m 0, .p fr 0] sg sg.length =
    some (.t [eAn (insP p M f).a,.b (insP p M f).d],after sg m fr (insP p M f),sg.length):=by
 generalize hT:insP p M f=T
 refine wp_call e_multi_Multi_insert rfl ?_
 have hlt:=get_lt hf
 have hltm:=get_lt hm
 have hg:∀ a,(sg.set fr a)[fr]? = some a:=fun a=>List.getElem?_set_self hlt
 have hgm:∀ a,(sg.set fr a)[m]? = some (eMem M):=fun a=>by rw [List.getElem?_set_ne (Ne.symm hne)]; exact hm
 have hgf:∀ a,(sg.set m a)[fr]? = some (eFrP f):=fun a=>by rw [List.getElem?_set_ne hne]; exact hf
 have hsm:sg.set m (eMem M)=sg:=set_same hm
 have hsmf:∀ a,(sg.set m a).set fr (eFrP f)=sg.set m a:=fun a=>set_same (hgf a)
 have w1:IntKind.i64.wrap 1=1:=by decide
 have I:=c_op_Into f.o.a p (by omega) sg
 unfold insP at hT
 by_cases hc:f.pc=0
 ·rw [if_pos hc] at hT
  have R:=c_cell_Memory_Read M (into f.o.a p) sg m hm hM.ok
  simp [eC] at R
  have hf':=hf
  simp [eFrP,hc] at hf'
  subst hT
  simp [F_multi_Multi_insert,hf',I,R,hg,eAn,noA,after,hsm,eFrP,take_set]
  omega
 ·rw [if_neg hc] at hT
  have hc':(f.pc == 0)=false:=by simp [hc]
  have l1:=hs.l0.1
  have l2:=hs.l0.2
  have hx:=hs.it
  have hpp:=(putH_perm (newH f.l0) f.o.x).length_eq
  have hpa:=(allH_perm (putH (newH f.l0) f.o.x)).length_eq
  have hnl:=newH_len f.l0
  simp only [List.length_cons] at hpp
  have pok:∀ y ∈ putH (newH f.l0) f.o.x,y.ok:=by
   intro y hy
   rcases List.mem_cons.1 ((putH_perm (newH f.l0) f.o.x).mem_iff.1 hy) with rfl | hy
   ·exact canon_okI hx
   ·exact newH_ok l2 y hy
  have N:=pile_New f.l0 (by omega) l2 sg
  have K:=pile_Put (g:=sg.length) (h:=newH f.l0) (sg:=sg ++ [AM.hp (newH f.l0)]) (by simp) f.o.x hx (by omega) (newH_ok l2)
  have A:=pile_All (g:=sg.length) (h:=putH (newH f.l0) f.o.x) (sg:=sg ++ [AM.hp (putH (newH f.l0) f.o.x)]) (by simp) (by omega) pok
  have W:=c_cell_Memory_Write M (into f.o.a p) f.v0 0 (allH (putH (newH f.l0) f.o.x)) (sg ++ [AM.hp (putH (newH f.l0) f.o.x)]) m (by rw [List.getElem?_append_left hltm]; exact hm) hM.ok (by omega) hM.ck hM.len
  have C:=c_pile_Item_Canon f.o.x hx
  obtain ⟨tl,htl⟩:∃ tl,tl=putH (newH f.l0) f.o.x:=⟨_,rfl⟩
  rw [← htl] at K A W hT
  simp [AM.hp] at N K A W
  have hf':=hf
  simp [eFrP] at hf'
  have hfa:∀ z:List D,(sg ++ [z])[fr]? = some (eFrP f):=fun z=>by rw [List.getElem?_append_left hlt]; exact hf
  simp [eFrP] at hfa
  have hma:∀ z:List D,(sg ++ [z])[m]? = some (eMem M):=fun z=>by rw [List.getElem?_append_left hltm]; exact hm
  have hsa:∀ z a:List D,(sg ++ [z]).set m a=sg.set m a ++ [z] := fun z a=>by rw [List.set_append_left _ _ hltm]
  have hsb:∀ z a:List D,(sg ++ [z]).set fr a=sg.set fr a ++ [z] := fun z a=>by rw [List.set_append_left _ _ hlt]
  have hfm:∀ z a:List D,(sg.set m a ++ [z])[fr]? = some (eFrP f):=fun z a=>by rw [List.getElem?_append_left (by simpa using hlt)]; exact hgf a
  by_cases hw:wrB M (into f.o.a p) f.v0=true
  ·rw [if_pos hw] at hT
   have C:=C (sg.set m (eMem (wrM M (into f.o.a p) f.v0 0 (allH tl))) ++ [[.l .x 2 (tl.map eI)]])
   simp [hw,hsa,hsm] at W C
   simp [eFrP] at hfm
   subst hT
   simp [F_multi_Multi_insert,hf',hfa,hma,hfm,I,hc',N,K,A,W,C,eAn,noA,after,hsm,hsmf,hsa,hsb,take_set,AM.hp]
  ·rw [if_neg hw] at hT
   have hw':wrB M (into f.o.a p) f.v0=false:=by simpa using hw
   have hwm:wrM M (into f.o.a p) f.v0 0 (allH tl)=M:=by unfold wrM; rw [if_neg hw]
   rw [hwm] at W
   simp [hw',hsa,hsm] at W
   subst hT
   simp [F_multi_Multi_insert,hf',hfa,hma,I,hc',N,K,A,W,eAn,noA,after,hsm,hsmf,hsa,hsb,take_set,AM.hp,eFrP]
def multiP (p:Nat) (M:Mem) (f:FrR):So:=if f.o.k=1 then insP p M f else delP p M f
theorem c_multi_Step (hd : f.o.k ≠ 1 → delOK f) : LL.call n_multi_Multi_Step [.a [.i .i64 p], .p m 0, .p fr 0] sg sg.length =
    some (.t [eAn (multiP p M f).a,.b (multiP p M f).d],after sg m fr (multiP p M f),sg.length):=by
 unfold multiP
 by_cases hk:f.o.k=1
 ·rw [if_pos hk]
  have D:=c_multi_insert p hp M hM f hs sg m fr hm hf hne
  refine wp_call e_multi_Multi_Step rfl ?_
  have hf':=hf
  simp [eFrP,hk] at hf'
  have hl:(after sg m fr (insP p M f)).length=sg.length:=by simp [after]
  simp [eAn] at D
  simp [F_multi_Multi_Step,hf',D,eAn,take_set]
  exact List.take_of_length_le (by omega)
 ·rw [if_neg hk]
  exact c_multi_Step_delete p hp M hM f hs sg m fr hm hf hne hk (hd hk)
end
end Go.AM

namespace Go.AM
def gateF (w:Int):List (Nat × Nat) → Nat → Option Nat
 | [],_=>none
 | g :: r,i=>if (g.1:Int)=w ∨ (g.2:Int)=w then some i else gateF w r (i + 1)
def placeF (w:Int):List Nat → Nat → Nat
 | [],_=>0
 | x :: r,i=>if (x:Int)=w then i else placeF w r (i + 1)
theorem gateF_rng (w:Int):∀ (l:List (Nat × Nat)) (i j:Nat),gateF w l i=some j → i ≤ j ∧ j < i + l.length
 | [],i,j,h=>by simp [gateF] at h
 | g :: r,i,j,h=>by
  unfold gateF at h
  split at h
  ·cases h; simp
  ·have:=gateF_rng w r (i + 1) j h; simp; omega
theorem placeF_rng (w:Int):∀ (l:List Nat) (i:Nat),placeF w l i=0 ∨ placeF w l i < i + l.length
 | [],i=>.inl rfl
 | x :: r,i=>by
  unfold placeF
  split
  ·right; simp
  ·rcases placeF_rng w r (i + 1) with h | h
   ·exact .inl h
   ·right; simp; omega
def bumpM (M:Mem) (i:Nat):Mem:=wrM M i (rdM M i).v ((rdM M i).n + 1) []
def netP (p:Nat) (M:Mem) (f0:FrR):So :=
 let f:=if f0.pc=0 then { f0 with pc:=1,at_:=into f0.o.a p } else f0
 match gateF f.at_ ((gatesN p).drop f.seen.toNat) f.seen.toNat with
 | some i=>⟨bumpM M i,{ f with seen:=i + 1,at_:=if (rdM M i).n.tmod 2=1 then ((gatesN p)[i]!.2:Int) else (gatesN p)[i]!.1 },noA,false⟩
 | none=>⟨bumpM M ((gatesN p).length + placeF f.at_ (outsN p) 0),f,⟨true,⟨0,0⟩,placeF f.at_ (outsN p) 0 + p * (rdM M ((gatesN p).length + placeF f.at_ (outsN p) 0:Nat)).n⟩,true⟩
theorem outs_len (p:Nat) (h:widthN p):(outsN p).length=p:=by rcases h with rfl | rfl | rfl | rfl | rfl <;> decide
theorem gates_len (p:Nat) (h:widthN p):(gatesN p).length ≤ 80:=by rcases h with rfl | rfl | rfl | rfl | rfl <;> decide
theorem c_net_gate (p : Nat) (h : widthN p) (s : Nat) (hs : s ≤ 1000000) (w : Int) (sg) : LL.call n_net_Net_gate [ePlan .z p, .i .i64 s, .i .i64 w] sg sg.length =
    some (.t [.i .i64 ((gateF w ((gatesN p).drop s) s).getD 0:Nat),.b (gateF w ((gatesN p).drop s) s).isSome],sg,sg.length):=by
 generalize hT:gateF w ((gatesN p).drop s) s=T
 refine wp_call e_net_Net_gate rfl ?_
 have hg:=gates_len p h
 obtain ⟨gs,hgs⟩:∃ gs,gs=gatesN p:=⟨_,rfl⟩
 have e0:ePlan .z p=.a [.i .i64 p,.l .z 2 (gs.map eG),.l .z 1 ((outsN p).map eN)] := by rw [hgs]; rfl
 rw [e0]
 rw [← hgs] at hT hg
 simp [F_net_Net_gate]
 refine wc_lst (gs.drop s) (fun j (_:Unit)=>⟨[(2,.v (.i .i64 w)),(3,.q (.ptr 3 0)),(8,.v (.i .i64 ((s + j:Nat):Int)))],[(3,[.i .i64 p,.l .z 2 (gs.map eG),.l .z 1 ((outsN p).map eN)])],sg,sg.length⟩)
  (fun j rest _=>gateF w rest (s + j)=T) () ?_ (by simpa using hT) ?_ ?_
 ·simp
 ·rintro j g rest _ hj hx h1 ih
  have hj2:s + j < gs.length:=by simp at hj; omega
  have hj3:(s:Int) + j < gs.length:=by omega
  have hx2:gs[s + j] = g:=by rw [← hx,List.getElem_drop]
  have w1:IntKind.i64.wrap ((s:Int) + j + 1)=s + j + 1:=wrap64 (by omega)
  have e2:((s + (j + 1):Nat):Int)=s + j + 1:=by omega
  have e3:((s:Int) + j).toNat=s + j:=by omega
  have e4:(0:Int) ≤ s + j:=by omega
  unfold gateF at h1
  by_cases h2:(g.1:Int)=w
  ·rw [if_pos (.inl h2)] at h1
   subst h1
   simp [hj3,hj2,hx2,e3,e4,eG,h2]
  ·by_cases h3:(g.2:Int)=w
   ·rw [if_pos (.inr h3)] at h1
    subst h1
    have h2':((g.1:Int) == w)=false:=by simp [h2]
    simp [hj3,hj2,hx2,e3,e4,eG,h2',h3]
   ·rw [if_neg (by simp [h2,h3])] at h1
    have h2':((g.1:Int) == w)=false:=by simp [h2]
    have h3':((g.2:Int) == w)=false:=by simp [h3]
    have ih:=ih () (by rw [← h1]; rfl)
    rw [e2] at ih
    simp [hj3,hj2,hx2,e3,e4,eG,h2',h3',w1]
    simpa using ih
 ·rintro _ h1
  simp [gateF] at h1
  subst h1
  have hend:¬ ((s:Int) + ((gs.length - s:Nat):Int) < gs.length):=by omega
  simp [hend]
theorem c_net_place (p:Nat) (h:widthN p) (w:Int) (sg):LL.call n_net_Net_place [ePlan .z p,.i .i64 w] sg sg.length=some (.i .i64 (placeF w (outsN p) 0:Nat),sg,sg.length):=by
 generalize hT:placeF w (outsN p) 0=T
 refine wp_call e_net_Net_place rfl ?_
 have ho:=outs_len p h
 have hp16:p ≤ 16:=by rcases h with rfl | rfl | rfl | rfl | rfl <;> decide
 obtain ⟨os,hos⟩:∃ os,os=outsN p:=⟨_,rfl⟩
 have e0:ePlan .z p=.a [.i .i64 p,.l .z 2 ((gatesN p).map eG),.l .z 1 (os.map eN)] := by rw [hos]; rfl
 rw [e0]
 rw [← hos] at hT ho
 simp [F_net_Net_place]
 refine wc_lst os (fun j (_:Unit)=>⟨[(1,.v (.i .i64 w)),(9,.v (.l .z 1 (os.map eN))),(10,.v (.i .i64 os.length)),(11,.v (.i .i64 j))],[],sg,sg.length⟩)
  (fun j rest _=>placeF w rest j=T) () ?_ hT ?_ ?_
 ·simp
 ·rintro j x rest _ hj hx h1 ih
  have w1:IntKind.i64.wrap ((j:Int) + 1)=j + 1:=wrap64 (by omega)
  unfold placeF at h1
  by_cases h2:(x:Int)=w
  ·rw [if_pos h2] at h1
   subst h1
   simp [hj,hx,eN,h2]
  ·rw [if_neg h2] at h1
   have h2':((x:Int) == w)=false:=by simp [h2]
   have ih:=ih () h1
   simp at ih
   simp [hj,hx,eN,h2',w1]
   simpa using ih
 ·rintro _ h1
  simp [placeF] at h1
  subst h1
  simp
theorem c_net_bump (M:Mem) (hM:M.good) (i:Nat) (hi:i < 1000) (sg:List (List D)) (m:Nat) (hm:sg[m]? = some (eMem M)):LL.call n_net_bump [.p m 0,.i .i64 i] sg sg.length=some (.i .i64 (rdM M i).n,sg.set m (eMem (bumpM M i)),sg.length):=by
 refine wp_call e_net_bump rfl ?_
 have R:=c_cell_Memory_Read M i sg m hm hM.ok
 have hr:=(hM.rd i).2.2.1
 have W:=c_cell_Memory_Write M i (rdM M i).v ((rdM M i).n + 1) [] sg m hm hM.ok (by simp) hM.ck hM.len
 have w1:IntKind.i64.wrap ((rdM M i).n + 1)=(rdM M i).n + 1:=wrap64 (by omega)
 simp [eC] at R
 simp at W
 simp [F_net_bump,R,w1,W,bumpM,take_set]
theorem gateF_get (w:Int) (l:List (Nat × Nat)) (s i:Nat) (h:gateF w (l.drop s) s=some i):s ≤ i ∧ i < l.length:=by
 have:=gateF_rng w (l.drop s) s i h
 simp at this
 omega
section
variable (p:Nat) (hw:widthN p) (M:Mem) (hM:M.good) (f0:FrR) (hs:f0.small) (sg:List (List D)) (m fr:Nat) (hm:sg[m]? = some (eMem M)) (hf:sg[fr]? = some (eFrP f0)) (hne:m ≠ fr)
include hw hM hs hm hf hne
set_option maxRecDepth 20000 in
set_option maxHeartbeats 2000000 in
theorem c_net_Step : LL.call n_net_Net_Step [ePlan .z p, .p m 0, .p fr 0] sg sg.length =
    some (.t [eAn (netP p M f0).a,.b (netP p M f0).d],after sg m fr (netP p M f0),sg.length):=by
 generalize hT:netP p M f0=T
 refine wp_call e_net_Net_Step rfl ?_
 have hlt:=get_lt hf
 have hltm:=get_lt hm
 have hcm:∀ a b:List D,(sg.set fr a).set m b=(sg.set m b).set fr a:=fun a b=>List.set_comm _ _ (Ne.symm hne)
 have hg:∀ a,(sg.set fr a)[fr]? = some a:=fun a=>List.getElem?_set_self hlt
 have hg2:∀ a b:List D,((sg.set m b).set fr a)[fr]? = some a:=fun a b=>List.getElem?_set_self (by simpa using hlt)
 have hgm:∀ a,(sg.set fr a)[m]? = some (eMem M):=fun a=>by rw [List.getElem?_set_ne (Ne.symm hne)]; exact hm
 have hgf:∀ a,(sg.set m a)[fr]? = some (eFrP f0):=fun a=>by rw [List.getElem?_set_ne hne]; exact hf
 have hsmf:∀ a,(sg.set m a).set fr (eFrP f0)=sg.set m a:=fun a=>set_same (hgf a)
 have htk:∀ a b:List D,List.take sg.length ((sg.set m b).set fr a)=(sg.set m b).set fr a:=fun a b=>List.take_of_length_le (by simp)
 have hp16:p ≤ 16:=by rcases hw with rfl | rfl | rfl | rfl | rfl <;> decide
 have hgl:=gates_len p hw
 have hol:=outs_len p hw
 obtain ⟨seen,hseen⟩:∃ seen:Nat,f0.seen=seen:=⟨f0.seen.toNat,by have:=hs.seen; omega⟩
 have hsn:=hs.seen
 have I:=c_op_Into f0.o.a p (by omega) sg
 have G:=c_net_gate p hw seen (by omega)
 have P:=c_net_place p hw
 have O:=c_net_Out p hw
 have B:=c_net_bump M hM
 have hft:∀ at_:Int,f0.seen.toNat=seen:=fun _=>by omega
 obtain ⟨gs,hgs⟩:∃ gs,gs=gatesN p:=⟨_,rfl⟩
 obtain ⟨os,hos⟩:∃ os,os=outsN p:=⟨_,rfl⟩
 have e0:ePlan .z p=.a [.i .i64 p,.l .z 2 (gs.map eG),.l .z 1 (os.map eN)] := by rw [hgs,hos]; rfl
 rw [e0] at G P O ⊢
 unfold netP at hT
 rw [← hgs] at G O hT hgl
 rw [← hos] at P hT hol
 have leaf : ∀ f : FrR, f.seen = seen → f.o = f0.o → (match gateF f.at_ (gs.drop f.seen.toNat) f.seen.toNat with
     | some i=>(⟨bumpM M i,{ f with seen:=i + 1,at_:=if (rdM M i).n.tmod 2=1 then (gs[i]!.2:Int) else gs[i]!.1 },noA,false⟩:So)
     | none=>⟨bumpM M (gs.length + placeF f.at_ os 0),f,⟨true,⟨0,0⟩,placeF f.at_ os 0 + p * (rdM M (gs.length + placeF f.at_ os 0:Nat)).n⟩,true⟩)=T →
     (∃ i,gateF f.at_ (gs.drop seen) seen=some i ∧ i < gs.length ∧ T=⟨bumpM M i,{ f with seen:=i + 1,at_:=if (rdM M i).n.tmod 2=1 then (gs[i]!.2:Int) else gs[i]!.1 },noA,false⟩) ∨
     (gateF f.at_ (gs.drop seen) seen=none ∧ T=⟨bumpM M (gs.length + placeF f.at_ os 0),f,⟨true,⟨0,0⟩,placeF f.at_ os 0 + p * (rdM M (gs.length + placeF f.at_ os 0:Nat)).n⟩,true⟩):=by
  intro f h1 _ h2
  have e:f.seen.toNat=seen:=by omega
  rw [e] at h2
  cases h:gateF f.at_ (gs.drop seen) seen with
  | some i=>rw [h] at h2; exact .inl ⟨i,rfl,(gateF_get _ _ _ _ h).2,h2.symm⟩
  | none=>rw [h] at h2; exact .inr ⟨rfl,h2.symm⟩
 have hpl:∀ w,placeF w os 0 ≤ 16:=fun w=>by
  rcases placeF_rng w os 0 with h | h
  ·omega
  ·omega
 by_cases hc:f0.pc=0
 ·rw [if_pos hc] at hT
  obtain ⟨at_,hat⟩:∃ at_,at_=into f0.o.a p:=⟨_,rfl⟩
  rw [← hat] at hT I
  obtain ⟨f,hff⟩:∃ f,f=({ f0 with pc:=1,at_:=at_ }:FrR):=⟨_,rfl⟩
  have hf':=hf
  simp [eFrP,hseen,hc] at hf'
  rcases leaf { f0 with pc:=1,at_:=at_ } hseen rfl hT with ⟨i,h1,h2,rfl⟩ | ⟨h1,rfl⟩
  ·simp only at h1
   have G:=G at_ (sg.set fr (eFrP f))
   rw [h1] at G
   have B:=B i (by omega) (sg.set fr (eFrP { f with seen:=i + 1,at_:=gs[i]!.1 })) m (hgm _)
   have hx:gs[i]! = gs[i] := getElem!_pos gs i h2
   have w1:IntKind.i64.wrap ((i:Int) + 1)=i + 1:=wrap64 (by omega)
   rw [hx] at B ⊢
   simp [eFrP,hcm,hff,hseen] at G B
   by_cases ho:(rdM M i).n.tmod 2=1
   ·simp [F_net_Net_Step,hf',I,G,hg,hg2,hcm,h2,eG,w1,B,ho,eAn,noA,after,eFrP,take_set,htk]
   ·have ho':((rdM M i).n.tmod 2 == 1)=false:=by simp [ho]
    simp [F_net_Net_Step,hf',I,G,hg,hg2,hcm,h2,eG,w1,B,ho,ho',eAn,noA,after,eFrP,take_set,htk]
  ·simp only at h1 ⊢
   have G:=G at_ (sg.set fr (eFrP f))
   rw [h1] at G
   have P:=P at_ (sg.set fr (eFrP f))
   have O:=O (placeF at_ os 0) (by have:=hpl at_; omega) (sg.set fr (eFrP f))
   have hpl:=hpl at_
   obtain ⟨q,hq⟩:∃ q,q=gs.length + placeF at_ os 0:=⟨_,rfl⟩
   have B:=B q (by omega) (sg.set fr (eFrP f)) m (hgm _)
   have hr:=(hM.rd q).2.2.1
   obtain ⟨n,hn⟩:∃ n,n=(rdM M q).n:=⟨_,rfl⟩
   rw [← hq] at O
   rw [← hq,← hn]
   rw [← hn] at B hr
   have hpn1:(p:Int) * n ≤ 16 * 1125899906842624:=by
    rcases hw with rfl | rfl | rfl | rfl | rfl <;> omega
   have hpn2:-(16 * 1125899906842624) ≤ (p:Int) * n:=by
    rcases hw with rfl | rfl | rfl | rfl | rfl <;> omega
   generalize placeF at_ os 0=pl at *
   have w2:IntKind.i64.wrap ((p:Int) * n)=p * n:=wrap64 (by omega)
   have w3:IntKind.i64.wrap ((pl:Int) + p * n)=pl + p * n:=wrap64 (by omega)
   simp [eFrP,hcm,hff,hseen] at G P O B
   simp [F_net_Net_Step,hf',I,G,P,O,hg,hg2,hcm,w2,w3,B,eAn,noA,after,eFrP,hseen,take_set,htk]
 ·rw [if_neg hc] at hT
  have hc':(f0.pc == 0)=false:=by simp [hc]
  have hf':=hf
  simp [eFrP,hseen] at hf'
  rcases leaf f0 hseen rfl hT with ⟨i,h1,h2,rfl⟩ | ⟨h1,rfl⟩
  ·have G:=G f0.at_ sg
   rw [h1] at G
   have B:=B i (by omega) (sg.set fr (eFrP { f0 with seen:=i + 1,at_:=gs[i]!.1 })) m (hgm _)
   have hx:gs[i]! = gs[i] := getElem!_pos gs i h2
   have w1:IntKind.i64.wrap ((i:Int) + 1)=i + 1:=wrap64 (by omega)
   rw [hx] at B ⊢
   simp [eFrP,hcm] at G B
   by_cases ho:(rdM M i).n.tmod 2=1
   ·simp [F_net_Net_Step,hf',hc',G,hg,hg2,hcm,h2,eG,w1,B,ho,eAn,noA,after,eFrP,take_set,htk]
   ·have ho':((rdM M i).n.tmod 2 == 1)=false:=by simp [ho]
    simp [F_net_Net_Step,hf',hc',G,hg,hg2,hcm,h2,eG,w1,B,ho,ho',eAn,noA,after,eFrP,take_set,htk]
  ·have G:=G f0.at_ sg
   rw [h1] at G
   have P:=P f0.at_ sg
   have O:=O (placeF f0.at_ os 0) (by have:=hpl f0.at_; omega) sg
   have hpl:=hpl f0.at_
   obtain ⟨q,hq⟩:∃ q,q=gs.length + placeF f0.at_ os 0:=⟨_,rfl⟩
   have B:=B q (by omega) sg m hm
   have hr:=(hM.rd q).2.2.1
   obtain ⟨n,hn⟩:∃ n,n=(rdM M q).n:=⟨_,rfl⟩
   rw [← hq] at O
   rw [← hq,← hn]
   rw [← hn] at B hr
   have hpn1:(p:Int) * n ≤ 16 * 1125899906842624:=by
    rcases hw with rfl | rfl | rfl | rfl | rfl <;> omega
   have hpn2:-(16 * 1125899906842624) ≤ (p:Int) * n:=by
    rcases hw with rfl | rfl | rfl | rfl | rfl <;> omega
   generalize placeF f0.at_ os 0=pl at *
   have w2:IntKind.i64.wrap ((p:Int) * n)=p * n:=wrap64 (by omega)
   have w3:IntKind.i64.wrap ((pl:Int) + p * n)=pl + p * n:=wrap64 (by omega)
   simp at G P O B
   simp [F_net_Net_Step,hf',hc',G,P,O,hg,hg2,hcm,w2,w3,B,eAn,noA,after,hsmf,take_set,htk]
end
end Go.AM

namespace Go.AM
def eFrPK (K:K) (f:FrR):List D:=[.i .i64 f.o.k,.f .f64 f.o.x.p,.i .i64 f.o.x.v,.i .i64 f.o.a,.i .i64 f.o.b,.i .i64 f.pc,.i .i64 f.at_,.i .i64 f.seen,.i .i64 f.seg,.i .i64 f.tot,.b f.em,
 .i .u64 f.v0,.i .i64 f.n0,.l .o 2 (f.l0.map eI),.i .u64 f.v1,.i .i64 f.n1,.l K 2 (f.l1.map eI)]
def afterK (K:K) (sg:List (List D)) (m fr:Nat) (s:So):List (List D):=(sg.set m (eMem s.m)).set fr (eFrPK K s.f)
def slotK (p:Nat) (f:FrR):Int:=2 + f.seg * p + (f.at_ + f.seen) % p
def fitsK (p:Nat) (s:Int):Bool:=decide (0 ≤ s ∧ s < 1000 ∧ 2 + s * p + p ≤ 1000)
def FrR.c0 (f:FrR) (c:Cl):FrR:={ f with v0:=c.v,n0:=c.n,l0:=c.l }
def FrR.c1 (f:FrR) (c:Cl):FrR:={ f with v1:=c.v,n1:=c.n,l1:=c.l }
def begK (p:Nat) (f:FrR):FrR:={ f with at_:=into f.o.a p,seen:=0,em:=false,pc:=f.pc + 1 }
def enqP (p:Nat) (M:Mem) (f:FrR):So :=
 if f.pc=0 then ⟨M,begK p { (f.c0 (rdM M 1)) with seg:=(rdM M 1).n },noA,!fitsK p (rdM M 1).n⟩
 else if f.pc=1 then
  if (rdM M (slotK p f)).n=0 then ⟨M,{ (f.c1 (rdM M (slotK p f))) with pc:=2 },noA,false⟩
  else ⟨M,{ (f.c1 (rdM M (slotK p f))) with seen:=f.seen + 1,pc:=if f.seen + 1=p then 3 else 1 },noA,false⟩
 else if f.pc=2 then
  if wrB M (slotK p f) f.v1 then ⟨wrM M (slotK p f) f.v1 1 [f.o.x.canon],f,⟨true,f.o.x.canon,0⟩,true⟩ else ⟨M,{ f with pc:=0 },noA,false⟩
 else ⟨wrM M 1 f.v0 (f.seg + 1) [],{ f with pc:=0 },noA,false⟩
def lookP (p:Nat) (M:Mem) (f:FrR):So :=
 if (rdM M (slotK p f)).n=1 then ⟨M,{ (f.c1 (rdM M (slotK p f))) with pc:=3 },noA,false⟩
 else if f.seen + 1 < p then ⟨M,{ f with em:=f.em || (rdM M (slotK p f)).n == 0,seen:=f.seen + 1 },noA,false⟩
 else ⟨M,{ f with em:=f.em || (rdM M (slotK p f)).n == 0,seen:=f.seen + 1,pc:=if f.n1=f.seg then 4 else 5 },noA,f.em || (rdM M (slotK p f)).n == 0⟩
def deqP (p:Nat) (M:Mem) (f:FrR):So :=
 if f.pc=0 then ⟨M,{ (f.c0 (rdM M 0)) with seg:=(rdM M 0).n,pc:=1 },noA,false⟩
 else if f.pc=1 then ⟨M,begK p (f.c1 (rdM M 1)),noA,false⟩
 else if f.pc=2 then lookP p M f
 else if f.pc=3 then
  if wrB M (slotK p f) f.v1 then ⟨wrM M (slotK p f) f.v1 2 [],f,⟨true,f.l1.headD ⟨0,0⟩,0⟩,true⟩ else ⟨M,{ f with pc:=0 },noA,false⟩
 else if f.pc=4 then ⟨wrM M 1 f.v1 (f.seg + 1) [],{ f with pc:=0 },noA,false⟩
 else ⟨wrM M 0 f.v0 (f.seg + 1) [],{ f with pc:=0 },noA,false⟩
theorem c_kfifo_Slot (k s j:Int) (hk:1 ≤ k ∧ k ≤ 16) (hs:0 ≤ s ∧ s ≤ 1000000000) (hj:0 ≤ j ∧ j ≤ 1000000000) (sg):LL.call n_kfifo_Queue_Slot [.a [.i .i64 k],.i .i64 s,.i .i64 j] sg sg.length=some (.i .i64 (2 + s * k + j),sg,sg.length):=by
 refine wp_call e_kfifo_Queue_Slot rfl ?_
 have h1:s * k ≤ 1000000000 * 16:=Int.mul_le_mul hs.2 hk.2 (by omega) (by omega)
 have h2:0 ≤ s * k:=Int.mul_nonneg hs.1 (by omega)
 have w1:IntKind.i64.wrap (s * k)=s * k:=wrap64 (by omega)
 have w2:IntKind.i64.wrap (2 + s * k)=2 + s * k:=wrap64 (by omega)
 have w3:IntKind.i64.wrap (2 + s * k + j)=2 + s * k + j:=wrap64 (by omega)
 simp [F_kfifo_Queue_Slot,w1,w2,w3]
theorem c_kfifo_Fits (p:Nat) (hp:1 ≤ p ∧ p ≤ 16) (s:Int) (sg):LL.call n_kfifo_Queue_Fits [.a [.i .i64 p],.i .i64 s] sg sg.length=some (.b (fitsK p s),sg,sg.length):=by
 generalize hT:fitsK p s=T
 unfold fitsK at hT
 refine wp_call e_kfifo_Queue_Fits rfl ?_
 by_cases h1:0 ≤ s
 ·by_cases h2:s < 1000
  ·have S:=c_kfifo_Slot p s p (by omega) (by omega) (by omega) sg
   simp [h1,h2] at hT
   by_cases h3:2 + s * (p:Int) + p ≤ 1000
   ·simp [h3] at hT
    subst hT
    simp [F_kfifo_Queue_Fits,h1,h2,S,h3]
   ·simp [h3] at hT
    subst hT
    simp [F_kfifo_Queue_Fits,h1,h2,S,h3]
  ·simp [h1,h2] at hT
   subst hT
   simp [F_kfifo_Queue_Fits,h1,h2]
 ·simp [h1] at hT
  subst hT
  simp [F_kfifo_Queue_Fits,h1]
section
variable (p:Nat) (hp:1 ≤ p ∧ p ≤ 16) (f:FrR) (KK:K) (sg:List (List D)) (fr:Nat) (hf:sg[fr]? = some (eFrPK KK f))
include hp hf
theorem c_kfifo_begin (hpc:0 ≤ f.pc ∧ f.pc ≤ 100):LL.call n_kfifo_Queue_begin [.a [.i .i64 p],.p fr 0] sg sg.length=some (.t [],sg.set fr (eFrPK KK (begK p f)),sg.length):=by
 have hlt:=get_lt hf
 have hg:∀ a,(sg.set fr a)[fr]? = some a:=fun a=>List.getElem?_set_self hlt
 have I:=c_op_Into f.o.a p (by omega) sg
 have w1:IntKind.i64.wrap (f.pc + 1)=f.pc + 1:=wrap64 (by omega)
 have hf':=hf
 simp [eFrPK] at hf'
 refine wp_call e_kfifo_Queue_begin rfl ?_
 simp [F_kfifo_Queue_begin,hf',I,hg,w1,begK,eFrPK,take_set]
theorem c_kfifo_slot (hs:f.small) (hseg:0 ≤ f.seg ∧ f.seg ≤ 1000000):LL.call n_kfifo_Queue_slot [.a [.i .i64 p],.p fr 0] sg sg.length=some (.i .i64 (slotK p f),sg,sg.length):=by
 have h1:=hs.at_
 have h2:=hs.seen
 have w1:IntKind.i64.wrap (f.at_ + f.seen)=f.at_ + f.seen:=wrap64 (by omega)
 have hd:Int.tmod (f.at_ + f.seen) p=(f.at_ + f.seen) % p:=Int.tmod_eq_emod_of_nonneg (by omega)
 have hm0:=Int.emod_nonneg (f.at_ + f.seen) (show (p:Int) ≠ 0 by omega)
 have hm1:=Int.emod_lt_of_pos (f.at_ + f.seen) (show (0:Int) < p by omega)
 have S:=c_kfifo_Slot p f.seg ((f.at_ + f.seen) % p) (by omega) (by omega) (by omega) sg
 have hp0:¬ p=0:=by omega
 have hf':=hf
 simp [eFrPK] at hf'
 refine wp_call e_kfifo_Queue_slot rfl ?_
 simp [F_kfifo_Queue_slot,hf',w1,hd,hp0,S,slotK]
end
section
variable (p:Nat) (hp:1 ≤ p ∧ p ≤ 16) (M:Mem) (hM:M.good) (f:FrR) (hs:f.small) (sg:List (List D)) (m fr:Nat) (hm:sg[m]? = some (eMem M)) (hf:sg[fr]? = some (eFrP f)) (hne:m ≠ fr) (hseg:0 ≤ f.seg ∧ f.seg ≤ 1000000)
include hp hM hs hm hf hne hseg
set_option maxRecDepth 20000 in
theorem c_kfifo_enq (hpc : f.pc = 0 ∨ f.pc = 1 ∨ f.pc = 2 ∨ f.pc = 3) : LL.call n_kfifo_Queue_enq [.a [.i .i64 p], .p m 0, .p fr 0] sg sg.length =
    some (.t [eAn (enqP p M f).a,.b (enqP p M f).d],after sg m fr (enqP p M f),sg.length):=by
 generalize hT:enqP p M f=T
 refine wp_call e_kfifo_Queue_enq rfl ?_
 have hlt:=get_lt hf
 have hltm:=get_lt hm
 have hg:∀ a,(sg.set fr a)[fr]? = some a:=fun a=>List.getElem?_set_self hlt
 have hg2:∀ a b:List D,((sg.set m b).set fr a)[fr]? = some a:=fun a b=>List.getElem?_set_self (by simpa using hlt)
 have hgm:∀ a,(sg.set fr a)[m]? = some (eMem M):=fun a=>by rw [List.getElem?_set_ne (Ne.symm hne)]; exact hm
 have hgf:∀ a,(sg.set m a)[fr]? = some (eFrP f):=fun a=>by rw [List.getElem?_set_ne hne]; exact hf
 have hsm:sg.set m (eMem M)=sg:=set_same hm
 have hsmf:∀ a,(sg.set m a).set fr (eFrP f)=sg.set m a:=fun a=>set_same (hgf a)
 have htk:∀ a b:List D,List.take sg.length ((sg.set m b).set fr a)=(sg.set m b).set fr a:=fun a b=>List.take_of_length_le (by simp)
 have hx:=hs.it
 have hsn:=hs.seen
 unfold enqP at hT
 rcases hpc with hc | hc | hc | hc
 ·rw [if_pos hc] at hT
  have R:=c_cell_Memory_Read M 1 sg m hm hM.ok
  generalize rdM M 1=c at *
  obtain ⟨g,hgg⟩:∃ g,g=({ (f.c0 c) with seg:=c.n }:FrR):=⟨_,rfl⟩
  have gpc:g.pc=0:=by rw [hgg]; exact hc
  have B:=c_kfifo_begin p hp g .o (sg.set fr (eFrP g)) fr (hg _) (by omega)
  have F:=c_kfifo_Fits p hp c.n (sg.set fr (eFrP (begK p g)))
  have hf':=hf
  simp [eFrP,hc] at hf'
  subst hT
  simp [eC,eFrP,eFrPK,hgg,FrR.c0,begK,hc] at R B F
  simp [F_kfifo_Queue_enq,hf',R,B,F,hg,eAn,noA,after,hsm,eFrP,FrR.c0,begK,hc,take_set]
 ·rw [if_neg (by omega),if_pos hc] at hT
  have S:=c_kfifo_slot p hp f .o sg fr hf hs hseg
  have R:=c_cell_Memory_Read M (slotK p f) sg m hm hM.ok
  generalize slotK p f=sl at *
  generalize rdM M sl=c at *
  have w1:IntKind.i64.wrap (f.seen + 1)=f.seen + 1:=wrap64 (by omega)
  have wp:IntKind.i64.wrap (p:Int)=p:=wrap64 (by omega)
  have hf':=hf
  simp [eFrP,hc] at hf'
  simp [eC] at R
  by_cases h0:c.n=0
  ·rw [if_pos h0] at hT
   subst hT
   simp [F_kfifo_Queue_enq,hf',S,R,h0,hg,eAn,noA,after,hsm,eFrP,FrR.c1,hc,take_set]
  ·rw [if_neg h0] at hT
   have h0':(c.n == 0)=false:=by simp [h0]
   by_cases hk:f.seen + 1=p
   ·rw [if_pos hk] at hT
    subst hT
    simp [F_kfifo_Queue_enq,hf',S,R,h0,h0',w1,wp,hk,hg,eAn,noA,after,hsm,eFrP,FrR.c1,hc,take_set]
   ·rw [if_neg hk] at hT
    have hk':(f.seen + 1 == (p:Int))=false:=by simp [hk]
    subst hT
    simp [F_kfifo_Queue_enq,hf',S,R,h0,h0',w1,hk,hk',hg,eAn,noA,after,hsm,eFrP,FrR.c1,hc,take_set]
 ·rw [if_neg (by omega),if_neg (by omega),if_pos hc] at hT
  have S:=c_kfifo_slot p hp f .o sg fr hf hs hseg
  have C:=c_pile_Item_Canon f.o.x hx sg
  have W:=c_cell_Memory_Write M (slotK p f) f.v1 1 [f.o.x.canon] sg m hm hM.ok (by simp) hM.ck hM.len
  generalize slotK p f=sl at *
  have hf':=hf
  simp [eFrP,hc] at hf'
  simp at C W
  by_cases hw:wrB M sl f.v1=true
  ·rw [if_pos hw] at hT
   simp [hw] at W
   subst hT
   simp [F_kfifo_Queue_enq,hf',S,C,W,hg,eAn,noA,after,hsm,hsmf,take_set]
  ·rw [if_neg hw] at hT
   have hw':wrB M sl f.v1=false:=by simpa using hw
   have hwm:wrM M sl f.v1 1 [f.o.x.canon] = M:=by unfold wrM; rw [if_neg hw]
   rw [hwm] at W
   simp [hw',hsm] at W
   subst hT
   simp [F_kfifo_Queue_enq,hf',S,C,W,hg,eAn,noA,after,hsm,eFrP,hc,take_set]
 ·rw [if_neg (by omega),if_neg (by omega),if_neg (by omega)] at hT
  have W:=c_cell_Memory_Write M 1 f.v0 (f.seg + 1) [] sg m hm hM.ok (by simp) hM.ck hM.len
  have w1:IntKind.i64.wrap (f.seg + 1)=f.seg + 1:=wrap64 (by omega)
  have hf':=hf
  simp [eFrP,hc] at hf'
  have hgf':=hgf
  simp [eFrP,hc] at hgf'
  simp at W
  subst hT
  simp [F_kfifo_Queue_enq,hf',hgf',w1,W,hg,hg2,eAn,noA,after,hsm,eFrP,hc,take_set,htk]
end
section
variable (p:Nat) (hp:1 ≤ p ∧ p ≤ 16) (M:Mem) (hM:M.good) (f:FrR) (hs:f.small) (KK:K) (hK:KK=.o ∨ KK=.z) (sg:List (List D)) (m fr:Nat) (hm:sg[m]? = some (eMem M)) (hf:sg[fr]? = some (eFrPK KK f)) (hne:m ≠ fr) (hseg:0 ≤ f.seg ∧ f.seg ≤ 1000000)
include hp hM hs hm hf hne hseg
set_option maxRecDepth 20000 in
theorem c_kfifo_look (hpc : f.pc = 2) : LL.call n_kfifo_Queue_look [.a [.i .i64 p], .p m 0, .p fr 0] sg sg.length =
    some (.t [eAn (lookP p M f).a,.b (lookP p M f).d],afterK (if (rdM M (slotK p f)).n=1 then .z else KK) sg m fr (lookP p M f),sg.length):=by
 generalize hT:lookP p M f=T
 refine wp_call e_kfifo_Queue_look rfl ?_
 have hlt:=get_lt hf
 have hg:∀ a,(sg.set fr a)[fr]? = some a:=fun a=>List.getElem?_set_self hlt
 have hsm:sg.set m (eMem M)=sg:=set_same hm
 have hsn:=hs.seen
 have S:=c_kfifo_slot p hp f KK sg fr hf hs hseg
 have R:=c_cell_Memory_Read M (slotK p f) sg m hm hM.ok
 have w1:IntKind.i64.wrap (f.seen + 1)=f.seen + 1:=wrap64 (by omega)
 unfold lookP at hT
 generalize slotK p f=sl at *
 generalize rdM M sl=c at *
 have hf':=hf
 simp [eFrPK,hpc] at hf'
 simp [eC] at R
 by_cases h1:c.n=1
 ·rw [if_pos h1] at hT
  subst hT
  simp [F_kfifo_Queue_look,hf',S,R,h1,hg,eAn,noA,afterK,h1,hsm,eFrPK,FrR.c1,take_set]
 ·rw [if_neg h1] at hT
  have h1':(c.n == 1)=false:=by simp [h1]
  by_cases h2:f.seen + 1 < p
  ·rw [if_pos h2] at hT
   subst hT
   cases he:f.em
   ·simp [he] at hf'
    simp [F_kfifo_Queue_look,hf',S,R,h1',h2,w1,hg,eAn,noA,afterK,h1,hsm,eFrPK,FrR.c1,hpc,he,take_set]
   ·simp [he] at hf'
    simp [F_kfifo_Queue_look,hf',S,R,h1',h2,w1,hg,eAn,noA,afterK,h1,hsm,eFrPK,FrR.c1,hpc,he,take_set]
  ·rw [if_neg h2] at hT
   by_cases h3:f.n1=f.seg
   ·rw [if_pos h3] at hT
    have h3':(f.n1 == f.seg)=true:=by simp [h3]
    subst hT
    cases he:f.em
    ·simp [he] at hf'
     simp [F_kfifo_Queue_look,hf',S,R,h1',h2,h3',w1,hg,eAn,noA,afterK,h1,hsm,eFrPK,FrR.c1,hpc,he,take_set]
    ·simp [he] at hf'
     simp [F_kfifo_Queue_look,hf',S,R,h1',h2,h3',w1,hg,eAn,noA,afterK,h1,hsm,eFrPK,FrR.c1,hpc,he,take_set]
   ·rw [if_neg h3] at hT
    have h3':(f.n1 == f.seg)=false:=by simp [h3]
    subst hT
    cases he:f.em
    ·simp [he] at hf'
     simp [F_kfifo_Queue_look,hf',S,R,h1',h2,h3',w1,hg,eAn,noA,afterK,h1,hsm,eFrPK,FrR.c1,hpc,he,take_set]
    ·simp [he] at hf'
     simp [F_kfifo_Queue_look,hf',S,R,h1',h2,h3',w1,hg,eAn,noA,afterK,h1,hsm,eFrPK,FrR.c1,hpc,he,take_set]
include hK
set_option maxRecDepth 20000 in
theorem c_kfifo_deq (hpc : f.pc = 0 ∨ f.pc = 1 ∨ f.pc = 2 ∨ (f.pc = 3 ∧ f.l1 ≠ []) ∨ f.pc = 4 ∨ f.pc = 5) : LL.call n_kfifo_Queue_deq [.a [.i .i64 p], .p m 0, .p fr 0] sg sg.length =
    some (.t [eAn (deqP p M f).a,.b (deqP p M f).d],afterK (if f.pc=1 then .o else if f.pc=2 ∧ (rdM M (slotK p f)).n=1 then .z else KK) sg m fr (deqP p M f),sg.length):=by
 generalize hT:deqP p M f=T
 refine wp_call e_kfifo_Queue_deq rfl ?_
 have hlt:=get_lt hf
 have hg:∀ a,(sg.set fr a)[fr]? = some a:=fun a=>List.getElem?_set_self hlt
 have hg2:∀ a b:List D,((sg.set m b).set fr a)[fr]? = some a:=fun a b=>List.getElem?_set_self (by simpa using hlt)
 have hgf:∀ a,(sg.set m a)[fr]? = some (eFrPK KK f):=fun a=>by rw [List.getElem?_set_ne hne]; exact hf
 have hsm:sg.set m (eMem M)=sg:=set_same hm
 have hsmf:∀ a,(sg.set m a).set fr (eFrPK KK f)=sg.set m a:=fun a=>set_same (hgf a)
 have htk:∀ a b:List D,List.take sg.length ((sg.set m b).set fr a)=(sg.set m b).set fr a:=fun a b=>List.take_of_length_le (by simp)
 have w1:IntKind.i64.wrap (f.seg + 1)=f.seg + 1:=wrap64 (by omega)
 unfold deqP at hT
 rcases hpc with hc | hc | hc | ⟨hc,hl⟩ | hc | hc
 ·rw [if_pos hc] at hT
  have R:=c_cell_Memory_Read M 0 sg m hm hM.ok
  generalize rdM M 0=c at *
  have hf':=hf
  simp [eFrPK,hc] at hf'
  subst hT
  simp [eC] at R
  simp [F_kfifo_Queue_deq,hf',R,hg,eAn,noA,afterK,hsm,eFrPK,FrR.c0,hc,take_set]
 ·rw [if_neg (by omega),if_pos hc] at hT
  have R:=c_cell_Memory_Read M 1 sg m hm hM.ok
  generalize rdM M 1=c at *
  have B:=c_kfifo_begin p hp (f.c1 c) .o (sg.set fr (eFrPK .o (f.c1 c))) fr (hg _) (by simp only [FrR.c1]; omega)
  have hf':=hf
  simp [eFrPK,hc] at hf'
  subst hT
  simp [eC,eFrPK,FrR.c1,begK,hc] at R B
  simp [F_kfifo_Queue_deq,hf',R,B,hg,eAn,noA,afterK,hsm,eFrPK,FrR.c1,begK,hc,take_set]
 ·rw [if_neg (by omega),if_neg (by omega),if_pos hc] at hT
  have L:=c_kfifo_look p hp M hM f hs KK sg m fr hm hf hne hseg hc
  rw [hT] at L
  have hf':=hf
  simp [eFrPK,hc] at hf'
  have hl:∀ k,(afterK k sg m fr T).length=sg.length:=fun k=>by simp [afterK]
  simp [eAn] at L
  simp [F_kfifo_Queue_deq,hf',L,eAn,hc]
  exact List.take_of_length_le (by rw [hl]; exact Nat.le_refl _)
 ·rw [if_neg (by omega),if_neg (by omega),if_neg (by omega),if_pos hc] at hT
  have S:=c_kfifo_slot p hp f KK sg fr hf hs hseg
  have W:=c_cell_Memory_Write M (slotK p f) f.v1 2 [] sg m hm hM.ok (by simp) hM.ck hM.len
  generalize slotK p f=sl at *
  obtain ⟨x,t,hxt⟩:∃ x t,f.l1=x :: t:=by
   cases h:f.l1 with
   | nil=>exact absurd h hl
   | cons x t=>exact ⟨x,t,rfl⟩
  have hf':=hf
  simp [eFrPK,hc,hxt] at hf'
  simp at W
  by_cases hw:wrB M sl f.v1=true
  ·rw [if_pos hw] at hT
   simp [hw] at W
   subst hT
   rcases hK with rfl | rfl <;> simp [F_kfifo_Queue_deq,hf',S,W,hg,eAn,noA,afterK,hsm,hsmf,hc,hxt,take_set]
  ·rw [if_neg hw] at hT
   have hw':wrB M sl f.v1=false:=by simpa using hw
   have hwm:wrM M sl f.v1 2 [] = M:=by unfold wrM; rw [if_neg hw]
   rw [hwm] at W
   simp [hw',hsm] at W
   subst hT
   rcases hK with rfl | rfl <;> simp [F_kfifo_Queue_deq,hf',S,W,hg,eAn,noA,afterK,hsm,eFrPK,hc,hxt,take_set]
 ·rw [if_neg (by omega),if_neg (by omega),if_neg (by omega),if_neg (by omega),if_pos hc] at hT
  have W:=c_cell_Memory_Write M 1 f.v1 (f.seg + 1) [] sg m hm hM.ok (by simp) hM.ck hM.len
  have hf':=hf
  simp [eFrPK,hc] at hf'
  have hgf':=hgf
  simp [eFrPK,hc] at hgf'
  simp at W
  subst hT
  simp [F_kfifo_Queue_deq,hf',hgf',w1,W,hg,hg2,eAn,noA,afterK,hsm,eFrPK,hc,take_set,htk]
 ·rw [if_neg (by omega),if_neg (by omega),if_neg (by omega),if_neg (by omega),if_neg (by omega)] at hT
  have W:=c_cell_Memory_Write M 0 f.v0 (f.seg + 1) [] sg m hm hM.ok (by simp) hM.ck hM.len
  have hf':=hf
  simp [eFrPK,hc] at hf'
  have hgf':=hgf
  simp [eFrPK,hc] at hgf'
  simp at W
  subst hT
  simp [F_kfifo_Queue_deq,hf',hgf',w1,W,hg,hg2,eAn,noA,afterK,hsm,eFrPK,hc,take_set,htk]
end
def kfifoP (p:Nat) (M:Mem) (f:FrR):So:=if f.o.k=3 then enqP p M f else deqP p M f
end Go.AM

namespace Go.AM
end Go.AM

namespace Go.AM
def mnI (x:Im):Im:={ x with ls:=[(x.ls.flatten ++ (List.range 998).map fun i:Nat=>(⟨0,(i:Int)⟩:It)).take 998] }
end Go.AM

namespace Go.AM
theorem good_nil:(⟨[],0⟩:Mem).good:=⟨by simp,by simp,by simp,by simp,by simp,by simp⟩
theorem good_put {M:Mem} (h:M.good) {i:Nat} (hi:i < 1000) {n:Int} (hn:-1125899906842624 ≤ n ∧ n ≤ 1125899906842624) {l:List It} (hl:l.length ≤ 62 ∧ ∀ x ∈ l,x.ok) (hc:M.ck + 1 < 1000000000):(putM M i n l).good:=by
 have hp:∀ c ∈ padM M.cs i,c ∈ M.cs ∨ c=zC:=by
  intro c hc
  unfold padM at hc
  rcases List.mem_append.1 hc with h | h
  ·exact .inl h
  ·exact .inr (List.eq_of_mem_replicate h)
 have hall:∀ c ∈ (putM M i n l).cs,c=⟨M.ck + 1,n,l⟩ ∨ c ∈ M.cs ∨ c=zC:=by
  intro c hc
  rcases List.mem_or_eq_of_mem_set hc with hc | rfl
  ·exact .inr (hp c hc)
  ·exact .inl rfl
 refine ⟨?_,hc,?_,?_,?_,?_⟩
 ·have:=h.len
  simp only [putM,List.length_set,padM_len]; omega
 ·intro c hc
  rcases hall c hc with rfl | h' | rfl
  ·exact hl
  ·exact h.it c h'
  ·simp [zC]
 ·intro c hc
  rcases hall c hc with rfl | h' | rfl
  ·exact hn
  ·exact h.num c h'
  ·simp [zC]
 ·intro c hc
  rcases hall c hc with rfl | h' | rfl
  ·exact ⟨Nat.le_refl _,fun _=>by simp⟩
  ·have:=h.ver c h'
   exact ⟨by simp only [putM]; omega,this.2⟩
  ·simp [zC]
 ·intro a b c d ha hb hv h0
  simp only [putM,List.getElem?_set] at ha hb
  have low:∀ (j:Nat) (e:Cl),(padM M.cs i)[j]? = some e → e.v ≤ M.ck ∧ (e.v ≠ 0 → M.cs[j]? = some e):=by
   intro j e he
   unfold padM at he
   rw [List.getElem?_append] at he
   split at he
   ·exact ⟨(h.ver e (List.mem_of_getElem? he)).1,fun _=>he⟩
   ·rw [List.getElem?_replicate] at he
    split at he
    ·injection he with he; subst he; exact ⟨by simp [zC],fun hh=>absurd rfl hh⟩
    ·cases he
  by_cases ea:i=a
  ·by_cases eb:i=b
   ·omega
   ·rw [if_neg eb] at hb
    rw [if_pos ea] at ha
    split at ha
    ·injection ha with ha
     subst ha
     have:=(low b d hb).1
     simp only at hv; omega
    ·cases ha
  ·rw [if_neg ea] at ha
   have l1:=low a c ha
   by_cases eb:i=b
   ·rw [if_pos eb] at hb
    split at hb
    ·injection hb with hb
     subst hb
     simp only at hv; omega
    ·cases hb
   ·rw [if_neg eb] at hb
    have l2:=low b d hb
    exact h.dis a b c d (l1.2 h0) (l2.2 (by omega)) hv h0
def Pt.fit (q:Pt):Prop:=q.ok ∧ (-1125899906842624 ≤ q.n ∧ q.n ≤ 1125899906842624) ∧ q.l.length ≤ 62 ∧ ∀ x ∈ q.l,x.ok
def mkP {α : Type} (g:α → Int) (h:α → List It) (b:Int) (l:List α):List Pt:=l.mapIdx fun i x=>⟨(i:Int) + b,g x,h x⟩
theorem rdP_app:∀ (a b:List Pt) (k:Nat) (i:Int) (c:Cl),rdP (a ++ b) k i c=rdP b (k + a.length) i (rdP a k i c)
 | [],b,k,i,c=>rfl
 | x :: a,b,k,i,c=>by
  rw [List.cons_append,rdP,rdP_app a b,rdP,List.length_cons]
  congr 1; omega
end Go.AM

namespace Go.AM
def nb (k:Int) (s:Nat):Int:=if k=3 then s * 8589934592 else s + 2
theorem nb_le (k:Int) (s:Nat):0 ≤ nb k s ∧ nb k s ≤ nb k (s + 1) ∧ 2 ≤ nb k (s + 1):=by unfold nb; split <;> omega
theorem nb_small {k:Int} {s:Nat} (h:s ≤ 5000):nb k s ≤ 42949672960000:=by unfold nb; split <;> omega
structure MI (k:Int) (s:Nat) (M:Mem):Prop where
 good:M.good
 ck:M.ck ≤ s
 num:∀ i,0 ≤ (rdM M i).n ∧ (rdM M i).n ≤ nb k s
 full:k=2 → ∀ i,2 ≤ i → (rdM M i).n=1 → (rdM M i).l ≠ []
theorem MI.mono {k s M} (h:MI k s M):MI k (s + 1) M:=⟨h.good,by have:=h.ck; omega,fun i=>by have:=h.num i; have:=nb_le k s; omega,h.full⟩
theorem MI.wr {k s M} (h:MI k s M) (hs:s ≤ 5000) {i:Int} {v:Nat} {n:Int} {l:List It} (hn:0 ≤ n ∧ n ≤ nb k (s + 1)) (hl:l.length ≤ 62 ∧ ∀ x ∈ l,x.ok) (hf:k=2 → 2 ≤ i → n=1 → l ≠ []):MI k (s + 1) (wrM M i v n l):=by
 unfold wrM
 by_cases hw:wrB M i v=true
 ·rw [if_pos hw]
  have hi:0 ≤ i ∧ i < 1000:=by simp [wrB] at hw; exact ⟨hw.1,hw.2.1⟩
  have hti:((i.toNat:Nat):Int)=i:=by omega
  have hck:=h.ck
  have hb:=nb_small (k:=k) (s:=s + 1)
  refine ⟨good_put h.good (by omega) ⟨by omega,?_⟩ hl (by omega),by simp only [putM]; omega,?_,?_⟩
  ·have:nb k (s + 1) ≤ 42958262894592:=by unfold nb; split <;> omega
   omega
  ·intro j
   rw [rdM_putM,hti]
   split
   ·exact hn
   ·have:=h.num j; have:=nb_le k s; omega
  ·intro hk j hj
   rw [rdM_putM,hti]
   split
   ·rename_i e; subst e; exact hf hk hj
   ·exact h.full hk j hj
 ·rw [if_neg hw]; exact h.mono
structure FI (k:Int) (s:Nat) (f:FrR):Prop where
 it:f.o.x.ok
 kd:(k=1 ∧ (f.o.k=1 ∨ f.o.k=2)) ∨ (k=2 ∧ (f.o.k=3 ∨ f.o.k=4)) ∨ (k=3 ∧ (f.o.k=6 ∨ (f.o.k=5 ∧ 0 ≤ f.o.x.v ∧ f.o.x.v ≤ 4294967296))) ∨ (k=4 ∧ f.o.k=7)
 at_:0 ≤ f.at_ ∧ f.at_ ≤ s + 16
 seen:0 ≤ f.seen ∧ f.seen ≤ s + 100
 seg:0 ≤ f.seg ∧ f.seg ≤ s + 2
 tot:0 ≤ f.tot ∧ f.tot ≤ s * 42949672960000
 n0:0 ≤ f.n0 ∧ f.n0 ≤ nb k s
 n1:0 ≤ f.n1 ∧ f.n1 ≤ nb k s
 l0:f.l0.length ≤ 62 ∧ ∀ x ∈ f.l0,x.ok
 l1:f.l1.length ≤ 62 ∧ ∀ x ∈ f.l1,x.ok
 ins:f.o.k=1 → f.pc=0 ∨ f.l0.length ≤ 61
 del:f.o.k=2 → delOK f
 enq:f.o.k=3 → f.pc=0 ∨ f.pc=1 ∨ f.pc=2 ∨ f.pc=3
 deq:f.o.k=4 → f.pc=0 ∨ f.pc=1 ∨ f.pc=2 ∨ (f.pc=3 ∧ f.l1 ≠ []) ∨ f.pc=4 ∨ f.pc=5
theorem FI.mono {k s f} (h:FI k s f):FI k (s + 1) f :=
 {h with
  at_:=by have:=h.at_; omega
  seen:=by have:=h.seen; omega
  seg:=by have:=h.seg; omega
  tot:=by have:=h.tot; omega
  n0:=by have:=h.n0; have:=nb_le k s; omega
  n1:=by have:=h.n1; have:=nb_le k s; omega }
theorem FI.small {k s f} (h:FI k s f) (hs:s ≤ 5000):f.small :=
 {it:=h.it
  at_:=by have:=h.at_; omega
  seen:=by have:=h.seen; omega
  seg:=by have:=h.seg; omega
  tot:=by have:=h.tot; omega
  n0:=by have:=h.n0; have:=nb_small (k:=k) hs; omega
  n1:=by have:=h.n1; have:=nb_small (k:=k) hs; omega
  l0:=h.l0
  l1:=h.l1 }
def stepP (k:Int) (p:Nat) (M:Mem) (f:FrR):So:=if k=1 then multiP p M f else if k=2 then kfifoP p M f else if k=3 then tallyP p M f else netP p M f
structure SI (k:Int) (s:Nat) (so:So):Prop where
 m:MI k s so.m
 f:so.d=false → FI k s so.f
 x:so.a.x.ok
theorem ok0:(⟨0,0⟩:It).ok:=by simp [It.ok]
theorem noA_ok:noA.x.ok:=ok0
theorem rd_l {k s M} (h:MI k s M) (i:Int):(rdM M i).l.length ≤ 62 ∧ ∀ x ∈ (rdM M i).l,x.ok:=⟨(h.good.rd i).1,(h.good.rd i).2.1⟩
theorem rd_n {k s M} (h:MI k s M) (i:Int):0 ≤ (rdM M i).n ∧ (rdM M i).n ≤ nb k (s + 1):=by have:=h.num i; have:=nb_le k s; omega
theorem si_ins {p s M f} (hM:MI 1 s M) (hF:FI 1 s f) (hs:s ≤ 5000) (h1:f.o.k=1):SI 1 (s + 1) (insP p M f):=by
 unfold insP
 by_cases hc:f.pc=0
 ·rw [if_pos hc]
  refine ⟨hM.mono,fun hd=>?_,noA_ok⟩
  simp only [decide_eq_false_iff_not] at hd
  exact { hF.mono with n0:=rd_n hM _,l0:=rd_l hM _,ins:=fun _=>.inr (by simp only; omega),del:=fun h=>by simp only at h; omega,enq:=fun h=>by simp only at h; omega,deq:=fun h=>by simp only at h; omega }
 ·rw [if_neg hc]
  have hl:=(hF.ins h1).resolve_left hc
  have hpp:=(putH_perm (newH f.l0) f.o.x).length_eq
  have hpa:=(allH_perm (putH (newH f.l0) f.o.x)).length_eq
  have hnl:=newH_len f.l0
  simp only [List.length_cons] at hpp
  split
  ·refine ⟨hM.wr hs ⟨by omega,(nb_le 1 (s + 1)).1⟩ ⟨by omega,?_⟩ (fun h=>by omega),fun h=>by simp at h,canon_okI hF.it⟩
   intro y hy
   rcases List.mem_cons.1 ((putH_perm (newH f.l0) f.o.x).mem_iff.1 ((allH_perm _).mem_iff.1 hy)) with rfl | hy
   ·exact canon_okI hF.it
   ·exact newH_ok hF.l0.2 y hy
  ·exact ⟨hM.mono,fun _=>{ hF.mono with ins:=fun _=>.inl rfl,del:=fun h=>by simp only at h; omega,enq:=fun h=>by simp only at h; omega,deq:=fun h=>by simp only at h; omega },noA_ok⟩
theorem si_delW {s M f} {at_:Int} {v:Nat} {l:List It} (hM:MI 1 s M) (hF:FI 1 s f) (hs:s ≤ 5000) (h1:f.o.k=2) (hl:l.length ≤ 62 ∧ ∀ x ∈ l,x.ok) (h0:l ≠ []):SI 1 (s + 1) (delW M f at_ v l):=by
 unfold delW
 have hne:newH l ≠ [] := by
  intro h
  have:=newH_len l
  rw [h] at this
  exact h0 (List.length_eq_zero_iff.1 this.symm)
 have hk:=popH_ok hne (newH_ok hl.2)
 have hpl:=popH_len hne
 have hnl:=newH_len l
 have hal:=(allH_perm (popH (newH l)).2).length_eq
 split
 ·exact ⟨hM.wr hs ⟨by omega,(nb_le 1 (s + 1)).1⟩ ⟨by omega,fun y hy=>hk.2 y ((allH_perm _).mem_iff.1 hy)⟩ (fun h=>by omega),fun h=>by simp at h,hk.1⟩
 ·exact ⟨hM.mono,fun _=>{ hF.mono with ins:=fun h=>by simp only at h; omega,del:=fun _=>.inl rfl,enq:=fun h=>by simp only at h; omega,deq:=fun h=>by simp only at h; omega },noA_ok⟩
theorem betP_ok (a b:List It) (h:(betP a b).2=true):((betP a b).1=0 ∧ a ≠ []) ∨ ((betP a b).1=1 ∧ b ≠ []):=by
 cases a with
 | nil=>cases b with
  | nil=>simp [betP] at h
  | cons y t=>simp [betP]
 | cons x s=>cases b with
  | nil=>simp [betP]
  | cons y t=>simp only [betP]; split <;> simp
theorem si_del {p s M f} (hM:MI 1 s M) (hF:FI 1 s f) (hs:s ≤ 5000) (h1:f.o.k=2):SI 1 (s + 1) (delP p M f):=by
 unfold delP
 rcases hF.del h1 with hc | hc | ⟨hc,hd⟩
 ·rw [if_pos hc]
  exact ⟨hM.mono,fun _=>{ hF.mono with n0:=rd_n hM _,l0:=rd_l hM _,ins:=fun h=>by simp only at h; omega,del:=fun _=>.inr (.inl rfl),enq:=fun h=>by simp only at h; omega,deq:=fun h=>by simp only at h; omega },noA_ok⟩
 ·rw [if_neg (by omega),if_pos hc]
  refine ⟨hM.mono,fun hd=>?_,noA_ok⟩
  simp only [Bool.not_eq_false'] at hd
  have hb:=betP_ok _ _ hd
  exact { hF.mono with n1:=rd_n hM _,l1:=rd_l hM _,at_:=(by rcases hb with h | h <;> (simp only; omega)),ins:=fun h=>by simp only at h; omega,del:=fun _=>.inr (.inr ⟨rfl,hb⟩),enq:=fun h=>by simp only at h; omega,deq:=fun h=>by simp only at h; omega }
 ·rw [if_neg (by omega),if_neg (by omega)]
  rcases hd with ⟨ha,hl⟩ | ⟨ha,hl⟩
  ·rw [if_pos ha]; exact si_delW hM hF hs h1 hF.l0 hl
  ·rw [if_neg (by omega)]; exact si_delW hM hF hs h1 hF.l1 hl
theorem si_tally {p s M f} (hM:MI 3 s M) (hF:FI 3 s f) (hs:s ≤ 5000):SI 3 (s + 1) (tallyP p M f):=by
 have hk:=hF.kd
 unfold tallyP
 have hnb:=nb_small (k:=3) hs
 split
 ·rename_i h6
  have hn:=hM.num f.at_
  split
  ·exact ⟨hM.mono,fun _=>{ hF.mono with at_:=(by have:=hF.at_; simp only; omega),tot:=(by have:=hF.tot; simp only; omega),ins:=fun h=>by simp only at h; omega,del:=fun h=>by simp only at h; omega,enq:=fun h=>by simp only at h; omega,deq:=fun h=>by simp only at h; omega },noA_ok⟩
  ·exact ⟨hM.mono,fun h=>by simp at h,ok0⟩
 ·rename_i h6
  split
  ·exact ⟨hM.mono,fun _=>{ hF.mono with n0:=rd_n hM _,l0:=rd_l hM _,ins:=fun h=>by simp only at h; omega,del:=fun h=>by simp only at h; omega,enq:=fun h=>by simp only at h; omega,deq:=fun h=>by simp only at h; omega },noA_ok⟩
  ·split
   ·have h0:=hF.n0
    refine ⟨hM.wr hs ⟨by omega,?_⟩ ⟨by simp,by simp⟩ (fun h=>by omega),fun h=>by simp at h,ok0⟩
    unfold nb at h0 ⊢
    simp at h0 ⊢
    omega
   ·exact ⟨hM.mono,fun _=>{ hF.mono with ins:=fun h=>by simp only at h; omega,del:=fun h=>by simp only at h; omega,enq:=fun h=>by simp only at h; omega,deq:=fun h=>by simp only at h; omega },noA_ok⟩
theorem bump_num {s M} (hM:MI 4 s M) (hs:s ≤ 5000) (i:Nat):MI 4 (s + 1) (bumpM M i):=by
 unfold bumpM
 have h:=hM.num i
 refine hM.wr hs ⟨by omega,?_⟩ ⟨by simp,by simp⟩ (fun h=>by omega)
 unfold nb at h ⊢
 simp at h ⊢
 omega
theorem si_net {p s M f} (hw:widthN p) (hM:MI 4 s M) (hF:FI 4 s f) (hs:s ≤ 5000):SI 4 (s + 1) (netP p M f):=by
 have hk:=hF.kd
 obtain ⟨g1,g2,g3,g4⟩:=widthN_facts p hw
 have hp16:1 ≤ p ∧ p ≤ 16:=by unfold widthN at hw; omega
 have hin:=into_rng f.o.a p (by omega)
 unfold netP
 obtain ⟨g,hg⟩:∃ g,g=if f.pc=0 then { f with pc:=1,at_:=into f.o.a p } else f:=⟨_,rfl⟩
 rw [← hg]
 have hG:FI 4 (s + 1) g ∧ g.o=f.o:=by
  rw [hg]
  split
  ·exact ⟨{ hF.mono with at_:=(by simp only; omega),ins:=fun h=>by simp only at h; omega,del:=fun h=>by simp only at h; omega,enq:=fun h=>by simp only at h; omega,deq:=fun h=>by simp only at h; omega },rfl⟩
  ·exact ⟨hF.mono,rfl⟩
 have hgk:g.o.k=7:=by rw [hG.2]; omega
 simp only
 cases hq:gateF g.at_ ((gatesN p).drop g.seen.toNat) g.seen.toNat with
 | some i =>
  have hi:=gateF_get _ _ _ _ hq
  have hm:=g1 (gatesN p)[i] (List.getElem_mem hi.2)
  have hB:=bump_num hM hs i
  obtain ⟨at_,hat⟩:∃ at_:Int,at_=if (rdM M i).n.tmod 2=1 then ((gatesN p)[i]!.2:Int) else (gatesN p)[i]!.1:=⟨_,rfl⟩
  have har:0 ≤ at_ ∧ at_ ≤ 16:=by
   rw [hat,getElem!_pos (gatesN p) i hi.2]
   split <;> omega
  have hi80:i < 80:=by omega
  dsimp only
  rw [← hat]
  clear hat hm hi hq g1 g2 g3 g4 hg
  have hG1:=hG.1
  have hx:FI 4 (s + 1) { g with seen:=i + 1,at_:=at_ }:={ hG1 with seen:=(by simp only; omega),at_:=(by simp only; omega),ins:=fun h=>by simp only at h; omega,del:=fun h=>by simp only at h; omega,enq:=fun h=>by simp only at h; omega,deq:=fun h=>by simp only at h; omega }
  constructor
  ·dsimp only; exact hB
  ·intro _; exact hx
  ·exact noA_ok
 | none =>
  have hB:=bump_num hM hs ((gatesN p).length + placeF g.at_ (outsN p) 0)
  constructor
  ·dsimp only; exact hB
  ·intro h; cases h
  ·exact ok0
theorem slotK_ge {p f} (hp:1 ≤ p) (hs:0 ≤ f.seg):2 ≤ slotK p f:=by
 have h1:0 ≤ f.seg * (p:Int):=Int.mul_nonneg hs (by omega)
 have h2:=Int.emod_nonneg (f.at_ + f.seen) (show (p:Int) ≠ 0 by omega)
 unfold slotK; omega
theorem nb2 (s:Nat):nb 2 s=s + 2:=by simp [nb]
theorem si_enq {p s M f} (hp:1 ≤ p ∧ p ≤ 16) (hM:MI 2 s M) (hF:FI 2 s f) (hs:s ≤ 5000) (h1:f.o.k=3):SI 2 (s + 1) (enqP p M f):=by
 unfold enqP
 have hsg:=slotK_ge (p:=p) (f:=f) hp.1 hF.seg.1
 have hin:=into_rng f.o.a p (by omega)
 have c1:=hM.num 1
 rw [nb2] at c1
 have hseg:=hF.seg
 have hseen:=hF.seen
 split
 ·exact ⟨hM.mono,fun _=>{ hF.mono with n0:=rd_n hM _,l0:=rd_l hM _,seg:=(by simp only [begK,FrR.c0]; omega),at_:=(by simp only [begK,FrR.c0]; omega),seen:=(by simp only [begK]; omega),ins:=fun h=>by simp only [begK,FrR.c0] at h; omega,del:=fun h=>by simp only [begK,FrR.c0] at h; omega,enq:=fun _=>(by simp only [begK,FrR.c0]; omega),deq:=fun h=>by simp only [begK,FrR.c0] at h; omega },noA_ok⟩
 ·split
  ·split
   ·exact ⟨hM.mono,fun _=>{ hF.mono with n1:=rd_n hM _,l1:=rd_l hM _,ins:=fun h=>by simp only [FrR.c1] at h; omega,del:=fun h=>by simp only [FrR.c1] at h; omega,enq:=fun _=>.inr (.inr (.inl rfl)),deq:=fun h=>by simp only [FrR.c1] at h; omega },noA_ok⟩
   ·exact ⟨hM.mono,fun _=>{ hF.mono with n1:=rd_n hM _,l1:=rd_l hM _,seen:=(by simp only [FrR.c1]; omega),ins:=fun h=>by simp only [FrR.c1] at h; omega,del:=fun h=>by simp only [FrR.c1] at h; omega,enq:=fun _=>(by simp only [FrR.c1]; split <;> omega),deq:=fun h=>by simp only [FrR.c1] at h; omega },noA_ok⟩
  ·split
   ·split
    ·exact ⟨hM.wr hs ⟨by omega,by have:=nb_le 2 s; rw [nb2]; omega⟩ ⟨by simp,by simpa using canon_okI hF.it⟩ (fun _ _ _=>by simp),fun h=>by simp at h,canon_okI hF.it⟩
    ·exact ⟨hM.mono,fun _=>{ hF.mono with ins:=fun h=>by simp only at h; omega,del:=fun h=>by simp only at h; omega,enq:=fun _=>.inl rfl,deq:=fun h=>by simp only at h; omega },noA_ok⟩
   ·exact ⟨hM.wr hs ⟨by omega,by rw [nb2]; omega⟩ ⟨by simp,by simp⟩ (fun _ h=>by omega),fun _=>{ hF.mono with ins:=fun h=>by simp only at h; omega,del:=fun h=>by simp only at h; omega,enq:=fun _=>.inl rfl,deq:=fun h=>by simp only at h; omega },noA_ok⟩
theorem si_deq {p s M f} (hp:1 ≤ p ∧ p ≤ 16) (hM:MI 2 s M) (hF:FI 2 s f) (hs:s ≤ 5000) (h1:f.o.k=4):SI 2 (s + 1) (deqP p M f):=by
 have hsg:=slotK_ge (p:=p) (f:=f) hp.1 hF.seg.1
 have hin:=into_rng f.o.a p (by omega)
 have c0:=hM.num 0
 rw [nb2] at c0
 have hseg:=hF.seg
 have hseen:=hF.seen
 have hdq:=hF.deq h1
 unfold deqP
 split
 ·exact ⟨hM.mono,fun _=>{ hF.mono with n0:=rd_n hM _,l0:=rd_l hM _,seg:=(by simp only [FrR.c0]; omega),ins:=fun h=>by simp only [FrR.c0] at h; omega,del:=fun h=>by simp only [FrR.c0] at h; omega,enq:=fun h=>by simp only [FrR.c0] at h; omega,deq:=fun _=>.inr (.inl rfl) },noA_ok⟩
 ·split
  ·rename_i hc
   exact ⟨hM.mono,fun _=>{ hF.mono with n1:=rd_n hM _,l1:=rd_l hM _,at_:=(by simp only [begK,FrR.c1]; omega),seen:=(by simp only [begK]; omega),ins:=fun h=>by simp only [begK,FrR.c1] at h; omega,del:=fun h=>by simp only [begK,FrR.c1] at h; omega,enq:=fun h=>by simp only [begK,FrR.c1] at h; omega,deq:=fun _=>.inr (.inr (.inl (by simp only [begK,FrR.c1]; omega))) },noA_ok⟩
  ·split
   ·rename_i hc
    unfold lookP
    split
    ·rename_i hn
     have hf:=hM.full rfl _ hsg hn
     exact ⟨hM.mono,fun _=>{ hF.mono with n1:=rd_n hM _,l1:=rd_l hM _,ins:=fun h=>by simp only [FrR.c1] at h; omega,del:=fun h=>by simp only [FrR.c1] at h; omega,enq:=fun h=>by simp only [FrR.c1] at h; omega,deq:=fun _=>.inr (.inr (.inr (.inl ⟨rfl,hf⟩))) },noA_ok⟩
    ·split
     ·exact ⟨hM.mono,fun _=>{ hF.mono with seen:=(by simp only; omega),ins:=fun h=>by simp only at h; omega,del:=fun h=>by simp only at h; omega,enq:=fun h=>by simp only at h; omega,deq:=fun _=>.inr (.inr (.inl hc)) },noA_ok⟩
     ·exact ⟨hM.mono,fun _=>{ hF.mono with seen:=(by simp only; omega),ins:=fun h=>by simp only at h; omega,del:=fun h=>by simp only at h; omega,enq:=fun h=>by simp only at h; omega,deq:=fun _=>(by simp only; split <;> simp) },noA_ok⟩
   ·split
    ·rename_i hc
     have hl:f.l1 ≠ [] := by rcases hdq with h | h | h | ⟨_,h⟩ | h | h <;> first | exact h | omega
     split
     ·refine ⟨hM.wr hs ⟨by omega,by rw [nb2]; omega⟩ ⟨by simp,by simp⟩ (fun _ _ h=>by omega),fun h=>by simp at h,?_⟩
      cases h:f.l1 with
      | nil=>exact absurd h hl
      | cons x t=>simp only [h,List.headD_cons]; exact hF.l1.2 x (by rw [h]; simp)
     ·exact ⟨hM.mono,fun _=>{ hF.mono with ins:=fun h=>by simp only at h; omega,del:=fun h=>by simp only at h; omega,enq:=fun h=>by simp only at h; omega,deq:=fun _=>.inl rfl },noA_ok⟩
    ·split
     ·exact ⟨hM.wr hs ⟨by omega,by rw [nb2]; omega⟩ ⟨by simp,by simp⟩ (fun _ h=>by omega),fun _=>{ hF.mono with ins:=fun h=>by simp only at h; omega,del:=fun h=>by simp only at h; omega,enq:=fun h=>by simp only at h; omega,deq:=fun _=>.inl rfl },noA_ok⟩
     ·exact ⟨hM.wr hs ⟨by omega,by rw [nb2]; omega⟩ ⟨by simp,by simp⟩ (fun _ h=>by omega),fun _=>{ hF.mono with ins:=fun h=>by simp only at h; omega,del:=fun h=>by simp only at h; omega,enq:=fun h=>by simp only at h; omega,deq:=fun _=>.inl rfl },noA_ok⟩
theorem si_step {k:Int} {p s:Nat} {M f} (hl:legal k p=0) (hM:MI k s M) (hF:FI k s f) (hs:s ≤ 5000):SI k (s + 1) (stepP k p M f):=by
 have hp:1 ≤ p ∧ p ≤ 16:=by have:=legal_p hl; omega
 unfold stepP
 rcases hF.kd with ⟨rfl,h⟩ | ⟨rfl,h⟩ | ⟨rfl,h⟩ | ⟨rfl,h⟩
 ·rw [if_pos rfl]
  unfold multiP
  rcases h with h | h
  ·rw [if_pos h]; exact si_ins hM hF hs h
  ·rw [if_neg (by omega)]; exact si_del hM hF hs h
 ·rw [if_neg (by omega),if_pos rfl]
  unfold kfifoP
  rcases h with h | h
  ·rw [if_pos h]; exact si_enq hp hM hF hs h
  ·rw [if_neg (by omega)]; exact si_deq hp hM hF hs h
 ·rw [if_neg (by omega),if_neg (by omega),if_pos rfl]
  exact si_tally hM hF hs
 ·rw [if_neg (by omega),if_neg (by omega),if_neg (by omega)]
  exact si_net (legal_width hl) hM hF hs
end Go.AM

namespace Go.AM
def eEv (k:Nat) (o:Rw) (a:An) (d:Bool):D:=.a [.i .i64 k,.i .i64 o.k,.f .f64 o.x.p,.i .i64 o.x.v,.i .i64 o.a,.i .i64 o.b,.b d,.b a.ok,.f .f64 a.x.p,.i .i64 a.x.v,.i .i64 a.n]
def pickL (l:List Nat) (pick:Int):Option Nat:=if l=[] then none else l[(into pick l.length).toNat]?
theorem c_engine_Pick_none (e : Eng) (h6 : e.th.length = 6) (sg : List (List D)) (r : Nat) (hr : sg[r]? = some (eEng e)) (pick : Int) (hb : busyL e.th 0 = []) :
    LL.call n_engine_Engine_Pick [.p r 0,.i .i64 pick] sg sg.length=some (.t [eEv 0 ⟨0,⟨0,0⟩,0,0⟩ ⟨false,⟨0,0⟩,0⟩ false,.b false],sg,sg.length):=by
 have B:=c_engine_Busy e h6 sg r hr
 rw [hb] at B
 refine wp_call e_engine_Engine_Pick rfl ?_
 simp at B
 simp [F_engine_Engine_Pick,B,eEv]
theorem c_engine_PickG (e : Eng) (h6 : e.th.length = 6) (sg : List (List D)) (r : Nat) (hr : sg[r]? = some (eEng e)) (pick : Int) (k fr : Nat)
    (hk:pickL (busyL e.th 0) pick=some k) (hth:e.th[k]? = some (some fr)) (o:Rw) (rest F' MM:List D) (hf:sg[fr]? = some (.i .i64 o.k :: .f .f64 o.x.p :: .i .i64 o.x.v :: .i .i64 o.a :: .i .i64 o.b :: rest)) (hmr:e.m ≠ r) (hfr:fr ≠ r) (hst:e.st < 1000000000)
    (sa : An) (sd : Bool) (ty : TypeId) (d : D) (fn : FuncId) (hM : eMach e.k e.p = .ic ty d) (hme : EE.meth ty "Step" = some fn)
    (hS:LL.call fn [d,.p e.m 0,.p fr 0] sg sg.length=some (.t [eAn sa,.b sd],(sg.set e.m MM).set fr F',sg.length)) :
    LL.call n_engine_Engine_Pick [.p r 0,.i .i64 pick] sg sg.length =
     some (.t [eEv k o sa sd,.b true],((sg.set e.m MM).set fr F').set r (eEng { e with th:=if sd then e.th.set k none else e.th,st:=e.st + 1 }),sg.length):=by
 have B:=c_engine_Busy e h6 sg r hr
 obtain ⟨bl,hbl⟩:∃ bl,bl=busyL e.th 0:=⟨_,rfl⟩
 rw [← hbl] at B hk
 have hb0:bl ≠ [] := by intro h; simp [pickL,h] at hk
 have hblen:bl.length ≤ 6:=by
  have:∀ (l:List (Option Nat)) n,(busyL l n).length ≤ l.length:=by
   intro l
   induction l with
   | nil=>intro n; simp [busyL]
   | cons o t ih =>
    intro n
    cases o with
    | none=>simp only [busyL,List.length_cons]; have:=ih (n + 1); omega
    | some z=>simp only [busyL,List.length_cons]; have:=ih (n + 1); omega
  have:=this e.th 0
  rw [← hbl,h6] at this
  exact this
 have hb1:=List.length_pos_iff.2 hb0
 rw [pickL,if_neg hb0] at hk
 have I:=c_op_Into pick bl.length (by omega) sg
 have hin:=into_rng pick bl.length (by omega)
 obtain ⟨j,hj⟩:∃ j:Nat,into pick bl.length=j:=⟨(into pick bl.length).toNat,by omega⟩
 rw [hj] at I hk hin
 simp at hk
 have hjl:j < bl.length:=by omega
 have hbe:((bl.length:Int) == 0)=false:=by rw [beq_eq_false_iff_ne]; omega
 have hle:j + 1 ≤ bl.length:=by omega
 have hd1:List.take 1 (List.drop j (bl.map eN))=[eN k] := by
  rw [List.drop_eq_getElem_cons (by simpa using hjl)]
  have:=List.getElem?_eq_some_iff.1 hk
  simp [this.2]
 have hlt:=get_lt hr
 have hl:((sg.set e.m MM).set fr F').length=sg.length:=by simp
 have ha:((sg.set e.m MM).set fr F')[r]? = some (eEng e):=by
  rw [List.getElem?_set_ne hfr,List.getElem?_set_ne hmr]
  exact hr
 obtain ⟨sg1,hsg1⟩:∃ sg1,sg1=(sg.set e.m MM).set fr F':=⟨_,rfl⟩
 rw [← hsg1] at hS ha hl ⊢
 have hlt1:r < sg1.length:=by omega
 have hg:∀ a,(sg1.set r a)[r]? = some a:=fun a=>List.getElem?_set_self hlt1
 have htk:∀ a,List.take sg.length (sg1.set r a)=sg1.set r a:=fun a=>List.take_of_length_le (by simp; omega)
 have hk6:k < 6:=by
  have:=(List.getElem?_eq_some_iff.1 hth).1
  omega
 simp [eAn] at hS
 obtain ⟨ek,ep,em,th,cl,st⟩:=e
 simp only at hM hth hst
 obtain ⟨a,b,c,y,z,x,rfl⟩:=six h6
 have w1:IntKind.i64.wrap ((st:Int) + 1)=st + 1:=wrap64 (by omega)
 refine wp_call e_engine_Engine_Pick rfl ?_
 have hkc:k=0 ∨ k=1 ∨ k=2 ∨ k=3 ∨ k=4 ∨ k=5:=by omega
 rcases hkc with rfl | rfl | rfl | rfl | rfl | rfl
 all_goals
  simp at hth
  subst hth
  simp [eEng,hM,eFp] at hr ha
  cases hd:sd
  ·subst hd
   simp [F_engine_Engine_Pick,B,I,hbe,hle,hd1,hk,eN,hr,hf,hM,hme,hS,ha,hg,w1,eEv,eEng,eFp,htk]
  ·subst hd
   simp [F_engine_Engine_Pick,B,I,hbe,hle,hd1,hk,eN,hr,hf,hM,hme,hS,ha,hg,w1,eEv,eEng,eFp,htk]
end Go.AM

namespace Go.AM
theorem mt_multi : EE.meth t_multi_Multi "Step" = some n_multi_Multi_Step := by kernel_rfl
theorem mt_kfifo : EE.meth t_kfifo_Queue "Step" = some n_kfifo_Queue_Step := by kernel_rfl
theorem mt_tally : EE.meth t_tally_Tally "Step" = some n_tally_Tally_Step := by kernel_rfl
theorem mt_net : EE.meth t_net_Net "Step" = some n_net_Net_Step := by kernel_rfl
theorem delW_o (M:Mem) (f:FrR) (a v l):(delW M f a v l).f.o=f.o:=by unfold delW; split <;> rfl
theorem netP_o (p:Nat) (M:Mem) (f:FrR):(netP p M f).f.o=f.o:=by
 unfold netP
 simp only
 split <;> (dsimp only; split <;> rfl)
theorem stepP_o (k:Int) (p:Nat) (M:Mem) (f:FrR):(stepP k p M f).f.o=f.o:=by
 unfold stepP
 split
 ·unfold multiP insP delP
  repeat' split
  all_goals first | rfl | exact delW_o _ _ _ _ _
 ·split
  ·unfold kfifoP enqP deqP lookP
   repeat' split
   all_goals rfl
  ·split
   ·unfold tallyP
    repeat' split
    all_goals rfl
   ·exact netP_o p M f
def kOK (K:K) (f:FrR):Prop:=K=.o ∨ (K=.z ∧ f.o.k=4)
theorem c_kfifo_Step (p : Nat) (hp : 1 ≤ p ∧ p ≤ 16) (M : Mem) (hM : M.good) (f : FrR) (hs : f.small) (KK : K) (hK : kOK KK f) (sg : List (List D)) (m fr : Nat) (hm : sg[m]? = some (eMem M)) (hf : sg[fr]? = some (eFrPK KK f)) (hne : m ≠ fr) (hseg : 0 ≤ f.seg ∧ f.seg ≤ 1000000)
    (hk:f.o.k=3 ∨ f.o.k=4) (henq:f.o.k=3 → f.pc=0 ∨ f.pc=1 ∨ f.pc=2 ∨ f.pc=3) (hdeq:f.o.k=4 → f.pc=0 ∨ f.pc=1 ∨ f.pc=2 ∨ (f.pc=3 ∧ f.l1 ≠ []) ∨ f.pc=4 ∨ f.pc=5) :
    ∃ K',(K'=.o ∨ (K'=.z ∧ f.o.k=4)) ∧ LL.call n_kfifo_Queue_Step [.a [.i .i64 p],.p m 0,.p fr 0] sg sg.length =
     some (.t [eAn (kfifoP p M f).a,.b (kfifoP p M f).d],(sg.set m (eMem (kfifoP p M f).m)).set fr (eFrPK K' (kfifoP p M f).f),sg.length):=by
 unfold kfifoP
 by_cases h3:f.o.k=3
 ·rw [if_pos h3]
  have hKo:KK=.o:=by rcases hK with h | ⟨_,h⟩; exact h; omega
  subst hKo
  refine ⟨.o,.inl rfl,?_⟩
  have E:=c_kfifo_enq p hp M hM f hs sg m fr hm hf hne hseg (henq h3)
  have hf':=hf
  simp [eFrPK,h3] at hf'
  have hl:(after sg m fr (enqP p M f)).length=sg.length:=by simp [after]
  have he:(sg.set m (eMem (enqP p M f).m)).set fr (eFrPK .o (enqP p M f).f)=after sg m fr (enqP p M f):=rfl
  rw [he]
  refine wp_call e_kfifo_Queue_Step rfl ?_
  simp [eAn] at E
  simp [F_kfifo_Queue_Step,hf',E,eAn]
  exact List.take_of_length_le (by omega)
 ·rw [if_neg h3]
  have h4:f.o.k=4:=by omega
  have hKz:KK=.o ∨ KK=.z:=by rcases hK with h | ⟨h,_⟩; exact .inl h; exact .inr h
  have E:=c_kfifo_deq p hp M hM f hs KK hKz sg m fr hm hf hne hseg (hdeq h4)
  obtain ⟨K',hK'⟩:∃ K',K'=(if f.pc=1 then K.o else if f.pc=2 ∧ (rdM M (slotK p f)).n=1 then K.z else KK):=⟨_,rfl⟩
  rw [← hK'] at E
  refine ⟨K',?_,?_⟩
  ·rw [hK']
   split
   ·exact .inl rfl
   ·split
    ·exact .inr ⟨rfl,h4⟩
    ·rcases hKz with h | h
     ·exact .inl h
     ·exact .inr ⟨h,h4⟩
  have hf':=hf
  simp [eFrPK,h4] at hf'
  have hl:(afterK K' sg m fr (deqP p M f)).length=sg.length:=by simp [afterK]
  have he:(sg.set m (eMem (deqP p M f).m)).set fr (eFrPK K' (deqP p M f).f)=afterK K' sg m fr (deqP p M f):=rfl
  rw [he]
  refine wp_call e_kfifo_Queue_Step rfl ?_
  simp [eAn] at E
  simp [F_kfifo_Queue_Step,hf',E,eAn]
  exact List.take_of_length_le (by omega)
theorem c_step (k : Int) (p s : Nat) (hl : legal k p = 0) (hs : s ≤ 5000) (M : Mem) (hM : MI k s M) (f : FrR) (hF : FI k s f) (KK : K) (hK : kOK KK f) (sg : List (List D)) (m fr : Nat) (hm : sg[m]? = some (eMem M)) (hf : sg[fr]? = some (eFrPK KK f)) (hne : m ≠ fr) :
    ∃ ty d fn K', eMach k p = .ic ty d ∧ EE.meth ty "Step" = some fn ∧ kOK K' (stepP k p M f).f ∧
     LL.call fn [d,.p m 0,.p fr 0] sg sg.length=some (.t [eAn (stepP k p M f).a,.b (stepP k p M f).d],(sg.set m (eMem (stepP k p M f).m)).set fr (eFrPK K' (stepP k p M f).f),sg.length):=by
 have hp:1 ≤ p ∧ p ≤ 16:=by have:=legal_p hl; omega
 have hsm:=hF.small hs
 have ho:=stepP_o k p M f
 unfold kOK
 rw [ho]
 unfold stepP
 rcases hF.kd with ⟨rfl,h⟩ | ⟨rfl,h⟩ | ⟨rfl,h⟩ | ⟨rfl,h⟩
 ·have hKo:KK=.o:=by rcases hK with h' | ⟨_,h'⟩; exact h'; omega
  subst hKo
  rw [if_pos rfl]
  exact ⟨t_multi_Multi,_,n_multi_Multi_Step,.o,rfl,mt_multi,.inl rfl,c_multi_Step p hp M hM.good f hsm sg m fr hm hf hne (fun h1=>hF.del (by omega))⟩
 ·rw [if_neg (by omega),if_pos rfl]
  obtain ⟨K',h1,h2⟩:=c_kfifo_Step p hp M hM.good f hsm KK hK sg m fr hm hf hne (by have:=hF.seg; omega) h hF.enq hF.deq
  exact ⟨t_kfifo_Queue,_,n_kfifo_Queue_Step,K',rfl,mt_kfifo,h1,h2⟩
 ·have hKo:KK=.o:=by rcases hK with h' | ⟨_,h'⟩; exact h'; omega
  subst hKo
  rw [if_neg (by omega),if_neg (by omega),if_pos rfl]
  exact ⟨t_tally_Tally,_,n_tally_Tally_Step,.o,rfl,mt_tally,.inl rfl,c_tally_Step p hp M hM.good f hsm sg m fr hm hf hne (fun h1=>by omega)⟩
 ·have hKo:KK=.o:=by rcases hK with h' | ⟨_,h'⟩; exact h'; omega
  subst hKo
  rw [if_neg (by omega),if_neg (by omega),if_neg (by omega)]
  exact ⟨t_net_Net,_,n_net_Net_Step,.o,rfl,mt_net,.inl rfl,c_net_Step p (legal_width hl) M hM.good f hsm sg m fr hm hf hne⟩
def busyO {α : Type}:List (Option α) → Nat → List Nat
 | [],_=>[]
 | none :: r,i=>busyO r (i + 1)
 | some _ :: r,i=>i :: busyO r (i + 1)
theorem busyL_O:∀ (l:List (Option Nat)) (n:Nat),busyL l n=busyO l n
 | [],n=>rfl
 | none :: r,n=>by simp only [busyL,busyO,busyL_O r]
 | some _ :: r,n=>by simp only [busyL,busyO,busyL_O r]
theorem busyO_eq {α β : Type}:∀ (l:List (Option α)) (m:List (Option β)) (n:Nat),l.length=m.length → (∀ i:Nat,(l[i]?).join.isSome=(m[i]?).join.isSome) → busyO l n=busyO m n
 | [],[],n,_,_=>rfl
 | a :: l,b :: m,n,hl,h=>by
  have h0:=h 0
  have ih:=busyO_eq l m (n + 1) (by simpa using hl) (fun i=>by have:=h (i + 1); simpa using this)
  cases a <;> cases b <;> simp at h0 <;> simp [busyO,ih]
structure Rep (sg:List (List D)) (r:Nat) (e:Eng) (M:Mem) (fs:List (Option FrR)):Prop where
 hr:sg[r]? = some (eEng e)
 hm:sg[e.m]? = some (eMem M)
 h6:e.th.length=6
 f6:fs.length=6
 fr:∀ (i q:Nat),e.th[i]? = some (some q) → ∃ f K,fs[i]? = some (some f) ∧ kOK K f ∧ sg[q]? = some (eFrPK K f)
 nn:∀ i:Nat,e.th[i]? = some none → fs[i]? = some none
 rm:e.m ≠ r
 qr:∀ (i q:Nat),e.th[i]? = some (some q) → q ≠ r ∧ q ≠ e.m
 qq:∀ (i j q:Nat),e.th[i]? = some (some q) → e.th[j]? = some (some q) → i=j
def own (r:Nat) (e:Eng) (x:Nat):Prop:=x=r ∨ x=e.m ∨ ∃ i:Nat,e.th[i]? = some (some x)
theorem Rep.keep {sg sg' r e M fs} (h:Rep sg r e M fs) (hk:∀ x,own r e x → sg'[x]? = sg[x]?):Rep sg' r e M fs :=
 ⟨by rw [hk r (.inl rfl)]; exact h.hr,by rw [hk e.m (.inr (.inl rfl))]; exact h.hm,h.h6,h.f6,fun i q hq=>by
  obtain ⟨f,K,a,b,c⟩:=h.fr i q hq
  exact ⟨f,K,a,b,by rw [hk q (.inr (.inr ⟨i,hq⟩))]; exact c⟩,h.nn,h.rm,h.qr,h.qq⟩
theorem Rep.lt {sg r e M fs} (h:Rep sg r e M fs) {x:Nat} (hx:own r e x):x < sg.length:=by
 rcases hx with rfl | rfl | ⟨i,hi⟩
 ·exact get_lt h.hr
 ·exact get_lt h.hm
 ·obtain ⟨f,K,a,b,c⟩:=h.fr i x hi
  exact get_lt c
theorem Rep.get {sg r e M fs} (h:Rep sg r e M fs) {k:Nat} {f:FrR} (hf:fs[k]? = some (some f)):∃ q K,e.th[k]? = some (some q) ∧ kOK K f ∧ sg[q]? = some (eFrPK K f):=by
 have hk:k < e.th.length:=by rw [h.h6,← h.f6]; exact (List.getElem?_eq_some_iff.1 hf).1
 cases ht:e.th[k] with
 | none =>
  have:=h.nn k (by rw [List.getElem?_eq_getElem hk,ht])
  rw [this] at hf; cases hf
 | some q =>
  have hq:e.th[k]? = some (some q):=by rw [List.getElem?_eq_getElem hk,ht]
  obtain ⟨f',K,a,b,c⟩:=h.fr k q hq
  rw [a] at hf
  injection hf with hf; injection hf with hf; subst hf
  exact ⟨q,K,hq,b,c⟩
theorem Rep.busy {sg r e M fs} (h:Rep sg r e M fs):busyL e.th 0=busyO fs 0:=by
 rw [busyL_O]
 refine busyO_eq _ _ 0 (by rw [h.h6,h.f6]) (fun i=>?_)
 cases hi:e.th[i]? with
 | none =>
  have:fs[i]? = none:=by rw [List.getElem?_eq_none_iff] at hi ⊢; rw [h.f6,← h.h6]; exact hi
  rw [this]; rfl
 | some o =>
  cases o with
  | none=>rw [h.nn i hi]; rfl
  | some q =>
   obtain ⟨f,K,a,_⟩:=h.fr i q hi
   rw [a]; rfl
end Go.AM

namespace Go.AM
theorem rep_pick_none {sg r e M fs} (h : Rep sg r e M fs) (pick : Int) (hb : busyO fs 0 = []) :
    LL.call n_engine_Engine_Pick [.p r 0,.i .i64 pick] sg sg.length=some (.t [eEv 0 ⟨0,⟨0,0⟩,0,0⟩ ⟨false,⟨0,0⟩,0⟩ false,.b false],sg,sg.length) :=
 c_engine_Pick_none e h.h6 sg r h.hr pick (by rw [h.busy]; exact hb)
theorem rep_pick {sg r e M fs} (h : Rep sg r e M fs) (s : Nat) (hs : s ≤ 5000) (hl : legal e.k e.p = 0) (hst : e.st < 1000000000) (hM : MI e.k s M) (hF : ∀ (i : Nat) f, fs[i]? = some (some f) → FI e.k s f)
    (pick:Int) (k:Nat) (hk:pickL (busyO fs 0) pick=some k) (f:FrR) (hf:fs[k]? = some (some f)) :
    ∃ sg' e',LL.call n_engine_Engine_Pick [.p r 0,.i .i64 pick] sg sg.length=some (.t [eEv k f.o (stepP e.k e.p M f).a (stepP e.k e.p M f).d,.b true],sg',sg.length) ∧ sg'.length=sg.length ∧
     Rep sg' r e' (stepP e.k e.p M f).m (fs.set k (if (stepP e.k e.p M f).d then none else some (stepP e.k e.p M f).f)) ∧ e'.k=e.k ∧ e'.p=e.p ∧ e'.m=e.m ∧ e'.cl=e.cl ∧ e'.st=e.st + 1 ∧
     (∀ x,¬ own r e x → sg'[x]? = sg[x]?) ∧ (∀ (i q:Nat),e'.th[i]? = some (some q) → e.th[i]? = some (some q)):=by
 obtain ⟨q,KK,h1,h2,h3⟩:=h.get hf
 obtain ⟨hq1,hq2⟩:=h.qr k q h1
 obtain ⟨ty,d,fn,K',a1,a2,a3,a4⟩:=c_step e.k e.p s hl hs M hM f (hF k f hf) KK h2 sg e.m q h.hm h3 (Ne.symm hq2)
 generalize hso:stepP e.k e.p M f=so at *
 have P:=c_engine_PickG e h.h6 sg r h.hr pick k q (by rw [h.busy]; exact hk) h1 f.o _ (eFrPK K' so.f) (eMem so.m) h3 h.rm hq1 hst so.a so.d ty d fn a1 a2 a4
 obtain ⟨e',he'⟩:∃ e',e'=({ e with th:=if so.d then e.th.set k none else e.th,st:=e.st + 1 }:Eng):=⟨_,rfl⟩
 rw [← he'] at P
 have hkl:k < e.th.length:=(List.getElem?_eq_some_iff.1 h1).1
 have hth:∀ (i z:Nat),e'.th[i]? = some (some z) → e.th[i]? = some (some z) ∧ (so.d=true → i ≠ k):=by
  intro i z hz
  rw [he'] at hz
  simp only at hz
  split at hz
  ·rename_i hd
   rw [List.getElem?_set] at hz
   split at hz
   ·simp at hz
   ·exact ⟨hz,fun _=>by omega⟩
  ·rename_i hd
   exact ⟨hz,fun h=>absurd h hd⟩
 have hlt_r:=get_lt h.hr
 have hlt_m:=get_lt h.hm
 have hlt_q:=get_lt h3
 obtain ⟨sg',hsg'⟩:∃ sg',sg'=((sg.set e.m (eMem so.m)).set q (eFrPK K' so.f)).set r (eEng e'):=⟨_,rfl⟩
 rw [← hsg'] at P
 have hother:∀ x,x ≠ r → x ≠ e.m → x ≠ q → sg'[x]? = sg[x]? := by
  intro x x1 x2 x3
  rw [hsg',List.getElem?_set_ne (Ne.symm x1),List.getElem?_set_ne (Ne.symm x3),List.getElem?_set_ne (Ne.symm x2)]
 have hm':e'.m=e.m:=by rw [he']
 refine ⟨sg',e',P,by rw [hsg']; simp,?_,by rw [he'],by rw [he'],hm',by rw [he'],by rw [he'],?_,fun i z hz=>(hth i z hz).1⟩
 ·refine ⟨?_,?_,?_,by simp [h.f6],?_,?_,by rw [hm']; exact h.rm,fun i z hz=>by rw [hm']; exact h.qr i z (hth i z hz).1,fun i j z hi hj=>h.qq i j z (hth i z hi).1 (hth j z hj).1⟩
  ·rw [hsg']; exact List.getElem?_set_self (by simpa using hlt_r)
  ·rw [hm',hsg',List.getElem?_set_ne (Ne.symm h.rm),List.getElem?_set_ne hq2]
   exact List.getElem?_set_self hlt_m
  ·rw [he']
   simp only
   split
   ·simp [h.h6]
   ·exact h.h6
  ·intro i z hz
   obtain ⟨z1,z2⟩:=hth i z hz
   by_cases hik:i=k
   ·subst hik
    have hd:so.d=false:=by
     cases hd:so.d with
     | false=>rfl
     | true=>exact absurd rfl (z2 hd)
    rw [h1] at z1
    injection z1 with z1; injection z1 with z1; subst z1
    refine ⟨so.f,K',?_,a3,?_⟩
    ·rw [hd]
     have:i < fs.length:=(List.getElem?_eq_some_iff.1 hf).1
     simp [List.getElem?_set,this]
    ·rw [hsg',List.getElem?_set_ne (Ne.symm hq1)]
     exact List.getElem?_set_self (by simpa using hlt_q)
   ·obtain ⟨f',K,b1,b2,b3⟩:=h.fr i z z1
    obtain ⟨c1,c2⟩:=h.qr i z z1
    have hzq:z ≠ q:=fun e=>hik (h.qq i k z z1 (by rw [e]; exact h1))
    exact ⟨f',K,by rw [List.getElem?_set_ne (Ne.symm hik)]; exact b1,b2,by rw [hother z c1 c2 hzq]; exact b3⟩
  ·intro i hi
   rw [he'] at hi
   simp only at hi
   by_cases hik:i=k
   ·subst hik
    have hfl:i < fs.length:=(List.getElem?_eq_some_iff.1 hf).1
    cases hd:so.d with
    | true=>simp [List.getElem?_set,hfl]
    | false =>
     rw [hd] at hi
     simp at hi
     rw [h1] at hi; cases hi
   ·rw [List.getElem?_set_ne (Ne.symm hik)]
    refine h.nn i ?_
    split at hi
    ·rwa [List.getElem?_set_ne (Ne.symm hik)] at hi
    ·exact hi
 ·intro x hx
  exact hother x (fun e=>hx (.inl e)) (fun e=>hx (.inr (.inl e))) (fun e'=>hx (.inr (.inr ⟨k,by rw [e']; exact h1⟩)))
def begO (k:Int) (cl:Bool) (fs:List (Option FrR)) (t:Int) (o:Rw):Int:=if t < 0 ∨ 6 ≤ t then 4 else if cl then 12 else if checkO k o.k o.x.v ≠ 0 then checkO k o.k o.x.v else if (fs[t.toNat]?).join.isSome then 11 else 0
theorem rep_begE {sg r e M fs} (h:Rep sg r e M fs) (t:Int) (o:Rw):begE e t o=begO e.k e.cl fs t o:=by
 have hs:(e.th[t.toNat]?).join.isSome=(fs[t.toNat]?).join.isSome:=by
  cases hi:e.th[t.toNat]? with
  | none =>
   have:fs[t.toNat]? = none:=by rw [List.getElem?_eq_none_iff] at hi ⊢; rw [h.f6,← h.h6]; exact hi
   rw [this]; rfl
  | some o =>
   cases o with
   | none=>rw [h.nn _ hi]; rfl
   | some q =>
    obtain ⟨f,K,a,_⟩:=h.fr _ q hi
    rw [a]; rfl
 unfold begE begO
 rw [hs]
theorem rep_begin_no {sg r e M fs} (h : Rep sg r e M fs) (t : Int) (o : Rw) (hb : begO e.k e.cl fs t o ≠ 0) :
    LL.call n_engine_Engine_Begin [.p r 0,.i .i64 t,eOp o] sg sg.length=some (.i .i64 (begO e.k e.cl fs t o),sg,sg.length):=by
 have B:=c_engine_Begin e h.h6 t o sg r h.hr
 rw [rep_begE h,if_neg hb] at B
 exact B
theorem rep_begin {sg r e M fs} (h : Rep sg r e M fs) (t : Int) (o : Rw) (hb : begO e.k e.cl fs t o = 0) :
    ∃ sg' e',LL.call n_engine_Engine_Begin [.p r 0,.i .i64 t,eOp o] sg sg.length=some (.i .i64 0,sg',r) ∧ sg'.length=sg.length + 1 ∧
     Rep sg' r e' M (fs.set t.toNat (some (begF o))) ∧ e'.k=e.k ∧ e'.p=e.p ∧ e'.m=e.m ∧ e'.cl=e.cl ∧ e'.st=e.st ∧
     (∀ x,x < sg.length → x ≠ r → sg'[x]? = sg[x]?) ∧ (∀ (i q:Nat),e'.th[i]? = some (some q) → e.th[i]? = some (some q) ∨ q=sg.length):=by
 have B:=c_engine_Begin e h.h6 t o sg r h.hr
 rw [rep_begE h,if_pos hb] at B
 obtain ⟨e',he'⟩:∃ e',e'=({ e with th:=e.th.set t.toNat (some sg.length) }:Eng):=⟨_,rfl⟩
 rw [← he'] at B
 have hlt_r:=get_lt h.hr
 have hlt_m:=get_lt h.hm
 have ht:t.toNat < 6:=by
  unfold begO at hb
  split at hb
  ·cases hb
  ·omega
 obtain ⟨sg',hsg'⟩:∃ sg',sg'=sg.set r (eEng e') ++ [eFrP (begF o)] := ⟨_,rfl⟩
 rw [← hsg'] at B
 have hold:∀ x,x < sg.length → x ≠ r → sg'[x]? = sg[x]? := by
  intro x x1 x2
  rw [hsg',List.getElem?_append_left (by simpa using x1),List.getElem?_set_ne (Ne.symm x2)]
 have hth:∀ (i z:Nat),e'.th[i]? = some (some z) → (i ≠ t.toNat ∧ e.th[i]? = some (some z)) ∨ (i=t.toNat ∧ z=sg.length):=by
  intro i z hz
  rw [he'] at hz
  simp only at hz
  rw [List.getElem?_set] at hz
  split at hz
  ·rename_i e1
   split at hz
   ·injection hz with hz; injection hz with hz; exact .inr ⟨e1.symm,hz.symm⟩
   ·cases hz
  ·rename_i e1
   exact .inl ⟨fun e=>e1 e.symm,hz⟩
 have hm':e'.m=e.m:=by rw [he']
 have hql:∀ (i z:Nat),e.th[i]? = some (some z) → z < sg.length:=fun i z hz=>h.lt (.inr (.inr ⟨i,hz⟩))
 refine ⟨sg',e',B,by rw [hsg']; simp,?_,by rw [he'],by rw [he'],hm',by rw [he'],by rw [he'],hold,fun i z hz=>by rcases hth i z hz with h | h; exact .inl h.2; exact .inr h.2⟩
 refine ⟨?_,?_,by rw [he']; simp [h.h6],by simp [h.f6],?_,?_,by rw [hm']; exact h.rm,?_,?_⟩
 ·rw [hsg',List.getElem?_append_left (by simpa using hlt_r)]
  exact List.getElem?_set_self hlt_r
 ·rw [hm',hold e.m hlt_m h.rm]; exact h.hm
 ·intro i z hz
  rcases hth i z hz with ⟨e1,e2⟩ | ⟨e1,e2⟩
  ·obtain ⟨f',K,b1,b2,b3⟩:=h.fr i z e2
   exact ⟨f',K,by rw [List.getElem?_set_ne (Ne.symm e1)]; exact b1,b2,by rw [hold z (hql i z e2) (h.qr i z e2).1]; exact b3⟩
  ·subst e1 e2
   refine ⟨begF o,.o,List.getElem?_set_self (by rw [h.f6]; exact ht),.inl rfl,?_⟩
   rw [hsg',List.getElem?_append_right (by simp)]
   simp; rfl
 ·intro i hi
  rw [he'] at hi
  simp only at hi
  rw [List.getElem?_set] at hi
  split at hi
  ·split at hi
   ·simp at hi
   ·cases hi
  ·rename_i e1
   rw [List.getElem?_set_ne e1]
   exact h.nn i hi
 ·intro i z hz
  rw [hm']
  rcases hth i z hz with ⟨e1,e2⟩ | ⟨e1,e2⟩
  ·exact h.qr i z e2
  ·subst e2; exact ⟨by omega,by omega⟩
 ·intro i j z hi hj
  rcases hth i z hi with ⟨e1,e2⟩ | ⟨e1,e2⟩ <;> rcases hth j z hj with ⟨e3,e4⟩ | ⟨e3,e4⟩
  ·exact h.qq i j z e2 e4
  ·have:=hql i z e2; omega
  ·have:=hql j z e4; omega
  ·omega
end Go.AM

namespace Go.AM
def phi (c:FrR → Nat):List (Option FrR) → Nat
 | [] => 0
 | none :: r=>phi c r
 | some f :: r=>c f + phi c r
def oc (c:FrR → Nat):Option FrR → Nat
 | none=>0
 | some f=>c f
theorem phi_set (c:FrR → Nat):∀ (fs:List (Option FrR)) (n:Nat) (o a:Option FrR),fs[n]? = some a → phi c (fs.set n o) + oc c a=phi c fs + oc c o
 | [],n,o,a,h=>by simp at h
 | x :: r,0,o,a,h=>by
  simp at h
  subst h
  cases x <;> cases o <;> simp [phi,oc] <;> omega
 | x :: r,n + 1,o,a,h=>by
  simp at h
  have ih:=phi_set c r n o a h
  cases x <;> simp [phi] <;> omega
def costA (k:Int) (p:Nat) (M:Mem) (f:FrR):Nat :=
 if k=4 then 19 + ((gatesN p).length + 1 - f.seen.toNat)
 else if f.o.k=6 then 19 + (p - f.at_).toNat + 1
 else if f.o.k=2 then (if f.pc=0 then 22 else if f.pc=1 then (if wrB M (into f.o.a p) f.v0 then 21 else 24) else if f.at_=0 then (if wrB M (into f.o.a p) f.v0 then 20 else 23) else (if wrB M (into f.o.b p) f.v1 then 20 else 23))
 else (if f.pc=0 then 21 else if wrB M (into f.o.a p) f.v0 then 20 else 22)
theorem into_lt (d:Int) {p:Nat} (hp:1 ≤ p ∧ p ≤ 16):0 ≤ into d p ∧ into d p < p:=by
 have:=into_rng d p (by omega)
 omega
end Go.AM

namespace Go.AM
def s0 (p:Nat) (s:Int):Int:=2 + s * p
theorem s0_ge (p:Nat) {s:Int} (h:0 ≤ s):2 ≤ s0 p s:=by
 have:=Int.mul_nonneg h (show (0:Int) ≤ p by omega)
 unfold s0; omega
structure Tr (M M':Mem):Prop where
 t:(rdM M 1).n ≤ (rdM M' 1).n
 nz:∀ i,2 ≤ i → (rdM M i).n ≠ 0 → (rdM M' i).n ≠ 0
 ck:M.ck ≤ M'.ck
 old:∀ i,rdM M' i=rdM M i ∨ M.ck < (rdM M' i).v
theorem Tr.rfl' (M:Mem):Tr M M:=⟨Int.le_refl _,fun _ _ h=>h,Nat.le_refl _,fun _=>.inl rfl⟩
theorem Tr.put (M:Mem) (i:Nat) (n:Int) (l:List It) (h1:i=1 → (rdM M 1).n ≤ n) (h2:2 ≤ i → n ≠ 0):Tr M (putM M i n l):=by
 refine ⟨?_,fun j hj hn=>?_,by simp [putM],fun j=>?_⟩
 ·rw [rdM_putM]; split
  ·rename_i e; exact h1 (by omega)
  ·exact Int.le_refl _
 ·rw [rdM_putM]; split
  ·rename_i e; exact h2 (by omega)
  ·exact hn
 ·rw [rdM_putM]; split
  ·right; simp
  ·left; rfl
structure KM (p s:Nat) (M:Mem):Prop where
 ht:(rdM M 0).n ≤ (rdM M 1).n
 up:∀ x,(rdM M 1).n < x → (rdM M (s0 p x)).n=0
 vck:∀ i,(rdM M i).v ≤ M.ck
 pt:p * (rdM M 1).n ≤ s
structure KF (p s:Nat) (M:Mem) (f:FrR):Prop where
 enq:f.o.k=3 → f.pc ≠ 0 → fitsK p f.seg=true ∧ 0 ≤ f.seg ∧ f.seg ≤ (rdM M 1).n ∧ f.v0 ≤ M.ck ∧ (f.v0=(rdM M 1).v → (rdM M 1).n=f.seg ∧ p * f.seg + f.seen ≤ s)
 enq1:f.o.k=3 → f.pc=1 → f.seen < p ∧ ∀ j,0 ≤ j → j < f.seen → (f.at_ + j) % p=0 → (rdM M (s0 p f.seg)).n ≠ 0
 enq3:f.o.k=3 → f.pc=3 → f.seen=p ∧ (rdM M (s0 p f.seg)).n ≠ 0
 deq:f.o.k=4 → f.pc ≠ 0 → 0 ≤ f.seg ∧ f.seg ≤ (rdM M 1).n ∧ f.v0 ≤ M.ck ∧ (f.v0=(rdM M 0).v → (rdM M 0).n=f.seg)
 deq2:f.o.k=4 → f.pc=2 → f.seen < p ∧ (f.em=false → ∀ j,0 ≤ j → j < f.seen → (f.at_ + j) % p=0 → (rdM M (s0 p f.seg)).n ≠ 0)
 deqt:f.o.k=4 → (f.pc=2 ∨ f.pc=4 ∨ f.pc=5) → f.v1 ≤ M.ck ∧ f.seg ≤ f.n1 ∧ f.n1 ≤ (rdM M 1).n ∧ (f.v1=(rdM M 1).v → (rdM M 1).n=f.n1 ∧ p * f.n1 + f.seen ≤ s)
 deq3:f.o.k=4 → f.pc=3 → f.v1 ≤ M.ck ∧ (f.v1=(rdM M (slotK p f)).v → (rdM M (slotK p f)).n=1)
 deq4:f.o.k=4 → f.pc=4 → f.n1=f.seg ∧ f.seen=p ∧ (rdM M (s0 p f.seg)).n ≠ 0
 deq5:f.o.k=4 → f.pc=5 → f.n1 ≠ f.seg
theorem KF.keep {p s M M' f} (h:KF p s M f) (T:Tr M M'):KF p (s + 1) M' f:=by
 have ht:=T.t
 have hc:=T.ck
 have fresh:∀ (v:Nat) (i:Int),v ≤ M.ck → v=(rdM M' i).v → rdM M' i=rdM M i:=by
  intro v i h1 h2
  rcases T.old i with e | e
  ·exact e
  ·omega
 refine ⟨fun a b=>?_,fun a b=>?_,fun a b=>?_,fun a b=>?_,fun a b=>?_,fun a b=>?_,fun a b=>?_,fun a b=>?_,h.deq5⟩
 ·obtain ⟨h1,h2,h3,h4,h5⟩:=h.enq a b
  refine ⟨h1,h2,by omega,by omega,fun e=>?_⟩
  have:=fresh _ _ h4 e
  rw [this] at e ⊢
  have:=h5 e
  omega
 ·obtain ⟨h1,h2⟩:=h.enq1 a b
  obtain ⟨_,q,_⟩:=h.enq a (by omega)
  exact ⟨h1,fun j j1 j2 j3=>T.nz _ (s0_ge p q) (h2 j j1 j2 j3)⟩
 ·obtain ⟨h1,h2⟩:=h.enq3 a b
  obtain ⟨_,q,_⟩:=h.enq a (by omega)
  exact ⟨h1,T.nz _ (s0_ge p q) h2⟩
 ·obtain ⟨h2,h3,h4,h5⟩:=h.deq a b
  refine ⟨h2,by omega,by omega,fun e=>?_⟩
  have:=fresh _ _ h4 e
  rw [this] at e ⊢
  exact h5 e
 ·obtain ⟨h1,h2⟩:=h.deq2 a b
  obtain ⟨q,_⟩:=h.deq a (by omega)
  exact ⟨h1,fun he j j1 j2 j3=>T.nz _ (s0_ge p q) (h2 he j j1 j2 j3)⟩
 ·obtain ⟨h1,h2,h3,h4⟩:=h.deqt a b
  refine ⟨by omega,h2,by omega,fun e=>?_⟩
  have:=fresh _ _ h1 e
  rw [this] at e ⊢
  have:=h4 e
  omega
 ·obtain ⟨h1,h2⟩:=h.deq3 a b
  refine ⟨by omega,fun e=>?_⟩
  have:=fresh _ _ h1 e
  rw [this] at e ⊢
  exact h2 e
 ·obtain ⟨h1,h2,h3⟩:=h.deq4 a b
  obtain ⟨q,_⟩:=h.deq a (by omega)
  exact ⟨h1,h2,T.nz _ (s0_ge p q) h3⟩
def stl (b:Bool) (p:Nat):Nat:=if b then 0 else p + 4
def costK (p:Nat) (M:Mem) (f:FrR):Nat :=
 7 * p + 27 + (if f.o.k=3 then (if f.pc=0 then p + 2 else if f.pc=1 then (p - f.seen).toNat + 1 + stl (wrB M 1 f.v0) p else if f.pc=2 then 1 + stl (wrB M (slotK p f) f.v1) p else 1 + stl (wrB M 1 f.v0) p)
  else if f.pc=0 then p + 3 else if f.pc=1 then p + 2 + stl (wrB M 0 f.v0) p
  else if f.pc=2 then (p - f.seen).toNat + 1 + (if f.n1=f.seg then stl (wrB M 1 f.v1) p else stl (wrB M 0 f.v0) p)
  else if f.pc=3 then 1 + stl (wrB M (slotK p f) f.v1) p else if f.pc=4 then 1 + stl (wrB M 1 f.v1) p else 1 + stl (wrB M 0 f.v0) p)
def zK (p:Nat) (M:Mem):Nat:=if (rdM M (s0 p (rdM M 1).n)).n=0 then 1 else 0
def gK (p:Nat) (M:Mem) (E:Nat):Nat:=2 * (E + 1 - zK p M) + ((rdM M 1).n - (rdM M 0).n).toNat
def eqK (f:FrR):Nat:=if f.o.k=3 then 1 else 0
structure KS (p s:Nat) (M:Mem) (f:FrR) (so:So):Prop where
 km:KM p (s + 1) so.m
 tr:Tr M so.m
 kf:so.d=false → KF p (s + 1) so.m so.f
 me:(so.d=false ∧ so.m=M ∧ costK p M so.f < costK p M f) ∨ (so.d=true ∧ ∀ E,eqK f ≤ E → gK p so.m (E - eqK f) ≤ gK p M E) ∨
  (so.d=false ∧ (∀ E,gK p so.m E + 1 ≤ gK p M E) ∧ costK p so.m so.f ≤ 7 * p + 27 + p + 3)
theorem KM.mono {p s M} (h:KM p s M):KM p (s + 1) M:=⟨h.ht,h.up,h.vck,by have:=h.pt; omega⟩
theorem slot_rng {p:Nat} {f:FrR} (hp:1 ≤ p):(0:Int) ≤ (f.at_ + f.seen) % p ∧ (f.at_ + f.seen) % p < p:=⟨Int.emod_nonneg _ (by omega),Int.emod_lt_of_pos _ (by omega)⟩
theorem wrM_t {M:Mem} {i:Int} {v:Nat} {n:Int} {l:List It} (h:wrB M i v=true):wrM M i v n l=putM M i.toNat n l:=by unfold wrM; rw [if_pos h]
theorem wrM_f {M:Mem} {i:Int} {v:Nat} {n:Int} {l:List It} (h:¬ wrB M i v=true):wrM M i v n l=M:=by unfold wrM; rw [if_neg h]
theorem wr_fresh {M:Mem} {i:Int} {v:Nat} (h:wrB M i v=true):(0 ≤ i ∧ i < 1000) ∧ v=(rdM M i).v:=by simp [wrB] at h; omega
end Go.AM
