/- Lemmas: an abstract machine over the loaded program, proved sound against the model once; what the program's functions compute. -/
import Derived.Test.YteiahfpnjjdkoaaGreatK4
import Derived.Test.YteiahfpnjjdkoaaGreatK2
import Derived.Test.YteiahfpnjjdkoaaGreatK1
import Derived.Test.YteiahfpnjjdkoaaGreatK3
import Derived.Test.YteiahfpnjjdkoaaGreatProg
set_option linter.all false
namespace Go.AM
def UpH (h:List It) (j n:Nat):Prop:=(∀ i,1 ≤ i → i < n → i ≠ j → leI h[(i - 1) / 2]! h[i]!) ∧ (1 ≤ j → ∀ c,1 ≤ c → c < n → (c - 1) / 2=j → leI h[(j - 1) / 2]! h[c]!)
theorem upH_hp (h:List It) (j:Nat) (hj:j < h.length) (hu:UpH h j h.length):HP (upH h j) 0 h.length:=by
 rw [upH]
 split
 ·rename_i h0
  intro i i1 i2 _
  exact hu.1 i i1 i2 (by omega)
 ·rename_i h0
  obtain ⟨q,hq⟩:∃ q,q=(j - 1) / 2:=⟨_,rfl⟩
  rw [← hq]
  have hqj:q < j:=by omega
  have hql:q < h.length:=by omega
  split
  ·rename_i hc
   have hlt:ltI h[j]! h[q]! := (cmpI_lt _ _).1 hc
   have hl:=swp_len h q j
   have:=upH_hp (swp h q j) q (by rw [hl]; omega) (by
    rw [hl]
    refine ⟨fun i i1 i2 i3=>?_,fun q1 c c1 c2 c3=>?_⟩
    ·rw [swp_get hql hj,swp_get hql hj]
     by_cases e1:i=j
     ·rw [if_pos e1,e1,← hq,if_neg (by omega),if_pos rfl]
      exact leI_of_lt hlt
     ·rw [if_neg e1,if_neg i3]
      by_cases e2:(i - 1) / 2=j
      ·rw [if_pos e2]
       have:=hu.2 (by omega) i i1 i2 e2
       rw [← hq] at this; exact this
      ·rw [if_neg e2]
       by_cases e3:(i - 1) / 2=q
       ·rw [if_pos e3]
        have:=hu.1 i i1 i2 e1
        rw [e3] at this
        exact leI_trans (leI_of_lt hlt) this
       ·rw [if_neg e3]
        exact hu.1 i i1 i2 e1
    ·rw [swp_get hql hj,swp_get hql hj,if_neg (by omega),if_neg (by omega)]
     have hg:=hu.1 q q1 (by omega) (by omega)
     by_cases e1:c=j
     ·rw [if_pos e1]; exact hg
     ·rw [if_neg e1,if_neg (by omega)]
      have:=hu.1 c c1 c2 e1
      rw [c3] at this
      exact leI_trans hg this)
   rw [hl] at this
   exact this
  ·rename_i hc
   have hge:leI h[q]! h[j]! := (cmpI_ge _ _).1 (by omega)
   intro i i1 i2 _
   by_cases e:i=j
   ·rw [e,← hq]; exact hge
   ·exact hu.1 i i1 i2 e
termination_by j
theorem putH_hp (h:List It) (x:It) (hp:HP h 0 h.length):HP (putH h x) 0 (putH h x).length:=by
 have hl:(putH h x).length=h.length + 1:=by have:=(putH_perm h x).length_eq; simpa using this
 rw [hl]
 unfold putH
 have:=upH_hp (h ++ [x.canon]) h.length (by simp) (by
  refine ⟨fun i i1 i2 i3=>?_,fun _ c c1 c2 c3=>?_⟩
  ·simp at i2
   have hi:i < h.length:=by omega
   have:=hp i i1 hi (Nat.zero_le _)
   have e1:(h ++ [x.canon])[i]! = h[i]! := by simp [List.getElem!_eq_getElem?_getD,List.getElem?_append_left hi]
   have e2:(h ++ [x.canon])[(i - 1) / 2]! = h[(i - 1) / 2]! := by simp [List.getElem!_eq_getElem?_getD,List.getElem?_append_left (show (i - 1) / 2 < h.length by omega)]
   rw [e1,e2]; exact this
  ·simp at c2; omega)
 simpa using this
theorem put_with (l:List It) (x:It) (hx:x.ok) (hl:∀ y ∈ l,y.ok ∧ y.canon=y) (hs:l.Pairwise leI):allH (putH (newH l) x)=withI x.canon l:=by
 have hxc:x.canon.ok ∧ x.canon.canon=x.canon:=⟨canon_okI hx,by simp [It.canon,canon_canon]⟩
 have hm:l.map It.canon=l:=map_canon_id l (fun y hy=>(hl y hy).2)
 have hp:(allH (putH (newH l) x)).Perm (x.canon :: l):=(allH_perm _).trans ((putH_perm _ _).trans (by
  have:=newH_perm l
  rw [hm] at this
  exact this.cons _))
 refine ordered_unique (fun y hy=>?_) (allH_ordered _ (putH_hp _ _ (newH_hp l))) (withI_ordered x.canon l hs) (hp.trans (withI_perm _ _).symm)
 rcases List.mem_cons.1 (hp.mem_iff.1 hy) with rfl | hy
 ·exact hxc
 ·exact hl y hy
theorem pop_tail (x:It) (t:List It) (hl:∀ y ∈ x :: t,y.ok ∧ y.canon=y) (hs:(x :: t).Pairwise leI):(popH (newH (x :: t))).1=x ∧ allH (popH (newH (x :: t))).2=t:=by
 have h1:=allH_sort (x :: t) (fun y hy=>(hl y hy).1)
 have h2:sortI ((x :: t).map It.canon)=x :: t:=by
  rw [map_canon_id _ (fun y hy=>(hl y hy).2)]
  exact (ordered_unique hl hs ((ordered_pw _).1 (sortI_ordered _)) (sortI_perm _).symm).symm
 have hne:newH (x :: t) ≠ [] := by
  intro h
  have:=newH_len (x :: t)
  rw [h] at this
  simp at this
 rw [h2,allH,dif_neg hne] at h1
 injection h1 with a b
 exact ⟨a,b⟩
end Go.AM

namespace Go.AM
def gOf (k:Int) (f:FrR):FrR:={ f with o:={ f.o with x:=f.o.x.canon },at_:=if k=1 then 0 else f.at_ }
def kept (k:Int) (l:List It):Prop:=(∀ x ∈ l,x.ok ∧ x.canon=x) ∧ (k=1 → l.Pairwise leI)
theorem kept_nil (k:Int):kept k [] := ⟨by simp,fun _=>.nil⟩
theorem memOf_wr (ps:List Pt) (h:∀ q ∈ ps,q.ok) (i:Int) (v:Nat) (n:Int) (l:List It):wrM (memOf ps) i v n l=memOf (wrP ps i v n l):=by
 unfold wrM wrP wrB wrQ
 rw [memOf_rd _ _ h]
 split
 ·rw [memOf_snoc]
 ·rfl
theorem memOf_wb (ps:List Pt) (h:∀ q ∈ ps,q.ok) (i:Int) (v:Nat):wrB (memOf ps) i v=wrQ ps i v:=by
 unfold wrB wrQ
 rw [memOf_rd _ _ h]
structure PI (k:Int) (ps:List Pt):Prop where
 ok:∀ q ∈ ps,q.ok
 kp:∀ i,kept k (rdP ps 0 i zC).l
 one:k=2 → ∀ i,2 ≤ i → (rdP ps 0 i zC).n=1 → (rdP ps 0 i zC).l.length=1
theorem rdP_snoc (ps:List Pt) (q:Pt) (i:Int):rdP (ps ++ [q]) 0 i zC=if q.at_=i then ⟨ps.length + 1,q.n,q.l⟩ else rdP ps 0 i zC:=by
 rw [rdP_app]; simp [rdP]
theorem PI.wr {k ps} (h:PI k ps) {i:Int} {v:Nat} {n:Int} {l:List It} (hl:kept k l) (h2:l.length ≤ 1000000) (h3:k=2 → 2 ≤ i → n=1 → l.length=1):PI k (wrP ps i v n l):=by
 unfold wrP
 split
 ·rename_i hw
  simp [wrQ] at hw
  refine ⟨fun q hq=>?_,fun j=>?_,fun hk j hj=>?_⟩
  ·rcases List.mem_append.1 hq with hq | hq
   ·exact h.ok q hq
   ·simp at hq; subst hq; exact ⟨hw.1,hw.2.1,h2⟩
  ·rw [rdP_snoc]
   split
   ·exact hl
   ·exact h.kp j
  ·rw [rdP_snoc]
   split
   ·rename_i e
    simp only at e
    subst e
    exact h3 hk hj
   ·exact h.one hk j hj
 ·exact h
structure KI (k:Int) (p:Nat) (f:FrR):Prop where
 l0:kept k f.l0
 l1:kept k f.l1
 bet:k=1 → f.o.k=2 → f.pc=2 → f.at_=(betP f.l0 f.l1).1
 sum:f.o.k=6 → f.at_ < p
 em:f.o.k=3 → f.em=false
structure Rl (k:Int) (p:Nat) (so:So) (ro:RSo):Prop where
 m:so.m=memOf ro.ps
 pi:PI k ro.ps
 a:so.a=ro.a
 d:so.d=ro.d
 f:so.d=false → ro.f=gOf k so.f
 ki:so.d=false → KI k p so.f
theorem rel_tally {p:Nat} {ps:List Pt} {f:FrR} (hP:PI 3 ps) (hK:KI 3 p f):Rl 3 p (tallyP p (memOf ps) f) (rTally p ps (gOf 3 f)):=by
 unfold tallyP rTally
 have hgk:(gOf 3 f).o.k=f.o.k:=rfl
 have hga:(gOf 3 f).at_=f.at_:=by simp [gOf]
 have hgo:(gOf 3 f).o.a=f.o.a:=rfl
 have hgp:(gOf 3 f).pc=f.pc:=rfl
 rw [hgk,hga,hgo,hgp]
 simp only [memOf_rd _ _ hP.ok,memOf_wb _ hP.ok,memOf_wr _ hP.ok]
 by_cases h6:f.o.k=6
 ·rw [if_pos h6,if_pos h6]
  have hs:=hK.sum h6
  by_cases hc:f.at_ + 1 < p
  ·rw [if_pos hc,if_neg (by omega)]
   exact ⟨rfl,hP,rfl,rfl,fun _=>by simp [gOf],fun _=>⟨hK.l0,hK.l1,fun h=>by omega,fun _=>hc,fun h=>by simp only at h; omega⟩⟩
  ·rw [if_neg hc,if_pos (by omega)]
   exact ⟨rfl,hP,rfl,rfl,fun h=>by simp at h,fun h=>by simp at h⟩
 ·rw [if_neg h6,if_neg h6]
  by_cases hc:f.pc=0
  ·rw [if_pos hc,if_pos hc]
   exact ⟨rfl,hP,rfl,rfl,fun _=>by simp [gOf],fun _=>⟨hP.kp _,hK.l1,fun h=>by omega,fun h=>absurd h h6,hK.em⟩⟩
  ·rw [if_neg hc,if_neg hc]
   cases hw:wrQ ps (into f.o.a p) f.v0 with
   | true =>
    rw [if_pos rfl]
    exact ⟨by simp [gOf,It.canon],hP.wr (kept_nil _) (by simp) (fun h=>by omega),by simp [gOf,hw],by simp [gOf,hw],fun h=>by simp at h,fun h=>by simp at h⟩
   | false =>
    rw [if_neg (by simp)]
    have hwp:wrP ps (into f.o.a p) f.v0 ((gOf 3 f).n0 + (gOf 3 f).o.x.v) [] = ps:=by unfold wrP; rw [hw]; rfl
    have hv:(gOf 3 f).v0=f.v0:=rfl
    rw [hv,hwp,hw]
    exact ⟨rfl,hP,rfl,rfl,fun _=>by simp [gOf],fun _=>⟨hK.l0,hK.l1,fun h=>by omega,fun h=>absurd h h6,hK.em⟩⟩
theorem kept_with (x:It) (l:List It) (hx:x.ok ∧ x.canon=x) (h:kept 1 l):kept 1 (withI x l) :=
 ⟨fun y hy=>by
  rcases List.mem_cons.1 ((withI_perm x l).mem_iff.1 hy) with rfl | hy
  ·exact hx
  ·exact h.1 y hy,fun _=>withI_ordered x l (h.2 rfl)⟩
theorem rel_ins {p:Nat} {ps:List Pt} {f:FrR} (hP:PI 1 ps) (hK:KI 1 p f) (hx:f.o.x.ok) (h1:f.o.k=1) (hl:f.l0.length ≤ 62):Rl 1 p (insP p (memOf ps) f) (rIns p ps (gOf 1 f)):=by
 unfold insP rIns
 have hgo:(gOf 1 f).o.a=f.o.a:=rfl
 have hgp:(gOf 1 f).pc=f.pc:=rfl
 have hv:(gOf 1 f).v0=f.v0:=rfl
 have hg0:(gOf 1 f).l0=f.l0:=rfl
 have hgx:(gOf 1 f).o.x=f.o.x.canon:=rfl
 rw [hgo,hgp,hv,hg0,hgx]
 have hxc:f.o.x.canon.ok ∧ f.o.x.canon.canon=f.o.x.canon:=⟨canon_okI hx,by simp [It.canon,canon_canon]⟩
 simp only [memOf_rd _ _ hP.ok,memOf_wb _ hP.ok,memOf_wr _ hP.ok,put_with f.l0 f.o.x hx hK.l0.1 (hK.l0.2 rfl)]
 by_cases hc:f.pc=0
 ·rw [if_pos hc,if_pos hc]
  exact ⟨rfl,hP,rfl,rfl,fun _=>by simp [gOf],fun _=>⟨hP.kp _,hK.l1,fun _ h=>by simp only at h; omega,fun h=>by simp only at h; omega,fun h=>by simp only at h; omega⟩⟩
 ·rw [if_neg hc,if_neg hc]
  cases hw:wrQ ps (into f.o.a p) f.v0 with
  | true =>
   rw [if_pos rfl,if_pos rfl]
   exact ⟨rfl,hP.wr (kept_with _ _ hxc hK.l0) (by rw [withI_len]; omega) (fun h=>by omega),rfl,rfl,fun h=>by simp at h,fun h=>by simp at h⟩
  | false =>
   rw [if_neg (by simp),if_neg (by simp)]
   exact ⟨rfl,hP,rfl,rfl,fun _=>by simp [gOf],fun _=>⟨hK.l0,hK.l1,fun _ h=>by simp only at h; omega,fun h=>by simp only at h; omega,fun h=>by simp only at h; omega⟩⟩
theorem betP_no (a b:List It):(!(betP a b).2)=decide (a.length + b.length=0):=by
 cases a with
 | nil=>cases b <;> simp [betP]
 | cons x s=>cases b with
  | nil=>simp [betP]
  | cons y t=>simp only [betP]; split <;> simp
theorem rel_delW {p : Nat} {ps : List Pt} {f : FrR} {at_ : Int} {v : Nat} {l : List It} (hP : PI 1 ps) (hK : KI 1 p f) (h1 : f.o.k = 2) (hl : kept 1 l) (h0 : l ≠ []) (h62 : l.length ≤ 62) :
    Rl 1 p (delW (memOf ps) f at_ v l) (rDelW ps (gOf 1 f) at_ v l):=by
 unfold delW rDelW
 obtain ⟨x,t,rfl⟩:∃ x t,l=x :: t:=by
  cases l with
  | nil=>exact absurd rfl h0
  | cons x t=>exact ⟨x,t,rfl⟩
 obtain ⟨e1,e2⟩:=pop_tail x t hl.1 (hl.2 rfl)
 simp only [memOf_wb _ hP.ok,memOf_wr _ hP.ok,e1,e2,List.tail_cons,List.headD_cons]
 cases hw:wrQ ps at_ v with
 | true =>
  rw [if_pos rfl,if_pos rfl]
  exact ⟨rfl,hP.wr ⟨fun y hy=>hl.1 y (by simp [hy]),fun _=>(List.pairwise_cons.1 (hl.2 rfl)).2⟩ (by simp at h62; omega) (fun h=>by omega),rfl,rfl,fun h=>by simp at h,fun h=>by simp at h⟩
 | false =>
  rw [if_neg (by simp),if_neg (by simp)]
  exact ⟨rfl,hP,rfl,rfl,fun _=>by simp [gOf],fun _=>⟨hK.l0,hK.l1,fun _ _ h=>by simp only at h; omega,fun h=>by simp only at h; omega,fun h=>by simp only at h; omega⟩⟩
theorem rel_del {p:Nat} {ps:List Pt} {f:FrR} (hP:PI 1 ps) (hK:KI 1 p f) (h1:f.o.k=2) (hd:delOK f) (l0:f.l0.length ≤ 62) (l1:f.l1.length ≤ 62):Rl 1 p (delP p (memOf ps) f) (rDel p ps (gOf 1 f)):=by
 unfold delP rDel
 have hgo:(gOf 1 f).o.a=f.o.a:=rfl
 have hgb:(gOf 1 f).o.b=f.o.b:=rfl
 have hgp:(gOf 1 f).pc=f.pc:=rfl
 have hv:(gOf 1 f).v0=f.v0:=rfl
 have hv1:(gOf 1 f).v1=f.v1:=rfl
 have hg0:(gOf 1 f).l0=f.l0:=rfl
 have hg1:(gOf 1 f).l1=f.l1:=rfl
 rw [hgo,hgp,hgb,hv,hv1,hg0,hg1]
 simp only [memOf_rd _ _ hP.ok]
 rcases hd with hc | hc | ⟨hc,hd⟩
 ·rw [if_pos hc,if_pos hc]
  exact ⟨rfl,hP,rfl,rfl,fun _=>by simp [gOf],fun _=>⟨hP.kp _,hK.l1,fun _ _ h=>by simp only at h; omega,fun h=>by simp only at h; omega,fun h=>by simp only at h; omega⟩⟩
 ·have h0:¬ f.pc=0:=by omega
  simp only [h0,hc,if_false,if_true,show ¬ (1:Int)=0 by decide]
  exact ⟨rfl,hP,rfl,betP_no _ _,fun _=>by simp [gOf],fun _=>⟨hK.l0,hP.kp _,fun _ _ _=>rfl,fun h=>by simp only at h; omega,fun h=>by simp only at h; omega⟩⟩
 ·have h0:¬ f.pc=0:=by omega
  have h1':¬ f.pc=1:=by omega
  have hb:=hK.bet rfl h1 hc
  rcases hd with ⟨ha,hl⟩ | ⟨ha,hl⟩
  ·have hb0:¬ (betP f.l0 f.l1).1=1:=by omega
   simp only [h0,h1',ha,hb0,if_false,if_true]
   exact rel_delW hP hK h1 hK.l0 hl l0
  ·have hb1:(betP f.l0 f.l1).1=1:=by omega
   have ha0:¬ f.at_=0:=by omega
   simp only [h0,h1',ha0,hb1,if_false,if_true]
   exact rel_delW hP hK h1 hK.l1 hl l1
theorem rel_net {p:Nat} {ps:List Pt} {f:FrR} (hP:PI 4 ps) (hK:KI 4 p f) (h7:f.o.k=7):Rl 4 p (netP p (memOf ps) f) (rNet p ps (gOf 4 f)):=by
 unfold netP rNet bumpM moreP
 have hgp:(gOf 4 f).pc=f.pc:=rfl
 have hgo:(gOf 4 f).o.a=f.o.a:=rfl
 rw [hgp,hgo]
 obtain ⟨h,hh⟩:∃ h,h=if f.pc=0 then { f with pc:=1,at_:=into f.o.a p } else f:=⟨_,rfl⟩
 have hg:(if f.pc=0 then { gOf 4 f with pc:=1,at_:=into f.o.a p } else gOf 4 f)=gOf 4 h:=by
  rw [hh]
  split <;> simp [gOf]
 have hho:h.o=f.o ∧ h.l0=f.l0 ∧ h.l1=f.l1 ∧ h.em=f.em:=by rw [hh]; split <;> exact ⟨rfl,rfl,rfl,rfl⟩
 rw [← hh,hg]
 have a1:(gOf 4 h).at_=h.at_:=by simp [gOf]
 have a2:(gOf 4 h).seen=h.seen:=rfl
 simp only [a1,a2,memOf_rd _ _ hP.ok,memOf_wr _ hP.ok]
 cases hq:gateF h.at_ ((gatesN p).drop h.seen.toNat) h.seen.toNat with
 | some i =>
  have hx:=hP.wr (i:=i) (v:=(rdP ps 0 (i:Int) zC).v) (n:=(rdP ps 0 (i:Int) zC).n + 1) (kept_nil 4) (by simp) (fun h=>by omega)
  refine ⟨?_,?_,?_,?_,?_,?_⟩ <;> dsimp only
  ·exact hx
  ·intro _; simp [gOf]
  ·intro _
   exact ⟨by simp only [hho.2.1]; exact hK.l0,by simp only [hho.2.2.1]; exact hK.l1,fun e=>by omega,fun e=>by simp only [hho.1] at e; omega,fun e=>by simp only [hho.1] at e; omega⟩
 | none =>
  have hx:=hP.wr (i:=(((gatesN p).length + placeF h.at_ (outsN p) 0:Nat):Int)) (v:=(rdP ps 0 (((gatesN p).length + placeF h.at_ (outsN p) 0:Nat):Int) zC).v) (n:=(rdP ps 0 (((gatesN p).length + placeF h.at_ (outsN p) 0:Nat):Int) zC).n + 1) (kept_nil 4) (by simp) (fun h=>by omega)
  refine ⟨?_,?_,?_,?_,?_,?_⟩ <;> dsimp only
  ·exact hx
  ·intro e; cases e
  ·intro e; cases e
theorem kept_one (x:It) (h:x.ok):kept 2 [x.canon] := ⟨fun y hy=>by simp at hy; subst hy; exact ⟨canon_okI h,by simp [It.canon,canon_canon]⟩,fun e=>by omega⟩
theorem ki2 {p:Nat} {f:FrR} (h0:kept 2 f.l0) (h1:kept 2 f.l1) (hk:f.o.k=3 ∨ f.o.k=4) (he:f.o.k=3 → f.em=false):KI 2 p f:=⟨h0,h1,fun e=>by omega,fun e=>by omega,he⟩
theorem fits_eq {p:Nat} (hp:1 ≤ p ∧ p ≤ 16) {n:Int} (hn:0 ≤ n):(!fitsK p n)=decide (1000 < 2 + (n + 1) * (p:Int)):=by
 have h1:(n + 1) * (p:Int)=n * p + p:=by rw [Int.add_mul,Int.one_mul]
 have h2:n ≤ n * (p:Int):=by
  have:=Int.mul_le_mul_of_nonneg_left (show (1:Int) ≤ p by omega) hn
  simpa using this
 rw [h1]
 unfold fitsK
 generalize n * (p:Int)=m at *
 rw [Bool.eq_iff_iff]
 simp only [Bool.not_eq_true',decide_eq_false_iff_not,decide_eq_true_eq]
 omega
theorem rel_enq {p : Nat} {ps : List Pt} {f : FrR} (hp : 1 ≤ p ∧ p ≤ 16) (hP : PI 2 ps) (hK : KI 2 p f) (hx : f.o.x.ok) (h3 : f.o.k = 3) (h0 : 0 ≤ (rdP ps 0 1 zC).n) (hpc : f.pc = 0 ∨ f.pc = 1 ∨ f.pc = 2 ∨ f.pc = 3) :
    Rl 2 p (enqP p (memOf ps) f) (rEnq p ps (gOf 2 f)):=by
 have he:=hK.em h3
 unfold enqP rEnq
 have hsl:slotK p (gOf 2 f)=slotK p f:=by simp [slotK,gOf]
 have hgp:(gOf 2 f).pc=f.pc:=rfl
 have hgs:(gOf 2 f).seen=f.seen:=rfl
 have hgo:(gOf 2 f).o.a=f.o.a:=rfl
 have hv0:(gOf 2 f).v0=f.v0:=rfl
 have hv1:(gOf 2 f).v1=f.v1:=rfl
 have hsg:(gOf 2 f).seg=f.seg:=rfl
 have hgx:(gOf 2 f).o.x=f.o.x.canon:=rfl
 rw [hsl,hgp,hgs,hgo,hv0,hv1,hsg,hgx]
 simp only [memOf_rd _ _ hP.ok,memOf_wb _ hP.ok,memOf_wr _ hP.ok]
 rcases hpc with hc | hc | hc | hc
 ·simp only [hc,if_true]
  refine ⟨rfl,hP,rfl,fits_eq hp h0,fun _=>?_,fun _=>ki2 (hP.kp _) hK.l1 (.inl h3) (fun _=>rfl)⟩
  simp [gOf,begK,FrR.c0,hc,he]
 ·simp only [hc,if_true,if_false,show ¬ (1:Int)=0 by decide]
  by_cases hn:(rdP ps 0 (slotK p f) zC).n=0
  ·rw [if_pos hn,if_pos hn]
   exact ⟨rfl,hP,rfl,rfl,fun _=>by simp [gOf,FrR.c1],fun _=>ki2 hK.l0 (hP.kp _) (.inl h3) (fun _=>he)⟩
  ·rw [if_neg hn,if_neg hn]
   exact ⟨rfl,hP,rfl,rfl,fun _=>by simp [gOf,FrR.c1],fun _=>ki2 hK.l0 (hP.kp _) (.inl h3) (fun _=>he)⟩
 ·simp only [hc,if_true,if_false,show ¬ (2:Int)=0 by decide,show ¬ (2:Int)=1 by decide]
  cases hw:wrQ ps (slotK p f) f.v1 with
  | true =>
   rw [if_pos rfl,if_pos rfl]
   exact ⟨rfl,hP.wr (kept_one _ hx) (by simp) (fun _ _ _=>rfl),rfl,rfl,fun h=>by simp at h,fun h=>by simp at h⟩
  | false =>
   rw [if_neg (by simp),if_neg (by simp)]
   exact ⟨rfl,hP,rfl,rfl,fun _=>by simp [gOf],fun _=>ki2 hK.l0 hK.l1 (.inl h3) (fun _=>he)⟩
 ·simp only [hc,if_false,show ¬ (3:Int)=0 by decide,show ¬ (3:Int)=1 by decide,show ¬ (3:Int)=2 by decide]
  exact ⟨rfl,hP.wr (kept_nil _) (by simp) (fun _ h=>by omega),rfl,rfl,fun _=>by simp [gOf],fun _=>ki2 hK.l0 hK.l1 (.inl h3) (fun _=>he)⟩
theorem rel_deq {p : Nat} {ps : List Pt} {f : FrR} (hP : PI 2 ps) (hK : KI 2 p f) (h4 : f.o.k = 4) (hpc : f.pc = 0 ∨ f.pc = 1 ∨ f.pc = 2 ∨ (f.pc = 3 ∧ f.l1 ≠ []) ∨ f.pc = 4 ∨ f.pc = 5) :
    Rl 2 p (deqP p (memOf ps) f) (rDeq p ps (gOf 2 f)):=by
 have n3:∀ b:Bool,f.o.k=3 → b=false:=fun _ h=>by omega
 unfold deqP rDeq lookP rLook
 have hsl:slotK p (gOf 2 f)=slotK p f:=by simp [slotK,gOf]
 have hgp:(gOf 2 f).pc=f.pc:=rfl
 have hgs:(gOf 2 f).seen=f.seen:=rfl
 have hgo:(gOf 2 f).o.a=f.o.a:=rfl
 have hv0:(gOf 2 f).v0=f.v0:=rfl
 have hv1:(gOf 2 f).v1=f.v1:=rfl
 have hsg:(gOf 2 f).seg=f.seg:=rfl
 have hn1:(gOf 2 f).n1=f.n1:=rfl
 have hem:(gOf 2 f).em=f.em:=rfl
 have hl1:(gOf 2 f).l1=f.l1:=rfl
 rw [hsl,hgp,hgs,hgo,hv0,hv1,hsg,hn1,hem,hl1]
 simp only [memOf_rd _ _ hP.ok,memOf_wb _ hP.ok,memOf_wr _ hP.ok]
 rcases hpc with hc | hc | hc | ⟨hc,hl⟩ | hc | hc
 ·simp only [hc,if_true]
  exact ⟨rfl,hP,rfl,rfl,fun _=>by simp [gOf,FrR.c0],fun _=>ki2 (hP.kp _) hK.l1 (.inr h4) (n3 _)⟩
 ·simp only [hc,if_true,if_false,show ¬ (1:Int)=0 by decide]
  exact ⟨rfl,hP,rfl,rfl,fun _=>by simp [gOf,begK,FrR.c1,hc],fun _=>ki2 hK.l0 (hP.kp _) (.inr h4) (n3 _)⟩
 ·simp only [hc,if_true,if_false,show ¬ (2:Int)=0 by decide,show ¬ (2:Int)=1 by decide]
  generalize hcc:rdP ps 0 (slotK p f) zC=c
  have hkc:kept 2 c.l:=hcc ▸ hP.kp _
  by_cases hn:c.n=1
  ·rw [if_pos hn,if_pos hn]
   exact ⟨rfl,hP,rfl,rfl,fun _=>by simp [gOf,FrR.c1],fun _=>ki2 hK.l0 hkc (.inr h4) (n3 _)⟩
  ·rw [if_neg hn,if_neg hn]
   by_cases hs:f.seen + 1 < p
   ·rw [if_pos hs,if_pos hs]
    exact ⟨rfl,hP,rfl,rfl,fun _=>by simp [gOf],fun _=>ki2 hK.l0 hK.l1 (.inr h4) (n3 _)⟩
   ·rw [if_neg hs,if_neg hs]
    cases hem:(f.em || c.n == 0) with
    | true =>
     rw [if_pos rfl]
     exact ⟨rfl,hP,rfl,rfl,fun h=>by simp at h,fun h=>by simp at h⟩
    | false =>
     simp only [if_false,Bool.false_eq_true]
     exact ⟨rfl,hP,rfl,rfl,fun _=>by simp [gOf],fun _=>ki2 hK.l0 hK.l1 (.inr h4) (n3 _)⟩
 ·simp only [hc,if_true,if_false,show ¬ (3:Int)=0 by decide,show ¬ (3:Int)=1 by decide,show ¬ (3:Int)=2 by decide]
  cases hw:wrQ ps (slotK p f) f.v1 with
  | true =>
   rw [if_pos rfl,if_pos rfl]
   exact ⟨rfl,hP.wr (kept_nil _) (by simp) (fun _ _ h=>by omega),rfl,rfl,fun h=>by simp at h,fun h=>by simp at h⟩
  | false =>
   rw [if_neg (by simp),if_neg (by simp)]
   exact ⟨rfl,hP,rfl,rfl,fun _=>by simp [gOf],fun _=>ki2 hK.l0 hK.l1 (.inr h4) (n3 _)⟩
 ·simp only [hc,if_true,if_false,show ¬ (4:Int)=0 by decide,show ¬ (4:Int)=1 by decide,show ¬ (4:Int)=2 by decide,show ¬ (4:Int)=3 by decide]
  exact ⟨rfl,hP.wr (kept_nil _) (by simp) (fun _ h=>by omega),rfl,rfl,fun _=>by simp [gOf],fun _=>ki2 hK.l0 hK.l1 (.inr h4) (n3 _)⟩
 ·simp only [hc,if_false,show ¬ (5:Int)=0 by decide,show ¬ (5:Int)=1 by decide,show ¬ (5:Int)=2 by decide,show ¬ (5:Int)=3 by decide,show ¬ (5:Int)=4 by decide]
  exact ⟨rfl,hP.wr (kept_nil _) (by simp) (fun _ h=>by omega),rfl,rfl,fun _=>by simp [gOf],fun _=>ki2 hK.l0 hK.l1 (.inr h4) (n3 _)⟩
theorem rel_step {k:Int} {p s:Nat} {ps:List Pt} {f:FrR} (hl:legal k p=0) (hM:MI k s (memOf ps)) (hF:FI k s f) (hP:PI k ps) (hK:KI k p f):Rl k p (stepP k p (memOf ps) f) (rStep k p ps (gOf k f)):=by
 have hp:1 ≤ p ∧ p ≤ 16:=by have:=legal_p hl; omega
 unfold stepP rStep
 rcases hF.kd with ⟨rfl,h⟩ | ⟨rfl,h⟩ | ⟨rfl,h⟩ | ⟨rfl,h⟩
 ·rw [if_pos rfl,if_pos rfl]
  unfold multiP rMulti
  have hgk:(gOf 1 f).o.k=f.o.k:=rfl
  rw [hgk]
  rcases h with h | h
  ·rw [if_pos h,if_pos h]; exact rel_ins hP hK hF.it h hF.l0.1
  ·rw [if_neg (by omega),if_neg (by omega)]; exact rel_del hP hK h (hF.del h) hF.l0.1 hF.l1.1
 ·rw [if_neg (by omega),if_pos rfl,if_neg (by omega),if_pos rfl]
  unfold kfifoP rKfifo
  have hgk:(gOf 2 f).o.k=f.o.k:=rfl
  rw [hgk]
  rcases h with h | h
  ·rw [if_pos h,if_pos h]
   have:=hM.num 1
   rw [memOf_rd _ _ hP.ok] at this
   exact rel_enq hp hP hK hF.it h this.1 (hF.enq h)
  ·rw [if_neg (by omega),if_neg (by omega)]; exact rel_deq hP hK h (hF.deq h)
 ·rw [if_neg (by omega),if_neg (by omega),if_pos rfl,if_neg (by omega),if_neg (by omega),if_pos rfl]
  exact rel_tally hP hK
 ·rw [if_neg (by omega),if_neg (by omega),if_neg (by omega),if_neg (by omega),if_neg (by omega),if_neg (by omega)]
  exact rel_net hP hK h
end Go.AM

namespace Go.AM
def eEv (k:Nat) (o:Rw) (a:An) (d:Bool):D:=.a [.i .i64 k,.i .i64 o.k,.f .f64 o.x.p,.i .i64 o.x.v,.i .i64 o.a,.i .i64 o.b,.b d,.b a.ok,.f .f64 a.x.p,.i .i64 a.x.v,.i .i64 a.n]
def pickL (l:List Nat) (pick:Int):Option Nat:=if l=[] then none else l[(into pick l.length).toNat]?
theorem c_engine_Pick_none (e : Eng) (h6 : e.th.length = 6) (sg : List (List D)) (r : Nat) (hr : sg[r]? = some (eEng e)) (pick : Int) (hb : busyL e.th 0 = []) :
    LL.call n_engine_Engine_Pick [.p r 0,.i .i64 pick] sg sg.length=some (.t [eEv 0 ⟨0,⟨0,0⟩,0,0⟩ ⟨false,⟨0,0⟩,0⟩ false,.b false],sg,sg.length):=by
 have B:=c_engine_Busy e h6 sg r hr
 rw [hb] at B
 refine wp_call e_engine_Engine_Pick rfl ?_
 simp at B
 simp [F_engine_Engine_Pick,B,eEv]
theorem c_engine_PickG (e : Eng) (h6 : e.th.length = 6) (sg : List (List D)) (r : Nat) (hr : sg[r]? = some (eEng e)) (pick : Int) (k fr : Nat)
    (hk:pickL (busyL e.th 0) pick=some k) (hth:e.th[k]? = some (some fr)) (o:Rw) (rest F' MM:List D) (hf:sg[fr]? = some (.i .i64 o.k :: .f .f64 o.x.p :: .i .i64 o.x.v :: .i .i64 o.a :: .i .i64 o.b :: rest)) (hmr:e.m ≠ r) (hfr:fr ≠ r) (hst:e.st < 1000000000)
    (sa : An) (sd : Bool) (ty : TypeId) (d : D) (fn : FuncId) (hM : eMach e.k e.p = .ic ty d) (hme : EE.meth ty "Step" = some fn)
    (hS:LL.call fn [d,.p e.m 0,.p fr 0] sg sg.length=some (.t [eAn sa,.b sd],(sg.set e.m MM).set fr F',sg.length)) :
    LL.call n_engine_Engine_Pick [.p r 0,.i .i64 pick] sg sg.length =
     some (.t [eEv k o sa sd,.b true],((sg.set e.m MM).set fr F').set r (eEng { e with th:=if sd then e.th.set k none else e.th,st:=e.st + 1 }),sg.length):=by
 have B:=c_engine_Busy e h6 sg r hr
 obtain ⟨bl,hbl⟩:∃ bl,bl=busyL e.th 0:=⟨_,rfl⟩
 rw [← hbl] at B hk
 have hb0:bl ≠ [] := by intro h; simp [pickL,h] at hk
 have hblen:bl.length ≤ 6:=by
  have:∀ (l:List (Option Nat)) n,(busyL l n).length ≤ l.length:=by
   intro l
   induction l with
   | nil=>intro n; simp [busyL]
   | cons o t ih =>
    intro n
    cases o with
    | none=>simp only [busyL,List.length_cons]; have:=ih (n + 1); omega
    | some z=>simp only [busyL,List.length_cons]; have:=ih (n + 1); omega
  have:=this e.th 0
  rw [← hbl,h6] at this
  exact this
 have hb1:=List.length_pos_iff.2 hb0
 rw [pickL,if_neg hb0] at hk
 have I:=c_op_Into pick bl.length (by omega) sg
 have hin:=into_rng pick bl.length (by omega)
 obtain ⟨j,hj⟩:∃ j:Nat,into pick bl.length=j:=⟨(into pick bl.length).toNat,by omega⟩
 rw [hj] at I hk hin
 simp at hk
 have hjl:j < bl.length:=by omega
 have hbe:((bl.length:Int) == 0)=false:=by rw [beq_eq_false_iff_ne]; omega
 have hle:j + 1 ≤ bl.length:=by omega
 have hd1:List.take 1 (List.drop j (bl.map eN))=[eN k] := by
  rw [List.drop_eq_getElem_cons (by simpa using hjl)]
  have:=List.getElem?_eq_some_iff.1 hk
  simp [this.2]
 have hlt:=get_lt hr
 have hl:((sg.set e.m MM).set fr F').length=sg.length:=by simp
 have ha:((sg.set e.m MM).set fr F')[r]? = some (eEng e):=by
  rw [List.getElem?_set_ne hfr,List.getElem?_set_ne hmr]
  exact hr
 obtain ⟨sg1,hsg1⟩:∃ sg1,sg1=(sg.set e.m MM).set fr F':=⟨_,rfl⟩
 rw [← hsg1] at hS ha hl ⊢
 have hlt1:r < sg1.length:=by omega
 have hg:∀ a,(sg1.set r a)[r]? = some a:=fun a=>List.getElem?_set_self hlt1
 have htk:∀ a,List.take sg.length (sg1.set r a)=sg1.set r a:=fun a=>List.take_of_length_le (by simp; omega)
 have hk6:k < 6:=by
  have:=(List.getElem?_eq_some_iff.1 hth).1
  omega
 simp [eAn] at hS
 obtain ⟨ek,ep,em,th,cl,st⟩:=e
 simp only at hM hth hst
 obtain ⟨a,b,c,y,z,x,rfl⟩:=six h6
 have w1:IntKind.i64.wrap ((st:Int) + 1)=st + 1:=wrap64 (by omega)
 refine wp_call e_engine_Engine_Pick rfl ?_
 have hkc:k=0 ∨ k=1 ∨ k=2 ∨ k=3 ∨ k=4 ∨ k=5:=by omega
 rcases hkc with rfl | rfl | rfl | rfl | rfl | rfl
 all_goals
  simp at hth
  subst hth
  simp [eEng,hM,eFp] at hr ha
  cases hd:sd
  ·subst hd
   simp [F_engine_Engine_Pick,B,I,hbe,hle,hd1,hk,eN,hr,hf,hM,hme,hS,ha,hg,w1,eEv,eEng,eFp,htk]
  ·subst hd
   simp [F_engine_Engine_Pick,B,I,hbe,hle,hd1,hk,eN,hr,hf,hM,hme,hS,ha,hg,w1,eEv,eEng,eFp,htk]
end Go.AM

namespace Go.AM
def zF:FrR:=⟨⟨0,⟨0,0⟩,0,0⟩,0,0,0,0,0,false,0,0,0,[],0,[]⟩
def eEr (KM KF:K) (k:Int) (p:Nat) (ps:List Pt) (fs:List D) (cl:Bool):D:=.a [.i .i64 k,.i .i64 p,.l KM 3 (ps.map ePt),.l KF 17 fs,.b cl]
instance:Flat eFr:=⟨fun _=>rfl,fun g=>by simp [eFr,eFrK],fun n g=>by simp [eFr,eFrK]⟩
def busyR:List FrR → Nat → List Nat
 | [],_=>[]
 | g :: r,i=>if g.o.k=0 then busyR r (i + 1) else i :: busyR r (i + 1)
theorem c_ref13_Busy (k : Int) (p : Nat) (ps : List Pt) (gs : List FrR) (hg : gs.length ≤ 1000) (cl : Bool) (sg : List (List D)) :
    LL.call n_c_ref13_Busy [eEr .z .z k p ps (gs.map eFr) cl] sg sg.length=some (.l .o 1 ((busyR gs 0).map eN),sg,sg.length):=by
 generalize hT:busyR gs 0=T
 refine wp_call e_c_ref13_Busy rfl ?_
 simp [F_c_ref13_Busy,eEr]
 refine wc_lst gs (fun i (out:List Nat)=>⟨[(3,.v (.l .o 1 (out.map eN))),(8,.v (.l .z 17 (gs.map eFr))),(9,.v (.i .i64 gs.length)),(10,.v (.i .i64 i))],[],sg,sg.length⟩) (fun i rest out=>out ++ busyR rest i=T ∧ out.length ≤ i) [] (by simp) ⟨hT,by simp⟩ ?_ ?_
 ·rintro i g rest out hi hx ⟨h1,h2⟩ ih
  have w1:IntKind.i64.wrap ((i:Int) + 1)=i + 1:=wrap64 (by omega)
  have hap:(out.length + 1) * 8 ≤ 140737488355328:=by omega
  by_cases h0:g.o.k=0
  ·have ih:=ih out ⟨by simpa [busyR,h0] using h1,by omega⟩
   simp at ih
   simp [hi,hx,eFr,eFrK,h0,w1]
   simpa [eFr,eFrK] using ih
  ·have h0':(g.o.k != 0)=true:=by simp [h0]
   have ih:=ih (out ++ [i]) ⟨by rw [← h1]; simp [busyR,h0],by simp; omega⟩
   simp [eN] at ih
   simp [hi,hx,eFr,eFrK,h0',w1,hap]
   simpa [eFr,eFrK,eN] using ih
 ·rintro out ⟨h1,h2⟩
  simp [busyR] at h1
  subst h1
  simp
theorem c_ref13_New (k : Int) (p : Nat) (sg : List (List D)) :
    LL.call n_c_ref13_New [.i .i64 k,.i .i64 p] sg sg.length=some (eEr .o .x k p [] (List.replicate 6 (eFrK .o .o zF)) false,sg,sg.length):=by
 refine wp_call e_c_ref13_New rfl ?_
 simp [F_c_ref13_New,eEr,eFrK,zF,List.replicate]
def begR (k:Int) (cl:Bool) (gs:List FrR) (t:Int) (g:FrR):Int:=if t < 0 ∨ 6 ≤ t then 4 else if cl then 12 else if checkO k g.o.k g.o.x.v ≠ 0 then checkO k g.o.k g.o.x.v else if ((gs[t.toNat]?).getD zF).o.k ≠ 0 then 11 else 0
theorem c_ref13_Begin (k : Int) (p : Nat) (ps : List Pt) (gs : List FrR) (h6 : gs.length = 6) (cl : Bool) (t : Int) (g : FrR) (sg : List (List D)) :
    LL.call n_c_ref13_Begin [eEr .z .z k p ps (gs.map eFr) cl,.i .i64 t,eFr g] sg sg.length =
     some (.t [eEr .z (if begR k cl gs t g=0 then .x else .z) k p ps ((if begR k cl gs t g=0 then gs.set t.toNat g else gs).map eFr) cl,.i .i64 (begR k cl gs t g)],sg,sg.length):=by
 generalize hT:begR k cl gs t g=T
 unfold begR at hT
 have C:=c_ref06_Check k g.o.k g.o.x.v sg
 have eg:eFr g=.a [.i .i64 g.o.k,.i .u64 g.o.x.p,.i .i64 g.o.x.v,.i .i64 g.o.a,.i .i64 g.o.b,.i .i64 g.pc,.i .i64 g.at_,.i .i64 g.seen,.i .i64 g.seg,.i .i64 g.tot,.b g.em,.i .i64 g.v0,.i .i64 g.v1,.i .i64 g.n0,.l .z 2 (g.l0.map eR),.i .i64 g.n1,.l .z 2 (g.l1.map eR)] := rfl
 rw [eg]
 refine wp_call e_c_ref13_Begin rfl ?_
 by_cases h1:t < 0
 ·rw [if_pos (.inl h1)] at hT
  subst hT
  simp [F_c_ref13_Begin,eEr,h1]
 ·by_cases h2:6 ≤ t
  ·rw [if_pos (.inr h2)] at hT
   subst hT
   have h5:5 < t:=by omega
   simp [F_c_ref13_Begin,eEr,h1,h5]
  ·rw [if_neg (by omega)] at hT
   have h5:¬ 5 < t:=by omega
   cases cl with
   | true =>
    simp at hT
    subst hT
    simp [F_c_ref13_Begin,eEr,h1,h5]
   | false =>
    simp only [Bool.false_eq_true,if_false] at hT
    by_cases h3:checkO k g.o.k g.o.x.v=0
    ·rw [if_neg (by simp [h3])] at hT
     rw [h3] at C
     obtain ⟨q,rfl⟩:∃ q:Nat,t=q:=⟨t.toNat,by omega⟩
     have hq:q < gs.length:=by omega
     simp only [Int.toNat_natCast,List.getElem?_eq_getElem hq,Option.getD_some] at hT
     have hgq:gs[q]? = some gs[q] := List.getElem?_eq_getElem hq
     have hqe:eFr gs[q] = .a [.i .i64 gs[q].o.k,.i .u64 gs[q].o.x.p,.i .i64 gs[q].o.x.v,.i .i64 gs[q].o.a,.i .i64 gs[q].o.b,.i .i64 gs[q].pc,.i .i64 gs[q].at_,.i .i64 gs[q].seen,.i .i64 gs[q].seg,.i .i64 gs[q].tot,.b gs[q].em,.i .i64 gs[q].v0,.i .i64 gs[q].v1,.i .i64 gs[q].n0,.l .z 2 (gs[q].l0.map eR),.i .i64 gs[q].n1,.l .z 2 (gs[q].l1.map eR)] := rfl
     have hap:6 * 168 ≤ 140737488355328:=by omega
     by_cases h4:gs[q].o.k=0
     ·rw [if_neg (by simp [h4])] at hT
      subst hT
      simp [F_c_ref13_Begin,eEr,h1,h5,C,hq,h4,h6,hgq,hqe,hap,List.map_set,eg]
      omega
     ·rw [if_pos h4] at hT
      have h4':(gs[q].o.k != 0)=true:=by simp [h4]
      subst hT
      simp [F_c_ref13_Begin,eEr,h1,h5,C,hq,h4',h6,hgq,hqe]
    ·rw [if_pos h3] at hT
     have h3':(checkO k g.o.k g.o.x.v != 0)=true:=by simp [h3]
     subst hT
     simp [F_c_ref13_Begin,eEr,h1,h5,C,h3,h3']
set_option maxRecDepth 20000 in
set_option maxHeartbeats 2000000 in
theorem c_ref13_Pick (k : Int) (p : Nat) (ps : List Pt) (gs : List FrR) (h6 : gs.length = 6) (cl : Bool) (pick : Int) (n : Nat) (hk : pickL (busyR gs 0) pick = some n) (hbl : (busyR gs 0).length ≤ 6) (g : FrR) (hg : gs[n]? = some g) (so : RSo) (sg : List (List D))
    (S:LL.call n_c_ref12_Step [.i .i64 k,.i .i64 p,eMr .z ps,eFr g] sg sg.length=some (eRSo so,sg,sg.length)) :
    ∃ K1 K2,zo K1 ∧ zo K2 ∧ LL.call n_c_ref13_Pick [eEr .z .z k p ps (gs.map eFr) cl,.i .i64 pick] sg sg.length =
     some (.t [eEr K1 K2 k p so.ps ((gs.set n (if so.d then zF else so.f)).map eFr) cl,.i .i64 n,eAr so.a,.b so.d],sg,sg.length):=by
 have B:=c_ref13_Busy k p ps gs (by omega) cl sg
 obtain ⟨bl,hbl2⟩:∃ bl,bl=busyR gs 0:=⟨_,rfl⟩
 rw [← hbl2] at B hk hbl
 have hb0:bl ≠ [] := by intro h; simp [pickL,h] at hk
 have hb1:=List.length_pos_iff.2 hb0
 rw [pickL,if_neg hb0] at hk
 have I:=c_ref06_Into pick bl.length (by omega) sg
 have hin:=into_rng pick bl.length (by omega)
 obtain ⟨j,hj⟩:∃ j:Nat,into pick bl.length=j:=⟨(into pick bl.length).toNat,by omega⟩
 rw [hj] at I hk hin
 simp at hk
 have hjl:j < bl.length:=by omega
 have hbe:((bl.length:Int) == 0)=false:=by rw [beq_eq_false_iff_ne]; omega
 have hle:j + 1 ≤ bl.length:=by omega
 have hn:n < gs.length:=(List.getElem?_eq_some_iff.1 hg).1
 have hgn:gs[n] = g:=(List.getElem?_eq_some_iff.1 hg).2
 have eg:eFr g=.a [.i .i64 g.o.k,.i .u64 g.o.x.p,.i .i64 g.o.x.v,.i .i64 g.o.a,.i .i64 g.o.b,.i .i64 g.pc,.i .i64 g.at_,.i .i64 g.seen,.i .i64 g.seg,.i .i64 g.tot,.b g.em,.i .i64 g.v0,.i .i64 g.v1,.i .i64 g.n0,.l .z 2 (g.l0.map eR),.i .i64 g.n1,.l .z 2 (g.l1.map eR)] := rfl
 have es:eFr so.f=.a [.i .i64 so.f.o.k,.i .u64 so.f.o.x.p,.i .i64 so.f.o.x.v,.i .i64 so.f.o.a,.i .i64 so.f.o.b,.i .i64 so.f.pc,.i .i64 so.f.at_,.i .i64 so.f.seen,.i .i64 so.f.seg,.i .i64 so.f.tot,.b so.f.em,.i .i64 so.f.v0,.i .i64 so.f.v1,.i .i64 so.f.n0,.l .z 2 (so.f.l0.map eR),.i .i64 so.f.n1,.l .z 2 (so.f.l1.map eR)] := rfl
 have ez:eFr zF=.a [.i .i64 0,.i .u64 0,.i .i64 0,.i .i64 0,.i .i64 0,.i .i64 0,.i .i64 0,.i .i64 0,.i .i64 0,.i .i64 0,.b false,.i .i64 0,.i .i64 0,.i .i64 0,.l .z 2 [],.i .i64 0,.l .z 2 []] := rfl
 have hap:6 * 168 ≤ 140737488355328:=by omega
 simp only [eRSo,es] at S
 rw [eg] at S
 simp [eMr,eAr] at S
 simp [eEr] at B
 refine ⟨.z,.z,.inl rfl,.inl rfl,wp_call e_c_ref13_Pick rfl ?_⟩
 cases hd:so.d
 ·rw [hd] at S
  simp [F_c_ref13_Pick,eEr,B,I,hbe,hle,hk,eN,hg,hgn,hn,eg,S,hap,h6,List.map_set,es,eAr]
  omega
 ·rw [hd] at S
  simp [F_c_ref13_Pick,eEr,B,I,hbe,hle,hk,eN,hg,hgn,hn,eg,S,hap,h6,List.map_set,ez,eAr]
  omega
end Go.AM

namespace Go.AM
theorem c_law06_IsAnswer (a b:An) (sg):LL.call n_c_law06_IsAnswer [eAn a,eAr b] sg sg.length=some (.i .i64 (if a=b then 0 else -1),sg,sg.length):=by
 generalize hr:(if a=b then (0:Int) else -1)=r
 have I:=c_law04_Is a.x b.x sg
 refine wp_call e_c_law06_IsAnswer rfl ?_
 obtain ⟨ok,x,n⟩:=a
 obtain ⟨ok',x',n'⟩:=b
 simp only [An.mk.injEq] at hr I
 simp at I
 by_cases h1:ok=ok'
 ·by_cases h2:n=n'
  ·subst h1 h2
   simp at hr
   subst hr
   simp [F_c_law06_IsAnswer,eAn,eAr,I]
  ·have h2':(n != n')=true:=by simp [h2]
   simp [h2] at hr
   subst hr
   simp [F_c_law06_IsAnswer,eAn,eAr,h1,h2']
 ·simp [h1] at hr
  subst hr
  have h1':(ok != ok')=true:=by simp [h1]
  have h1'':(ok == ok')=false:=by simp [h1]
  simp [F_c_law06_IsAnswer,eAn,eAr,h1,h1',h1'']
def wAll (l:List It) (o:List It):List It:=l.foldl (fun o x=>withI x o) o
end Go.AM

namespace Go.AM
def eldR (ps:List Pt):List Pt → Nat → List It
 | [],_=>[]
 | q :: r,i=>(if 1 < q.at_ ∧ (rdP ps 0 q.at_ zC).v=i + 1 ∧ (rdP ps 0 q.at_ zC).n=1 then [(rdP ps 0 q.at_ zC).l.headD ⟨0,0⟩] else []) ++ eldR ps r (i + 1)
end Go.AM

namespace Go.AM
def eldC (ps:List Pt):List Pt → Nat → List Cl
 | [],_=>[]
 | q :: r,i=>(if 1 < q.at_ ∧ (rdP ps 0 q.at_ zC).v=i + 1 ∧ (rdP ps 0 q.at_ zC).n=1 then [rdP ps 0 q.at_ zC] else []) ++ eldC ps r (i + 1)
end Go.AM

namespace Go.AM
end Go.AM

namespace Go.AM
theorem wf_i64 {n:Int} (h:(Lit.int .i64 n).wf=true):-9223372036854775808 ≤ n ∧ n ≤ 9223372036854775807:=by
 simpa [Lit.wf,IntKind.min,IntKind.max,IntKind.signed,IntKind.bits] using h
theorem wf_u64 {n:Int} (h:(Lit.int .u64 n).wf=true):0 ≤ n ∧ n < 18446744073709551616:=by
 have:0 ≤ n ∧ n ≤ 18446744073709551615:=by simpa [Lit.wf,IntKind.min,IntKind.max,IntKind.signed,IntKind.bits] using h
 omega
theorem fits_i {k:IntKind} {d:D} (h:Fits (.i k) [d]):∃ n,d=.i k n ∧ (Lit.int k n).wf=true:=by
 cases h with | i k n h=>exact ⟨n,rfl,h⟩
abbrev tItem:Ty:=.st [.i .u64,.i .i64]
abbrev tRaw:Ty:=.st [.i .i64,.i .i64,.i .u64,.l 2 true tItem,.l 1 false (.i .i64),.i .i64]
theorem fitss_cons1 {f:Ty} {fs:List Ty} {cs:List D} (h:Fitss (f :: fs) cs) (hf:∀ c,Fits f c → ∃ d,c=[d]):∃ d r,cs=d :: r ∧ Fits f [d] ∧ Fitss fs r:=by
 cases h with
 | cons h k=>obtain ⟨d,rfl⟩:=hf _ h; exact ⟨d,_,rfl,h,k⟩
theorem one_i (k:IntKind) (c:List D) (h:Fits (.i k) c):∃ d,c=[d] := by cases h; exact ⟨_,rfl⟩
theorem fitss_nil {cs:List D} (h:Fitss [] cs):cs=[] := by cases h; rfl
theorem fits_item {cs:List D} (h:Fits tItem cs):∃ x:It,D.a cs=eR x ∧ x.ok:=by
 cases h with
 | st h =>
  obtain ⟨d1,r,rfl,h1,h⟩:=fitss_cons1 h (one_i _)
  obtain ⟨d2,r,rfl,h2,h⟩:=fitss_cons1 h (one_i _)
  have:=fitss_nil h; subst this
  obtain ⟨n1,rfl,w1⟩:=fits_i h1
  obtain ⟨n2,rfl,w2⟩:=fits_i h2
  have:=wf_u64 w1
  have:=wf_i64 w2
  refine ⟨⟨n1.toNat,n2⟩,?_,?_,?_⟩
  ·have:((n1.toNat:Nat):Int)=n1:=by omega
   simp [this]
  ·simp; omega
  ·simpa using this
end Go.AM

namespace Go.AM
abbrev tRw:Ty:=.st [.i .i64,tItem,.i .i64,.i .i64]
theorem fits_rw {cs:List D} (h:Fits tRw cs):∃ r:Rw,D.a cs=eRw r ∧ r.ok:=by
 cases h with
 | st h =>
  cases h with
  | cons h1 h =>
   cases h with
   | cons h2 h =>
    cases h with
    | cons h3 h =>
     cases h with
     | cons h4 h =>
      cases h
      obtain ⟨x,ex,hx⟩:=fits_item h2
      cases h1 with
      | i _ n1 w1 =>
       cases h3 with
       | i _ n3 w3 =>
        cases h4 with
        | i _ n4 w4 =>
         cases ex
         exact ⟨⟨n1,x,n3,n4⟩,rfl,hx,wf_i64 w1,wf_i64 w3,wf_i64 w4⟩
end Go.AM

namespace Go.AM
theorem mt_multi : EE.meth t_multi_Multi "Step" = some n_multi_Multi_Step := by kernel_rfl
theorem mt_kfifo : EE.meth t_kfifo_Queue "Step" = some n_kfifo_Queue_Step := by kernel_rfl
theorem mt_tally : EE.meth t_tally_Tally "Step" = some n_tally_Tally_Step := by kernel_rfl
theorem mt_net : EE.meth t_net_Net "Step" = some n_net_Net_Step := by kernel_rfl
theorem delW_o (M:Mem) (f:FrR) (a v l):(delW M f a v l).f.o=f.o:=by unfold delW; split <;> rfl
theorem netP_o (p:Nat) (M:Mem) (f:FrR):(netP p M f).f.o=f.o:=by
 unfold netP
 simp only
 split <;> (dsimp only; split <;> rfl)
theorem stepP_o (k:Int) (p:Nat) (M:Mem) (f:FrR):(stepP k p M f).f.o=f.o:=by
 unfold stepP
 split
 ·unfold multiP insP delP
  repeat' split
  all_goals first | rfl | exact delW_o _ _ _ _ _
 ·split
  ·unfold kfifoP enqP deqP lookP
   repeat' split
   all_goals rfl
  ·split
   ·unfold tallyP
    repeat' split
    all_goals rfl
   ·exact netP_o p M f
def kOK (K:K) (f:FrR):Prop:=K=.o ∨ (K=.z ∧ f.o.k=4)
theorem c_kfifo_Step (p : Nat) (hp : 1 ≤ p ∧ p ≤ 16) (M : Mem) (hM : M.good) (f : FrR) (hs : f.small) (KK : K) (hK : kOK KK f) (sg : List (List D)) (m fr : Nat) (hm : sg[m]? = some (eMem M)) (hf : sg[fr]? = some (eFrPK KK f)) (hne : m ≠ fr) (hseg : 0 ≤ f.seg ∧ f.seg ≤ 1000000)
    (hk:f.o.k=3 ∨ f.o.k=4) (henq:f.o.k=3 → f.pc=0 ∨ f.pc=1 ∨ f.pc=2 ∨ f.pc=3) (hdeq:f.o.k=4 → f.pc=0 ∨ f.pc=1 ∨ f.pc=2 ∨ (f.pc=3 ∧ f.l1 ≠ []) ∨ f.pc=4 ∨ f.pc=5) :
    ∃ K',(K'=.o ∨ (K'=.z ∧ f.o.k=4)) ∧ LL.call n_kfifo_Queue_Step [.a [.i .i64 p],.p m 0,.p fr 0] sg sg.length =
     some (.t [eAn (kfifoP p M f).a,.b (kfifoP p M f).d],(sg.set m (eMem (kfifoP p M f).m)).set fr (eFrPK K' (kfifoP p M f).f),sg.length):=by
 unfold kfifoP
 by_cases h3:f.o.k=3
 ·rw [if_pos h3]
  have hKo:KK=.o:=by rcases hK with h | ⟨_,h⟩; exact h; omega
  subst hKo
  refine ⟨.o,.inl rfl,?_⟩
  have E:=c_kfifo_enq p hp M hM f hs sg m fr hm hf hne hseg (henq h3)
  have hf':=hf
  simp [eFrPK,h3] at hf'
  have hl:(after sg m fr (enqP p M f)).length=sg.length:=by simp [after]
  have he:(sg.set m (eMem (enqP p M f).m)).set fr (eFrPK .o (enqP p M f).f)=after sg m fr (enqP p M f):=rfl
  rw [he]
  refine wp_call e_kfifo_Queue_Step rfl ?_
  simp [eAn] at E
  simp [F_kfifo_Queue_Step,hf',E,eAn]
  exact List.take_of_length_le (by omega)
 ·rw [if_neg h3]
  have h4:f.o.k=4:=by omega
  have hKz:KK=.o ∨ KK=.z:=by rcases hK with h | ⟨h,_⟩; exact .inl h; exact .inr h
  have E:=c_kfifo_deq p hp M hM f hs KK hKz sg m fr hm hf hne hseg (hdeq h4)
  obtain ⟨K',hK'⟩:∃ K',K'=(if f.pc=1 then K.o else if f.pc=2 ∧ (rdM M (slotK p f)).n=1 then K.z else KK):=⟨_,rfl⟩
  rw [← hK'] at E
  refine ⟨K',?_,?_⟩
  ·rw [hK']
   split
   ·exact .inl rfl
   ·split
    ·exact .inr ⟨rfl,h4⟩
    ·rcases hKz with h | h
     ·exact .inl h
     ·exact .inr ⟨h,h4⟩
  have hf':=hf
  simp [eFrPK,h4] at hf'
  have hl:(afterK K' sg m fr (deqP p M f)).length=sg.length:=by simp [afterK]
  have he:(sg.set m (eMem (deqP p M f).m)).set fr (eFrPK K' (deqP p M f).f)=afterK K' sg m fr (deqP p M f):=rfl
  rw [he]
  refine wp_call e_kfifo_Queue_Step rfl ?_
  simp [eAn] at E
  simp [F_kfifo_Queue_Step,hf',E,eAn]
  exact List.take_of_length_le (by omega)
theorem c_step (k : Int) (p s : Nat) (hl : legal k p = 0) (hs : s ≤ 5000) (M : Mem) (hM : MI k s M) (f : FrR) (hF : FI k s f) (KK : K) (hK : kOK KK f) (sg : List (List D)) (m fr : Nat) (hm : sg[m]? = some (eMem M)) (hf : sg[fr]? = some (eFrPK KK f)) (hne : m ≠ fr) :
    ∃ ty d fn K', eMach k p = .ic ty d ∧ EE.meth ty "Step" = some fn ∧ kOK K' (stepP k p M f).f ∧
     LL.call fn [d,.p m 0,.p fr 0] sg sg.length=some (.t [eAn (stepP k p M f).a,.b (stepP k p M f).d],(sg.set m (eMem (stepP k p M f).m)).set fr (eFrPK K' (stepP k p M f).f),sg.length):=by
 have hp:1 ≤ p ∧ p ≤ 16:=by have:=legal_p hl; omega
 have hsm:=hF.small hs
 have ho:=stepP_o k p M f
 unfold kOK
 rw [ho]
 unfold stepP
 rcases hF.kd with ⟨rfl,h⟩ | ⟨rfl,h⟩ | ⟨rfl,h⟩ | ⟨rfl,h⟩
 ·have hKo:KK=.o:=by rcases hK with h' | ⟨_,h'⟩; exact h'; omega
  subst hKo
  rw [if_pos rfl]
  exact ⟨t_multi_Multi,_,n_multi_Multi_Step,.o,rfl,mt_multi,.inl rfl,c_multi_Step p hp M hM.good f hsm sg m fr hm hf hne (fun h1=>hF.del (by omega))⟩
 ·rw [if_neg (by omega),if_pos rfl]
  obtain ⟨K',h1,h2⟩:=c_kfifo_Step p hp M hM.good f hsm KK hK sg m fr hm hf hne (by have:=hF.seg; omega) h hF.enq hF.deq
  exact ⟨t_kfifo_Queue,_,n_kfifo_Queue_Step,K',rfl,mt_kfifo,h1,h2⟩
 ·have hKo:KK=.o:=by rcases hK with h' | ⟨_,h'⟩; exact h'; omega
  subst hKo
  rw [if_neg (by omega),if_neg (by omega),if_pos rfl]
  exact ⟨t_tally_Tally,_,n_tally_Tally_Step,.o,rfl,mt_tally,.inl rfl,c_tally_Step p hp M hM.good f hsm sg m fr hm hf hne (fun h1=>by omega)⟩
 ·have hKo:KK=.o:=by rcases hK with h' | ⟨_,h'⟩; exact h'; omega
  subst hKo
  rw [if_neg (by omega),if_neg (by omega),if_neg (by omega)]
  exact ⟨t_net_Net,_,n_net_Net_Step,.o,rfl,mt_net,.inl rfl,c_net_Step p (legal_width hl) M hM.good f hsm sg m fr hm hf hne⟩
def busyO {α : Type}:List (Option α) → Nat → List Nat
 | [],_=>[]
 | none :: r,i=>busyO r (i + 1)
 | some _ :: r,i=>i :: busyO r (i + 1)
theorem busyL_O:∀ (l:List (Option Nat)) (n:Nat),busyL l n=busyO l n
 | [],n=>rfl
 | none :: r,n=>by simp only [busyL,busyO,busyL_O r]
 | some _ :: r,n=>by simp only [busyL,busyO,busyL_O r]
theorem busyO_eq {α β : Type}:∀ (l:List (Option α)) (m:List (Option β)) (n:Nat),l.length=m.length → (∀ i:Nat,(l[i]?).join.isSome=(m[i]?).join.isSome) → busyO l n=busyO m n
 | [],[],n,_,_=>rfl
 | a :: l,b :: m,n,hl,h=>by
  have h0:=h 0
  have ih:=busyO_eq l m (n + 1) (by simpa using hl) (fun i=>by have:=h (i + 1); simpa using this)
  cases a <;> cases b <;> simp at h0 <;> simp [busyO,ih]
structure Rep (sg:List (List D)) (r:Nat) (e:Eng) (M:Mem) (fs:List (Option FrR)):Prop where
 hr:sg[r]? = some (eEng e)
 hm:sg[e.m]? = some (eMem M)
 h6:e.th.length=6
 f6:fs.length=6
 fr:∀ (i q:Nat),e.th[i]? = some (some q) → ∃ f K,fs[i]? = some (some f) ∧ kOK K f ∧ sg[q]? = some (eFrPK K f)
 nn:∀ i:Nat,e.th[i]? = some none → fs[i]? = some none
 rm:e.m ≠ r
 qr:∀ (i q:Nat),e.th[i]? = some (some q) → q ≠ r ∧ q ≠ e.m
 qq:∀ (i j q:Nat),e.th[i]? = some (some q) → e.th[j]? = some (some q) → i=j
def own (r:Nat) (e:Eng) (x:Nat):Prop:=x=r ∨ x=e.m ∨ ∃ i:Nat,e.th[i]? = some (some x)
theorem Rep.keep {sg sg' r e M fs} (h:Rep sg r e M fs) (hk:∀ x,own r e x → sg'[x]? = sg[x]?):Rep sg' r e M fs :=
 ⟨by rw [hk r (.inl rfl)]; exact h.hr,by rw [hk e.m (.inr (.inl rfl))]; exact h.hm,h.h6,h.f6,fun i q hq=>by
  obtain ⟨f,K,a,b,c⟩:=h.fr i q hq
  exact ⟨f,K,a,b,by rw [hk q (.inr (.inr ⟨i,hq⟩))]; exact c⟩,h.nn,h.rm,h.qr,h.qq⟩
theorem Rep.lt {sg r e M fs} (h:Rep sg r e M fs) {x:Nat} (hx:own r e x):x < sg.length:=by
 rcases hx with rfl | rfl | ⟨i,hi⟩
 ·exact get_lt h.hr
 ·exact get_lt h.hm
 ·obtain ⟨f,K,a,b,c⟩:=h.fr i x hi
  exact get_lt c
theorem Rep.get {sg r e M fs} (h:Rep sg r e M fs) {k:Nat} {f:FrR} (hf:fs[k]? = some (some f)):∃ q K,e.th[k]? = some (some q) ∧ kOK K f ∧ sg[q]? = some (eFrPK K f):=by
 have hk:k < e.th.length:=by rw [h.h6,← h.f6]; exact (List.getElem?_eq_some_iff.1 hf).1
 cases ht:e.th[k] with
 | none =>
  have:=h.nn k (by rw [List.getElem?_eq_getElem hk,ht])
  rw [this] at hf; cases hf
 | some q =>
  have hq:e.th[k]? = some (some q):=by rw [List.getElem?_eq_getElem hk,ht]
  obtain ⟨f',K,a,b,c⟩:=h.fr k q hq
  rw [a] at hf
  injection hf with hf; injection hf with hf; subst hf
  exact ⟨q,K,hq,b,c⟩
theorem Rep.busy {sg r e M fs} (h:Rep sg r e M fs):busyL e.th 0=busyO fs 0:=by
 rw [busyL_O]
 refine busyO_eq _ _ 0 (by rw [h.h6,h.f6]) (fun i=>?_)
 cases hi:e.th[i]? with
 | none =>
  have:fs[i]? = none:=by rw [List.getElem?_eq_none_iff] at hi ⊢; rw [h.f6,← h.h6]; exact hi
  rw [this]; rfl
 | some o =>
  cases o with
  | none=>rw [h.nn i hi]; rfl
  | some q =>
   obtain ⟨f,K,a,_⟩:=h.fr i q hi
   rw [a]; rfl
end Go.AM

namespace Go.AM
theorem rep_pick_none {sg r e M fs} (h : Rep sg r e M fs) (pick : Int) (hb : busyO fs 0 = []) :
    LL.call n_engine_Engine_Pick [.p r 0,.i .i64 pick] sg sg.length=some (.t [eEv 0 ⟨0,⟨0,0⟩,0,0⟩ ⟨false,⟨0,0⟩,0⟩ false,.b false],sg,sg.length) :=
 c_engine_Pick_none e h.h6 sg r h.hr pick (by rw [h.busy]; exact hb)
theorem rep_pick {sg r e M fs} (h : Rep sg r e M fs) (s : Nat) (hs : s ≤ 5000) (hl : legal e.k e.p = 0) (hst : e.st < 1000000000) (hM : MI e.k s M) (hF : ∀ (i : Nat) f, fs[i]? = some (some f) → FI e.k s f)
    (pick:Int) (k:Nat) (hk:pickL (busyO fs 0) pick=some k) (f:FrR) (hf:fs[k]? = some (some f)) :
    ∃ sg' e',LL.call n_engine_Engine_Pick [.p r 0,.i .i64 pick] sg sg.length=some (.t [eEv k f.o (stepP e.k e.p M f).a (stepP e.k e.p M f).d,.b true],sg',sg.length) ∧ sg'.length=sg.length ∧
     Rep sg' r e' (stepP e.k e.p M f).m (fs.set k (if (stepP e.k e.p M f).d then none else some (stepP e.k e.p M f).f)) ∧ e'.k=e.k ∧ e'.p=e.p ∧ e'.m=e.m ∧ e'.cl=e.cl ∧ e'.st=e.st + 1 ∧
     (∀ x,¬ own r e x → sg'[x]? = sg[x]?) ∧ (∀ (i q:Nat),e'.th[i]? = some (some q) → e.th[i]? = some (some q)):=by
 obtain ⟨q,KK,h1,h2,h3⟩:=h.get hf
 obtain ⟨hq1,hq2⟩:=h.qr k q h1
 obtain ⟨ty,d,fn,K',a1,a2,a3,a4⟩:=c_step e.k e.p s hl hs M hM f (hF k f hf) KK h2 sg e.m q h.hm h3 (Ne.symm hq2)
 generalize hso:stepP e.k e.p M f=so at *
 have P:=c_engine_PickG e h.h6 sg r h.hr pick k q (by rw [h.busy]; exact hk) h1 f.o _ (eFrPK K' so.f) (eMem so.m) h3 h.rm hq1 hst so.a so.d ty d fn a1 a2 a4
 obtain ⟨e',he'⟩:∃ e',e'=({ e with th:=if so.d then e.th.set k none else e.th,st:=e.st + 1 }:Eng):=⟨_,rfl⟩
 rw [← he'] at P
 have hkl:k < e.th.length:=(List.getElem?_eq_some_iff.1 h1).1
 have hth:∀ (i z:Nat),e'.th[i]? = some (some z) → e.th[i]? = some (some z) ∧ (so.d=true → i ≠ k):=by
  intro i z hz
  rw [he'] at hz
  simp only at hz
  split at hz
  ·rename_i hd
   rw [List.getElem?_set] at hz
   split at hz
   ·simp at hz
   ·exact ⟨hz,fun _=>by omega⟩
  ·rename_i hd
   exact ⟨hz,fun h=>absurd h hd⟩
 have hlt_r:=get_lt h.hr
 have hlt_m:=get_lt h.hm
 have hlt_q:=get_lt h3
 obtain ⟨sg',hsg'⟩:∃ sg',sg'=((sg.set e.m (eMem so.m)).set q (eFrPK K' so.f)).set r (eEng e'):=⟨_,rfl⟩
 rw [← hsg'] at P
 have hother:∀ x,x ≠ r → x ≠ e.m → x ≠ q → sg'[x]? = sg[x]? := by
  intro x x1 x2 x3
  rw [hsg',List.getElem?_set_ne (Ne.symm x1),List.getElem?_set_ne (Ne.symm x3),List.getElem?_set_ne (Ne.symm x2)]
 have hm':e'.m=e.m:=by rw [he']
 refine ⟨sg',e',P,by rw [hsg']; simp,?_,by rw [he'],by rw [he'],hm',by rw [he'],by rw [he'],?_,fun i z hz=>(hth i z hz).1⟩
 ·refine ⟨?_,?_,?_,by simp [h.f6],?_,?_,by rw [hm']; exact h.rm,fun i z hz=>by rw [hm']; exact h.qr i z (hth i z hz).1,fun i j z hi hj=>h.qq i j z (hth i z hi).1 (hth j z hj).1⟩
  ·rw [hsg']; exact List.getElem?_set_self (by simpa using hlt_r)
  ·rw [hm',hsg',List.getElem?_set_ne (Ne.symm h.rm),List.getElem?_set_ne hq2]
   exact List.getElem?_set_self hlt_m
  ·rw [he']
   simp only
   split
   ·simp [h.h6]
   ·exact h.h6
  ·intro i z hz
   obtain ⟨z1,z2⟩:=hth i z hz
   by_cases hik:i=k
   ·subst hik
    have hd:so.d=false:=by
     cases hd:so.d with
     | false=>rfl
     | true=>exact absurd rfl (z2 hd)
    rw [h1] at z1
    injection z1 with z1; injection z1 with z1; subst z1
    refine ⟨so.f,K',?_,a3,?_⟩
    ·rw [hd]
     have:i < fs.length:=(List.getElem?_eq_some_iff.1 hf).1
     simp [List.getElem?_set,this]
    ·rw [hsg',List.getElem?_set_ne (Ne.symm hq1)]
     exact List.getElem?_set_self (by simpa using hlt_q)
   ·obtain ⟨f',K,b1,b2,b3⟩:=h.fr i z z1
    obtain ⟨c1,c2⟩:=h.qr i z z1
    have hzq:z ≠ q:=fun e=>hik (h.qq i k z z1 (by rw [e]; exact h1))
    exact ⟨f',K,by rw [List.getElem?_set_ne (Ne.symm hik)]; exact b1,b2,by rw [hother z c1 c2 hzq]; exact b3⟩
  ·intro i hi
   rw [he'] at hi
   simp only at hi
   by_cases hik:i=k
   ·subst hik
    have hfl:i < fs.length:=(List.getElem?_eq_some_iff.1 hf).1
    cases hd:so.d with
    | true=>simp [List.getElem?_set,hfl]
    | false =>
     rw [hd] at hi
     simp at hi
     rw [h1] at hi; cases hi
   ·rw [List.getElem?_set_ne (Ne.symm hik)]
    refine h.nn i ?_
    split at hi
    ·rwa [List.getElem?_set_ne (Ne.symm hik)] at hi
    ·exact hi
 ·intro x hx
  exact hother x (fun e=>hx (.inl e)) (fun e=>hx (.inr (.inl e))) (fun e'=>hx (.inr (.inr ⟨k,by rw [e']; exact h1⟩)))
def begO (k:Int) (cl:Bool) (fs:List (Option FrR)) (t:Int) (o:Rw):Int:=if t < 0 ∨ 6 ≤ t then 4 else if cl then 12 else if checkO k o.k o.x.v ≠ 0 then checkO k o.k o.x.v else if (fs[t.toNat]?).join.isSome then 11 else 0
theorem rep_begE {sg r e M fs} (h:Rep sg r e M fs) (t:Int) (o:Rw):begE e t o=begO e.k e.cl fs t o:=by
 have hs:(e.th[t.toNat]?).join.isSome=(fs[t.toNat]?).join.isSome:=by
  cases hi:e.th[t.toNat]? with
  | none =>
   have:fs[t.toNat]? = none:=by rw [List.getElem?_eq_none_iff] at hi ⊢; rw [h.f6,← h.h6]; exact hi
   rw [this]; rfl
  | some o =>
   cases o with
   | none=>rw [h.nn _ hi]; rfl
   | some q =>
    obtain ⟨f,K,a,_⟩:=h.fr _ q hi
    rw [a]; rfl
 unfold begE begO
 rw [hs]
theorem rep_begin_no {sg r e M fs} (h : Rep sg r e M fs) (t : Int) (o : Rw) (hb : begO e.k e.cl fs t o ≠ 0) :
    LL.call n_engine_Engine_Begin [.p r 0,.i .i64 t,eOp o] sg sg.length=some (.i .i64 (begO e.k e.cl fs t o),sg,sg.length):=by
 have B:=c_engine_Begin e h.h6 t o sg r h.hr
 rw [rep_begE h,if_neg hb] at B
 exact B
theorem rep_begin {sg r e M fs} (h : Rep sg r e M fs) (t : Int) (o : Rw) (hb : begO e.k e.cl fs t o = 0) :
    ∃ sg' e',LL.call n_engine_Engine_Begin [.p r 0,.i .i64 t,eOp o] sg sg.length=some (.i .i64 0,sg',r) ∧ sg'.length=sg.length + 1 ∧
     Rep sg' r e' M (fs.set t.toNat (some (begF o))) ∧ e'.k=e.k ∧ e'.p=e.p ∧ e'.m=e.m ∧ e'.cl=e.cl ∧ e'.st=e.st ∧
     (∀ x,x < sg.length → x ≠ r → sg'[x]? = sg[x]?) ∧ (∀ (i q:Nat),e'.th[i]? = some (some q) → e.th[i]? = some (some q) ∨ q=sg.length):=by
 have B:=c_engine_Begin e h.h6 t o sg r h.hr
 rw [rep_begE h,if_pos hb] at B
 obtain ⟨e',he'⟩:∃ e',e'=({ e with th:=e.th.set t.toNat (some sg.length) }:Eng):=⟨_,rfl⟩
 rw [← he'] at B
 have hlt_r:=get_lt h.hr
 have hlt_m:=get_lt h.hm
 have ht:t.toNat < 6:=by
  unfold begO at hb
  split at hb
  ·cases hb
  ·omega
 obtain ⟨sg',hsg'⟩:∃ sg',sg'=sg.set r (eEng e') ++ [eFrP (begF o)] := ⟨_,rfl⟩
 rw [← hsg'] at B
 have hold:∀ x,x < sg.length → x ≠ r → sg'[x]? = sg[x]? := by
  intro x x1 x2
  rw [hsg',List.getElem?_append_left (by simpa using x1),List.getElem?_set_ne (Ne.symm x2)]
 have hth:∀ (i z:Nat),e'.th[i]? = some (some z) → (i ≠ t.toNat ∧ e.th[i]? = some (some z)) ∨ (i=t.toNat ∧ z=sg.length):=by
  intro i z hz
  rw [he'] at hz
  simp only at hz
  rw [List.getElem?_set] at hz
  split at hz
  ·rename_i e1
   split at hz
   ·injection hz with hz; injection hz with hz; exact .inr ⟨e1.symm,hz.symm⟩
   ·cases hz
  ·rename_i e1
   exact .inl ⟨fun e=>e1 e.symm,hz⟩
 have hm':e'.m=e.m:=by rw [he']
 have hql:∀ (i z:Nat),e.th[i]? = some (some z) → z < sg.length:=fun i z hz=>h.lt (.inr (.inr ⟨i,hz⟩))
 refine ⟨sg',e',B,by rw [hsg']; simp,?_,by rw [he'],by rw [he'],hm',by rw [he'],by rw [he'],hold,fun i z hz=>by rcases hth i z hz with h | h; exact .inl h.2; exact .inr h.2⟩
 refine ⟨?_,?_,by rw [he']; simp [h.h6],by simp [h.f6],?_,?_,by rw [hm']; exact h.rm,?_,?_⟩
 ·rw [hsg',List.getElem?_append_left (by simpa using hlt_r)]
  exact List.getElem?_set_self hlt_r
 ·rw [hm',hold e.m hlt_m h.rm]; exact h.hm
 ·intro i z hz
  rcases hth i z hz with ⟨e1,e2⟩ | ⟨e1,e2⟩
  ·obtain ⟨f',K,b1,b2,b3⟩:=h.fr i z e2
   exact ⟨f',K,by rw [List.getElem?_set_ne (Ne.symm e1)]; exact b1,b2,by rw [hold z (hql i z e2) (h.qr i z e2).1]; exact b3⟩
  ·subst e1 e2
   refine ⟨begF o,.o,List.getElem?_set_self (by rw [h.f6]; exact ht),.inl rfl,?_⟩
   rw [hsg',List.getElem?_append_right (by simp)]
   simp; rfl
 ·intro i hi
  rw [he'] at hi
  simp only at hi
  rw [List.getElem?_set] at hi
  split at hi
  ·split at hi
   ·simp at hi
   ·cases hi
  ·rename_i e1
   rw [List.getElem?_set_ne e1]
   exact h.nn i hi
 ·intro i z hz
  rw [hm']
  rcases hth i z hz with ⟨e1,e2⟩ | ⟨e1,e2⟩
  ·exact h.qr i z e2
  ·subst e2; exact ⟨by omega,by omega⟩
 ·intro i j z hi hj
  rcases hth i z hi with ⟨e1,e2⟩ | ⟨e1,e2⟩ <;> rcases hth j z hj with ⟨e3,e4⟩ | ⟨e3,e4⟩
  ·exact h.qq i j z e2 e4
  ·have:=hql i z e2; omega
  ·have:=hql j z e4; omega
  ·omega
end Go.AM

namespace Go.AM
structure Act where
 k:Int
 t:Int
 p:Int
 o:Rw
def eAct (a:Act):D:=.a [.i .i64 a.k,.i .i64 a.t,.i .i64 a.p,.i .i64 a.o.k,.i .u64 a.o.x.p,.i .i64 a.o.x.v,.i .i64 a.o.a,.i .i64 a.o.b]
instance:Flat eAct:=⟨fun _=>rfl,fun _=>rfl,fun _ _=>rfl⟩
abbrev tAct:Ty:=.st [.i .i64,.i .i64,.i .i64,tRw]
theorem fits_act {cs:List D} (h:Fits tAct cs):∃ a:Act,D.a cs=eAct a ∧ a.o.ok:=by
 cases h with
 | st h =>
  cases h with
  | cons h1 h =>
   cases h with
   | cons h2 h =>
    cases h with
    | cons h3 h =>
     cases h with
     | cons h4 h =>
      cases h
      obtain ⟨r,er,hr⟩:=fits_rw h4
      cases h1 with
      | i _ n1 w1 =>
       cases h2 with
       | i _ n2 w2 =>
        cases h3 with
        | i _ n3 w3 =>
         cases er
         exact ⟨⟨n1,n2,n3,r⟩,rfl,hr⟩
theorem fits_acts:∀ xs:List D,(∀ x ∈ xs,Fits tAct x.cells) → (∀ x ∈ xs,∃ cs,x=.a cs) → ∃ ns:List Act,xs=ns.map eAct ∧ ∀ n ∈ ns,n.o.ok
 | [],_,_=>⟨[],rfl,by simp⟩
 | x :: xs,h,hc=>by
  obtain ⟨ns,e,hn⟩:=fits_acts xs (fun y hy=>h y (by simp [hy])) (fun y hy=>hc y (by simp [hy]))
  obtain ⟨cs,rfl⟩:=hc x (by simp)
  obtain ⟨y,e2,hy⟩:=fits_act (h _ (by simp:D.a cs ∈ D.a cs :: xs))
  exact ⟨y :: ns,by rw [e,List.map_cons,← e2]; rfl,by simpa [hy] using hn⟩
theorem fi_begin {k:Int} (hk:1 ≤ k ∧ k ≤ 4) (s:Nat) {r:Rw} (hr:r.ok):FI k s (begF (ownO k r)):=by
 have h1:=ownO_rng k hk r
 have h2:=ownO_ok hk hr
 have h3:=(nb_le k s).1
 have hc:k=1 ∨ k=2 ∨ k=3 ∨ k=4:=by omega
 refine ⟨h2.1.1,?_,by simp [begF]; omega,by simp [begF]; omega,by simp [begF]; omega,by simp [begF]; omega,by simp [begF]; exact h3,by simp [begF]; exact h3,by simp [begF],by simp [begF],fun _=>.inl rfl,fun _=>.inl rfl,fun _=>.inl rfl,fun _=>.inl rfl⟩
 simp only [begF]
 rcases hc with rfl | rfl | rfl | rfl
 ·simp at h1; left; omega
 ·simp at h1; right; left; omega
 ·simp at h1; right; right; left
  refine ⟨rfl,?_⟩
  by_cases h5:(ownO 3 r).k=5
  ·exact .inr ⟨h5,h2.2 h5⟩
  ·left; omega
 ·simp at h1; right; right; right; omega
theorem busyO_mem {α : Type}:∀ (l:List (Option α)) (n k:Nat),k ∈ busyO l n → n ≤ k ∧ ∃ q,l[k - n]? = some (some q)
 | [],n,k,h=>by simp [busyO] at h
 | none :: r,n,k,h=>by
  obtain ⟨h1,q,hq⟩:=busyO_mem r (n + 1) k h
  refine ⟨by omega,q,?_⟩
  rw [show k - n=(k - (n + 1)) + 1 by omega]
  simpa using hq
 | some z :: r,n,k,h=>by
  simp only [busyO,List.mem_cons] at h
  rcases h with rfl | h
  ·exact ⟨by omega,z,by simp⟩
  ·obtain ⟨h1,q,hq⟩:=busyO_mem r (n + 1) k h
   refine ⟨by omega,q,?_⟩
   rw [show k - n=(k - (n + 1)) + 1 by omega]
   simpa using hq
theorem pick_some {fs:List (Option FrR)} (h:busyO fs 0 ≠ []) (pick:Int):∃ k f,pickL (busyO fs 0) pick=some k ∧ fs[k]? = some (some f):=by
 have hl:=List.length_pos_iff.2 h
 have hr:=into_rng pick (busyO fs 0).length (by omega)
 have hi:(into pick (busyO fs 0).length).toNat < (busyO fs 0).length:=by omega
 refine ⟨(busyO fs 0)[(into pick (busyO fs 0).length).toNat],?_⟩
 obtain ⟨_,q,hq⟩:=busyO_mem fs 0 _ (List.getElem_mem hi)
 exact ⟨q,by rw [pickL,if_neg h,List.getElem?_eq_getElem hi],by simpa using hq⟩
end Go.AM

namespace Go.AM
def eBo (r:Nat) (K1 K2:K) (k:Int) (p:Nat) (ps:List Pt) (gs:List FrR) (cl:Bool):List D:=[.p r 0,.i .i64 k,.i .i64 p,.l K1 3 (ps.map ePt),.l K2 17 (gs.map eFr),.b cl]
end Go.AM

namespace Go.AM
def gsOf (k:Int) (fs:List (Option FrR)):List FrR:=fs.map fun o=>match o with | none=>zF | some f=>gOf k f
theorem gsOf_len (k:Int) (fs):(gsOf k fs).length=fs.length:=by simp [gsOf]
theorem gsOf_set (k:Int) (fs:List (Option FrR)) (n:Nat) (o:Option FrR):gsOf k (fs.set n o)=(gsOf k fs).set n (match o with | none=>zF | some f=>gOf k f):=by simp [gsOf,List.map_set]
theorem gsOf_get {k:Int} {fs:List (Option FrR)} {n:Nat} {f:FrR} (h:fs[n]? = some (some f)):(gsOf k fs)[n]? = some (gOf k f):=by simp [gsOf,h]
theorem busyR_O (k:Int):∀ (fs:List (Option FrR)) (n:Nat),(∀ f,some f ∈ fs → f.o.k ≠ 0) → busyR (gsOf k fs) n=busyO fs n
 | [],n,h=>rfl
 | none :: r,n,h=>by
  have:=busyR_O k r (n + 1) (fun f hf=>h f (by simp [hf]))
  show busyR (zF :: gsOf k r) n=busyO r (n + 1)
  rw [busyR,if_pos (show zF.o.k=0 from rfl),this]
 | some f :: r,n,h=>by
  have:=busyR_O k r (n + 1) (fun f hf=>h f (by simp [hf]))
  have hf:(gOf k f).o.k ≠ 0:=h f (by simp)
  show busyR (gOf k f :: gsOf k r) n=n :: busyO r (n + 1)
  rw [busyR,if_neg hf,this]
theorem newF_g (k:Int) (o:Rw):newF o=gOf k (begF o):=by
 unfold newF gOf begF
 simp
theorem begR_O (k:Int) (cl:Bool) (fs:List (Option FrR)) (t:Int) (o:Rw) (h:∀ f,some f ∈ fs → f.o.k ≠ 0):begR k cl (gsOf k fs) t (newF o)=begO k cl fs t o:=by
 unfold begR begO
 have e1:(newF o).o.k=o.k:=rfl
 have e2:(newF o).o.x.v=o.x.v:=rfl
 rw [e1,e2]
 have e3:(((gsOf k fs)[t.toNat]?).getD zF).o.k ≠ 0 ↔ (fs[t.toNat]?).join.isSome=true:=by
  cases hi:fs[t.toNat]? with
  | none=>simp [gsOf,hi,zF]
  | some x =>
   cases x with
   | none=>simp [gsOf,hi,zF]
   | some f =>
    have:=h f (List.mem_of_getElem? hi)
    simp [gsOf,hi,gOf,this]
 split
 ·rfl
 ·split
  ·rfl
  ·split
   ·rfl
   ·by_cases hh:(((gsOf k fs)[t.toNat]?).getD zF).o.k ≠ 0
    ·rw [if_pos hh,if_pos (e3.1 hh)]
    ·rw [if_neg hh,if_neg (fun h'=>hh (e3.2 h'))]
theorem gi_of {k:Int} {p s:Nat} {f:FrR} (hF:FI k s f) (hs:s ≤ 5000):GI k (gOf k f):=by
 have sm:=hF.small hs
 refine ⟨{ sm with it:=canon_okI hF.it,at_:=?_ },hF.kd,by have:=hF.seg; simp only [gOf]; omega,fun h2=>?_,hF.enq,hF.deq⟩
 ·have:=sm.at_
  simp only [gOf]
  split <;> omega
 ·rcases hF.del h2 with h | h | ⟨h,h' | h'⟩
  ·exact .inl h
  ·exact .inr (.inl h)
  ·exact .inr (.inr ⟨h,.inl h'.2⟩)
  ·exact .inr (.inr ⟨h,.inr h'.2⟩)
end Go.AM

namespace Go.AM
structure Duo (k:Int) (p i q:Nat) (sg:List (List D)) (e:Eng) (M:Mem) (fs:List (Option FrR)) (ps:List Pt) (K1 K2:K):Prop where
 R:Rep sg 1 e M fs
 ek:e.k=k
 ep:e.p=p
 st:e.st ≤ i
 mi:MI k i M
 fi:∀ (j:Nat) f,fs[j]? = some (some f) → FI k i f
 ki:∀ (j:Nat) f,fs[j]? = some (some f) → KI k p f
 pi:PI k ps
 mm:M=memOf ps
 hq:sg[q]? = some (eBo 1 K1 K2 k p ps (gsOf k fs) e.cl)
 z1:zo K1
 z2:zo K2
 nq:¬ own 1 e q
theorem Duo.pl {k p i q sg e M fs ps K1 K2} (h:Duo k p i q sg e M fs ps K1 K2):ps.length ≤ i:=by
 have:=h.mi.ck
 rw [h.mm,memOf_ck] at this
 exact this
theorem Duo.nz {k p i q sg e M fs ps K1 K2} (h:Duo k p i q sg e M fs ps K1 K2):∀ f,some f ∈ fs → f.o.k ≠ 0:=by
 intro f hf
 obtain ⟨j,hj⟩:=List.mem_iff_getElem?.1 hf
 have:=(h.fi j f hj).kd
 omega
theorem busyO_len {α : Type}:∀ (l:List (Option α)) (n:Nat),(busyO l n).length ≤ l.length
 | [],n=>by simp [busyO]
 | none :: r,n=>by have:=busyO_len r (n + 1); simp [busyO]; omega
 | some _ :: r,n=>by have:=busyO_len r (n + 1); simp [busyO]; omega
theorem Duo.bz {k p i q sg e M fs ps K1 K2} (h:Duo k p i q sg e M fs ps K1 K2):busyR (gsOf k fs) 0=busyO fs 0:=busyR_O k fs 0 h.nz
theorem setD {k:Int} {i:Nat} {P:FrR → Prop} {fs:List (Option FrR)} {n:Nat} {o:Option FrR} (h:∀ (j:Nat) f,fs[j]? = some (some f) → P f) (ho:∀ f,o=some f → P f):∀ (j:Nat) f,(fs.set n o)[j]? = some (some f) → P f:=by
 intro j f hf
 rw [List.getElem?_set] at hf
 split at hf
 ·split at hf
  ·injection hf with hf; exact ho f hf
  ·cases hf
 ·exact h j f hf
theorem ki_begin (k:Int) {p:Nat} (hp:1 ≤ p) (o:Rw):KI k p (begF o):=by
 refine ⟨kept_nil k,kept_nil k,fun _ _ h=>?_,fun _=>?_,fun _=>rfl⟩
 ·simp [begF] at h
 ·show (0:Int) < p
  omega
end Go.AM

namespace Go.AM
end Go.AM

namespace Go.AM
structure Cll where
 t:Nat
 o:Rw
 b:Int
 e:Int
 a:An
def eCll (c:Cll):D:=.a [.i .i64 c.t,.i .i64 c.o.k,.f .f64 c.o.x.p,.i .i64 c.o.x.v,.i .i64 c.o.a,.i .i64 c.o.b,.i .i64 c.b,.i .i64 c.e,.b c.a.ok,.f .f64 c.a.x.p,.i .i64 c.a.x.v,.i .i64 c.a.n]
instance:Flat eCll:=⟨fun _=>rfl,fun _=>rfl,fun _ _=>rfl⟩
end Go.AM

namespace Go.AM
def eOl (l:List Rw):D:=.l .z 5 (l.map eRw)
instance:Flat eOl:=⟨fun _=>rfl,fun g=>by simp [eOl],fun n g=>by simp [eOl]⟩
structure DS where
 sg:List (List D)
 ats:List Nat
 owns:List (Option Nat)
 tds:List D
 cix:List Nat
 cds:List Cll
 ps:List Pt
 st:Nat
 K:K
structure Drv (k:Int) (p i n m bx:Nat) (sg0:List (List D)) (a:DS) (fs:List (Option FrR)):Prop where
 mm:a.sg[m]? = some (eMem (memOf a.ps))
 old:∀ x,x < bx → a.sg[x]? = sg0[x]?
 bm:bx ≤ m
 l1:a.ats.length=n
 l2:a.owns.length=n
 l3:a.tds.length=n
 l4:a.cix.length=n
 l5:fs.length=n
 fr:∀ (j q:Nat),a.owns[j]? = some (some q) → m < q ∧ ∃ f K c,fs[j]? = some (some f) ∧ kOK K f ∧ a.sg[q]? = some (eFrPK K f) ∧ a.tds[j]? = some (eFr (gOf k f)) ∧ a.cix[j]? = some c ∧ c < a.cds.length
 nn:∀ j:Nat,a.owns[j]? = some none → fs[j]? = some none
 qq:∀ (i j q:Nat),a.owns[i]? = some (some q) → a.owns[j]? = some (some q) → i=j
 mi:MI k i (memOf a.ps)
 fi:∀ (j:Nat) f,fs[j]? = some (some f) → FI k i f
 ki:∀ (j:Nat) f,fs[j]? = some (some f) → KI k p f
 pi:PI k a.ps
 cl:a.cds.length ≤ i
 st:a.st ≤ i
 at8:∀ (j x:Nat),a.ats[j]? = some x → x ≤ 8
 zK:zo a.K
 td:∀ (j:Nat) d,a.tds[j]? = some d → ∃ l,d=.a l ∧ l.length=17
theorem Drv.mono {k p i n m bx sg0 a fs} (h:Drv k p i n m bx sg0 a fs):Drv k p (i + 1) n m bx sg0 a fs :=
 {h with mi:=h.mi.mono,fi:=fun j f hf=>(h.fi j f hf).mono,cl:=by have:=h.cl; omega,st:=by have:=h.st; omega }
theorem Drv.pl {k p i n m bx sg0 a fs} (h:Drv k p i n m bx sg0 a fs):a.ps.length ≤ i:=by
 have:=h.mi.ck
 rw [memOf_ck] at this
 exact this
end Go.AM

namespace Go.AM
def eRec (er:Nat) (cs:List Cll) (at_:List Nat):List D:=.p er 0 :: .l .x 12 (cs.map eCll) :: at_.map eN
theorem c_history_Of (er:Nat) (sg:List (List D)):LL.call n_history_Of [.p er 0] sg sg.length=some (.p sg.length 0,sg ++ [eRec er [] [0,0,0,0,0,0]],sg.length):=by
 refine wp_call e_history_Of rfl ?_
 simp [F_history_Of,eRec,eN]
section
variable (er rc:Nat) (e:Eng) (M:Mem) (fs:List (Option FrR)) (cs:List Cll) (at_:List Nat) (sg:List (List D)) (hR:Rep sg er e M fs) (hrc:sg[rc]? = some (eRec er cs at_)) (nr:¬ own er e rc) (h6:at_.length=6) (hcs:cs.length ≤ 1000)
include hR hrc nr h6 hcs
theorem c_history_Begin_no (t : Int) (o : Rw) (hb : begO e.k e.cl fs t o ≠ 0) :
    LL.call n_history_Recorder_Begin [.p rc 0,.i .i64 t,eOp o] sg sg.length=some (.i .i64 (begO e.k e.cl fs t o),sg,sg.length):=by
 have B:=rep_begin_no hR t o hb
 generalize begO e.k e.cl fs t o=f at *
 have hb':(f == 0)=false:=by simp [hb]
 refine wp_call e_history_Recorder_Begin rfl ?_
 simp [eRec] at hrc
 simp [eOp] at B
 simp [F_history_Recorder_Begin,eOp,hrc,B,hb']
def recC (cs:List Cll) (at_:List Nat) (n:Nat) (d:Bool) (st:Nat) (a:An):List Cll × List Nat :=
 match at_[n]? with
 | none=>(cs,at_)
 | some k=>if d=true ∧ 0 < k then (match cs[k - 1]? with
  | none=>(cs,at_)
  | some c=>(cs.set (k - 1) { c with e:=st,a:=a },at_.set n 0)) else (cs,at_)
theorem c_history_Pick_none (pick : Int) (hb : busyO fs 0 = []) :
    LL.call n_history_Recorder_Pick [.p rc 0,.i .i64 pick] sg sg.length=some (.t [eEv 0 ⟨0,⟨0,0⟩,0,0⟩ ⟨false,⟨0,0⟩,0⟩ false,.b false],sg,sg.length):=by
 have B:=rep_pick_none hR pick hb
 obtain ⟨a0,a1,a2,a3,a4,a5,rfl⟩:=six h6
 refine wp_call e_history_Recorder_Pick rfl ?_
 simp [eRec,eN] at hrc
 simp [eEv] at B
 simp [F_history_Recorder_Pick,hrc,B,eEv]
end
end Go.AM

namespace Go.AM
structure Sn where
 at_:Int
 c:Cl
def eSn (x:Sn):D:=.a [.i .i64 x.at_,.i .u64 x.c.v,.i .i64 x.c.n,.l .z 2 (x.c.l.map eI)]
instance:Flat eSn:=⟨fun x=>by simp [eSn],fun x=>by simp [eSn],fun n x=>by simp [eSn]⟩
structure Scn where
 tries:Int
 left:Int
 l:List Sn
 at_:Int
 quiet:Bool
 closed:Bool
def eScn (s:Scn):List D:=[.i .i64 s.tries,.i .i64 s.left,.l .o 4 (s.l.map eSn),.i .i64 s.at_,.b s.quiet,.b s.closed]
structure Sht where
 k:Int
 p:Int
 l:List Sn
 tries:Int
 quiet:Bool
def eSht (s:Sht):List D:=[.i .i64 s.k,.i .i64 s.p,.l .z 4 (s.l.map eSn),.i .i64 s.tries,.b s.quiet]
def eRun (rc:Nat) (sp hp:Option Nat) (t:Int):List D:=[.p rc 0,eFp sp,eFp hp,.i .i64 t]
theorem c_scan_Of (rc:Nat) (sg:List (List D)):LL.call n_scan_Of [.p rc 0] sg sg.length=some (.p sg.length 0,sg ++ [eRun rc none none 0],sg.length):=by
 refine wp_call e_scan_Of rfl ?_
 simp [F_scan_Of,eRun,eFp]
def nAt (l:List Sn) (j:Nat):Int:=match l[j]? with
 | some x=>x.c.n
 | none=>0
def cellsS (k:Int) (p:Nat) (l:List Sn) (i:Nat):Int × Bool :=
 if k=2 then (if i < 2 then ((i:Int),true) else (2 + nAt l 0 * (p:Int) + (i:Int) - 2,decide (2 + nAt l 0 * (p:Int) + (i:Int) - 2 < 2 + (nAt l 1 + 1) * (p:Int)) && decide (2 + nAt l 0 * (p:Int) + (i:Int) - 2 < 1000)))
 else if k=4 then ((i:Int),decide (i < (gatesN p).length + p)) else ((i:Int),decide (i < p))
section
variable (er rc ru q:Nat) (hp:Option Nat) (t:Int) (e:Eng) (cs:List Cll) (at_:List Nat) (s:Scn) (sg:List (List D)) (h6:e.th.length=6) (her:sg[er]? = some (eEng e)) (hrc:sg[rc]? = some (eRec er cs at_)) (hru:sg[ru]? = some (eRun rc (some q) hp t)) (hq:sg[q]? = some (eScn s))
include her hrc hru hq
set_option maxHeartbeats 2000000 in
theorem c_scan_cells (hl : legal e.k e.p = 0) (i : Nat) (hi : i ≤ 1000000) (h2 : e.k = 2 → 2 ≤ i → ∃ a b r, s.l = a :: b :: r ∧ 0 ≤ a.c.n ∧ a.c.n ≤ 1000000 ∧ 0 ≤ b.c.n ∧ b.c.n ≤ 1000000) :
    LL.call n_scan_Runner_cells [.p ru 0,.i .i64 i] sg sg.length=some (.t [.i .i64 (cellsS e.k e.p s.l i).1,.b (cellsS e.k e.p s.l i).2],sg,sg.length):=by
 have hK:=c_engine_Kind e sg er her
 have hP:=c_engine_Param e sg er her
 have hp16:=legal_p hl
 simp [eRun,eFp] at hru
 simp [eRec] at hrc
 simp [eScn] at hq
 by_cases hk2:e.k=2
 ·by_cases hi2:i < 2
  ·have hi2':(i:Int) < 2:=by omega
   refine wp_call e_scan_Runner_cells rfl ?_
   simp [F_scan_Runner_cells,hru,hrc,hK,hk2,hi2',cellsS,hi2]
  ·obtain ⟨a,b,r,hs,n1,n2,n3,n4⟩:=h2 hk2 (by omega)
   have hi2':¬ (i:Int) < 2:=by omega
   rw [hs] at hq
   simp [eSn] at hq
   have m1:a.c.n * e.p ≤ 1000000 * 16:=Int.mul_le_mul n2 hp16.2 (by omega) (by omega)
   have m2:0 ≤ a.c.n * e.p:=Int.mul_nonneg n1 (by omega)
   have m3:(b.c.n + 1) * e.p ≤ 1000001 * 16:=Int.mul_le_mul (by omega) hp16.2 (by omega) (by omega)
   have m4:0 ≤ (b.c.n + 1) * e.p:=Int.mul_nonneg (by omega) (by omega)
   have w0:IntKind.i64.wrap (b.c.n + 1)=b.c.n + 1:=wrap64 (by omega)
   have w1:IntKind.i64.wrap (a.c.n * e.p)=a.c.n * e.p:=wrap64 (by omega)
   have w2:IntKind.i64.wrap ((b.c.n + 1) * e.p)=(b.c.n + 1) * e.p:=wrap64 (by omega)
   have w3:IntKind.i64.wrap (2 + a.c.n * e.p)=2 + a.c.n * e.p:=wrap64 (by omega)
   have w4:IntKind.i64.wrap (2 + a.c.n * e.p + i)=2 + a.c.n * e.p + i:=wrap64 (by omega)
   have w5:IntKind.i64.wrap (2 + a.c.n * e.p + i - 2)=2 + a.c.n * e.p + i - 2:=wrap64 (by omega)
   have w6:IntKind.i64.wrap (2 + (b.c.n + 1) * e.p)=2 + (b.c.n + 1) * e.p:=wrap64 (by omega)
   refine wp_call e_scan_Runner_cells rfl ?_
   by_cases hc:2 + a.c.n * e.p + i - 2 < 2 + (b.c.n + 1) * e.p
   ·simp [F_scan_Runner_cells,hru,hrc,hq,hK,hP,hk2,hi2',cellsS,nAt,hi2,hs,w0,w1,w2,w3,w4,w5,w6,hc]
   ·simp [F_scan_Runner_cells,hru,hrc,hq,hK,hP,hk2,hi2',cellsS,nAt,hi2,hs,w0,w1,w2,w3,w4,w5,w6,hc]
 ·have hk2':(e.k == 2)=false:=by simp [hk2]
  by_cases hk4:e.k=4
  ·have hw:=legal_width (p:=e.p) (by rw [← hk4]; exact hl)
   have N:=p_net_New e.p hw
   have O:=c_net_Out e.p hw e.p (by omega) sg
   simp [ePlan] at N O
   refine wp_call e_scan_Runner_cells rfl ?_
   simp [F_scan_Runner_cells,hru,hrc,hK,hP,hk4,cellsS,N,O]
   omega
  ·have hk4':(e.k == 4)=false:=by simp [hk4]
   refine wp_call e_scan_Runner_cells rfl ?_
   simp [F_scan_Runner_cells,hru,hrc,hK,hP,hk2,hk2',hk4,hk4',cellsS]
theorem c_scan_again:LL.call n_scan_scanner_again [.p q 0] sg sg.length=some (.t [],sg.set q (eScn { s with l:=[],at_:=-1 }),sg.length):=by
 have hlt:=get_lt hq
 have hg:∀ l:List D,(sg.set q l)[q]? = some l:=fun l=>List.getElem?_set_self hlt
 have htk:∀ l:List D,List.take sg.length (sg.set q l)=sg.set q l:=fun l=>List.take_of_length_le (by simp)
 simp [eScn] at hq
 refine wp_call e_scan_scanner_again rfl ?_
 simp [F_scan_scanner_again,hq,eScn,hg,htk]
def failS (s:Scn) (cl:Bool):Scn:=if s.left=1 then { s with l:=[],at_:=-1,left:=s.left - 1,quiet:=true,closed:=cl } else { s with l:=[],at_:=-1,left:=s.left - 1 }
set_option maxHeartbeats 2000000 in
include h6 in
theorem c_scan_failed (hd1 : q ≠ er) (hd2 : q ≠ rc) (hd3 : q ≠ ru) (hd4 : er ≠ ru) (hd5 : er ≠ rc) (hleft : 1 ≤ s.left ∧ s.left ≤ 1000) :
    LL.call n_scan_Runner_failed [.p ru 0] sg sg.length=some (.t [],if s.left=1 then (sg.set q (eScn (failS s e.cl))).set er (eEng { e with cl:=true }) else sg.set q (eScn (failS s e.cl)),sg.length):=by
 have A:=c_scan_again er rc ru q hp t e cs at_ s sg her hrc hru hq
 obtain ⟨s1,hs1⟩:∃ s1,s1=sg.set q (eScn { s with l:=[],at_:=-1 }):=⟨_,rfl⟩
 rw [← hs1] at A
 have hlt:=get_lt hq
 have hl1:s1.length=sg.length:=by rw [hs1]; simp
 have g1:s1[ru]? = some (eRun rc (some q) hp t):=by rw [hs1,List.getElem?_set_ne hd3]; exact hru
 have g2:s1[rc]? = some (eRec er cs at_):=by rw [hs1,List.getElem?_set_ne hd2]; exact hrc
 have g3:s1[er]? = some (eEng e):=by rw [hs1,List.getElem?_set_ne hd1]; exact her
 have g4:s1[q]? = some (eScn { s with l:=[],at_:=-1 }):=by rw [hs1,List.getElem?_set_self hlt]
 have ss:∀ x,s1.set q x=sg.set q x:=fun x=>by rw [hs1,List.set_set]
 have w1:IntKind.i64.wrap (s.left - 1)=s.left - 1:=wrap64 (by omega)
 have hg:∀ l:List D,(sg.set q l)[q]? = some l:=fun l=>List.getElem?_set_self hlt
 have htk:∀ l:List (List D),l.length=sg.length → List.take sg.length l=l:=fun l h=>List.take_of_length_le (by omega)
 obtain ⟨s2,hs2⟩:∃ s2,s2=sg.set q (eScn { s with l:=[],at_:=-1,left:=s.left - 1 }):=⟨_,rfl⟩
 have hl2:s2.length=sg.length:=by rw [hs2]; simp
 have i1:s2[ru]? = some (eRun rc (some q) hp t):=by rw [hs2,List.getElem?_set_ne hd3]; exact hru
 have i2:s2[rc]? = some (eRec er cs at_):=by rw [hs2,List.getElem?_set_ne hd2]; exact hrc
 have i3:s2[er]? = some (eEng e):=by rw [hs2,List.getElem?_set_ne hd1]; exact her
 have i4:s2[q]? = some (eScn { s with l:=[],at_:=-1,left:=s.left - 1 }):=by rw [hs2,List.getElem?_set_self hlt]
 have C:=c_engine_Closed e s2 er i3 h6
 rw [hl2] at C
 simp [eRun,eFp] at g1 i1
 simp [eRec] at g2 i2
 simp [eScn] at g4 i4 hs2
 by_cases h1:s.left=1
 ·rw [if_pos h1]
  obtain ⟨s3,hs3⟩:∃ s3,s3=sg.set q (eScn (failS s e.cl)):=⟨_,rfl⟩
  have hl3:s3.length=sg.length:=by rw [hs3]; simp
  have k1:s3[ru]? = some (eRun rc (some q) hp t):=by rw [hs3,List.getElem?_set_ne hd3]; exact hru
  have k2:s3[rc]? = some (eRec er cs at_):=by rw [hs3,List.getElem?_set_ne hd2]; exact hrc
  have k3:s3[er]? = some (eEng e):=by rw [hs3,List.getElem?_set_ne hd1]; exact her
  have Cl:=c_engine_Close e s3 er k3 h6
  rw [← hs3]
  simp [eRun,eFp] at k1
  simp [eRec] at k2
  simp [failS,h1,eScn] at hs3
  have w0:IntKind.i64.wrap 0=0:=by decide
  refine wp_call e_scan_Runner_failed rfl ?_
  simp [h1] at w1 hs2 i4
  have sst:∀ x,s2.set q x=sg.set q x:=fun x=>by rw [hs2,List.set_set]
  simp [F_scan_Runner_failed,hru,eRun,eFp,A,hl1,g1,g4,ss,h1,w0,w1,← hs2,i1,i2,i4,C,hl2,sst,← hs3,k1,k2,Cl,hg]
  simp [hl3]
  exact List.take_of_length_le (by simp [hl3])
 ·rw [if_neg h1]
  have hb:(s.left - 1 == 0)=false:=by simp; omega
  have h10:¬ s.left - 1=0:=by omega
  refine wp_call e_scan_Runner_failed rfl ?_
  simp [F_scan_Runner_failed,hru,eRun,eFp,A,hl1,g1,g4,ss,hb,h10,w1,← hs2,i1,i2,i4,hl2,hg]
  simp [failS,h1,hs2,eScn]
  exact List.take_of_length_le (by simp)
set_option maxHeartbeats 2000000 in
include h6 in
theorem c_scan_done (hd1 : q ≠ er) (hd2 : q ≠ rc) (hd3 : q ≠ ru) (hd4 : er ≠ ru) (hd5 : er ≠ rc) (hd6 : rc ≠ ru) (htr : 0 ≤ s.tries ∧ s.tries ≤ 1000) (hleft : 0 ≤ s.left ∧ s.left ≤ 1000) :
    ∃ sg',LL.call n_scan_Runner_done [.p ru 0] sg sg.length=some (.t [],sg',ru) ∧ sg'.length=sg.length + 1 ∧ sg'[ru]? = some (eRun rc none (some sg.length) t) ∧
     sg'[sg.length]? = some (eSht ⟨e.k,e.p,s.l,if s.quiet then s.tries else s.tries - s.left + 1,s.quiet⟩) ∧
     sg'[er]? = some (eEng { e with cl:=if s.quiet && !s.closed then false else e.cl }) ∧ (∀ x,x < sg.length → x ≠ ru → x ≠ er → sg'[x]? = sg[x]?):=by
 have hK:=c_engine_Kind e sg er her
 have hP:=c_engine_Param e sg er her
 have hlu:=get_lt hru
 have hle:=get_lt her
 have hlc:=get_lt hrc
 have hlq:=get_lt hq
 have w1:IntKind.i64.wrap (s.tries - s.left)=s.tries - s.left:=wrap64 (by omega)
 have w2:IntKind.i64.wrap (s.tries - s.left + 1)=s.tries - s.left + 1:=wrap64 (by omega)
 have hmin:min sg.length ru=ru:=by omega
 have hnl:¬ sg.length ≤ ru:=by omega
 have hmin2:min ru (sg.length + 1)=ru:=by omega
 have fz:D.fzs (s.l.map eSn)=s.l.map eSn:=fzs_flat eSn _
 obtain ⟨sh,hsh⟩:∃ sh,sh=eSht ⟨e.k,e.p,s.l,s.tries - s.left + 1,s.quiet⟩:=⟨_,rfl⟩
 obtain ⟨s1,hs1⟩:∃ s1,s1=(sg ++ [sh]).set ru (eRun rc (some q) (some sg.length) t):=⟨_,rfl⟩
 have happ:∀ z:List D,(sg ++ [z])[ru]? = some (eRun rc (some q) hp t):=fun z=>by rw [List.getElem?_append_left hlu]; exact hru
 have hl1:s1.length=sg.length + 1:=by rw [hs1]; simp
 have old1:∀ x,x < sg.length → x ≠ ru → s1[x]? = sg[x]? := fun x h1 h2=>by
  rw [hs1,List.getElem?_set_ne (Ne.symm h2),List.getElem?_append_left h1]
 have g1:s1[ru]? = some (eRun rc (some q) (some sg.length) t):=by
  rw [hs1,List.getElem?_set_self (by simp; omega)]
 have g2:s1[sg.length]? = some sh:=by rw [hs1,List.getElem?_set_ne (by omega),List.getElem?_append_right (Nat.le_refl _)]; simp
 have g3:s1[q]? = some (eScn s):=by rw [old1 q hlq hd3]; exact hq
 have g4:s1[rc]? = some (eRec er cs at_):=by rw [old1 rc hlc hd6]; exact hrc
 have g5:s1[er]? = some (eEng e):=by rw [old1 er hle hd4]; exact her
 cases hquiet:s.quiet with
 | false =>
  refine ⟨s1.set ru (eRun rc none (some sg.length) t),?_,by simp [hl1],by rw [List.getElem?_set_self (by omega)],?_,?_,fun x h1 h2 h3=>?_⟩
  ·simp [eRun,eFp] at hru happ g1 hs1
   simp [eRec] at hrc
   simp [eScn,hquiet] at hq g3
   simp [eSht,hquiet] at hsh
   rw [hsh] at hs1
   refine wp_call e_scan_Runner_done rfl ?_
   simp [F_scan_Runner_done,hru,happ,hrc,hq,hK,hP,w1,w2,fz,← hs1,g1,g3,hl1,hmin,hnl,eRun,eFp]
   done
  ·rw [List.getElem?_set_ne (by omega),g2,hsh,hquiet]; rfl
  ·rw [List.getElem?_set_ne (Ne.symm hd4),g5]; rfl
  ·rw [List.getElem?_set_ne (Ne.symm h2)]; exact old1 x h1 h2
 | true =>
  obtain ⟨sh2,hsh2⟩:∃ sh2,sh2=eSht ⟨e.k,e.p,s.l,s.tries,true⟩:=⟨_,rfl⟩
  obtain ⟨s2,hs2⟩:∃ s2,s2=s1.set sg.length sh2:=⟨_,rfl⟩
  have hl2:s2.length=sg.length + 1:=by rw [hs2]; simp [hl1]
  have old2:∀ x,x < sg.length → s2[x]? = s1[x]? := fun x h1=>by rw [hs2,List.getElem?_set_ne (by omega)]
  have i1:s2[ru]? = some (eRun rc (some q) (some sg.length) t):=by rw [old2 ru hlu]; exact g1
  have i2:s2[sg.length]? = some sh2:=by rw [hs2,List.getElem?_set_self (by omega)]
  have i3:s2[q]? = some (eScn s):=by rw [old2 q hlq]; exact g3
  have i4:s2[rc]? = some (eRec er cs at_):=by rw [old2 rc hlc]; exact g4
  have i5:s2[er]? = some (eEng e):=by rw [old2 er hle]; exact g5
  cases hcl:s.closed with
  | true =>
   refine ⟨s2.set ru (eRun rc none (some sg.length) t),?_,by simp [hl2],by rw [List.getElem?_set_self (by omega)],?_,?_,fun x h1 h2 h3=>?_⟩
   ·simp [eRun,eFp] at hru happ g1 hs1 i1
    simp [eRec] at hrc i4
    simp [eScn,hquiet,hcl] at hq g3 i3
    simp [eSht,hquiet] at hsh hsh2
    rw [hsh] at hs1 g2
    obtain ⟨_,g2e⟩:=List.getElem?_eq_some_iff.1 g2
    rw [hsh2] at hs2
    refine wp_call e_scan_Runner_done rfl ?_
    simp [F_scan_Runner_done,hru,happ,hrc,hq,hK,hP,w1,w2,fz,← hs1,g1,g2,g2e,g3,hl1,hmin,hnl,← hs2,i1,i3,i4,hl2,eRun,eFp]
    done
   ·rw [List.getElem?_set_ne (by omega),i2,hsh2]; rfl
   ·rw [List.getElem?_set_ne (Ne.symm hd4),i5]; rfl
   ·rw [List.getElem?_set_ne (Ne.symm h2),old2 x h1]; exact old1 x h1 h2
  | false =>
   have Op:=c_engine_Open e s2 er i5 h6
   obtain ⟨s3,hs3⟩:∃ s3,s3=s2.set er (eEng { e with cl:=false }):=⟨_,rfl⟩
   rw [← hs3] at Op
   have hl3:s3.length=sg.length + 1:=by rw [hs3]; simp [hl2]
   have k1:s3[ru]? = some (eRun rc (some q) (some sg.length) t):=by rw [hs3,List.getElem?_set_ne hd4]; exact i1
   refine ⟨s3.set ru (eRun rc none (some sg.length) t),?_,by simp [hl3],by rw [List.getElem?_set_self (by omega)],?_,?_,fun x h1 h2 h3=>?_⟩
   ·rw [hl2] at Op
    simp [eRun,eFp] at hru happ g1 hs1 i1 k1
    simp [eRec] at hrc i4
    simp [eScn,hquiet,hcl] at hq g3 i3
    simp [eSht,hquiet] at hsh hsh2
    rw [hsh] at hs1 g2
    obtain ⟨_,g2e⟩:=List.getElem?_eq_some_iff.1 g2
    rw [hsh2] at hs2
    refine wp_call e_scan_Runner_done rfl ?_
    simp [F_scan_Runner_done,hru,happ,hrc,hq,hK,hP,w1,w2,fz,← hs1,g1,g2,g2e,g3,hl1,hmin,hnl,← hs2,i1,i3,i4,hl2,Op,k1,hl3,hmin2,eRun,eFp]
    done
   ·rw [List.getElem?_set_ne (by omega),hs3,List.getElem?_set_ne (by omega),i2,hsh2]; rfl
   ·rw [List.getElem?_set_ne (Ne.symm hd4),hs3,List.getElem?_set_self (by omega)]; rfl
   ·rw [List.getElem?_set_ne (Ne.symm h2),hs3,List.getElem?_set_ne (Ne.symm h3),old2 x h1]; exact old1 x h1 h2
end
end Go.AM

namespace Go.AM
def startS (sp hp:Option Nat) (n:Int):Int:=if n < 1 ∨ 8 < n then 4 else if sp.isSome || hp.isSome then 11 else 0
theorem c_scan_Start (rc ru : Nat) (sp hp : Option Nat) (t n : Int) (sg : List (List D)) (hru : sg[ru]? = some (eRun rc sp hp t)) :
    LL.call n_scan_Runner_Start [.p ru 0,.i .i64 n] sg sg.length =
     if startS sp hp n=0 then some (.i .i64 0,sg.set ru (eRun rc (some sg.length) hp t) ++ [eScn ⟨n,n,[],-1,false,false⟩],ru) else some (.i .i64 (startS sp hp n),sg,sg.length):=by
 generalize hT:startS sp hp n=T
 unfold startS at hT
 have hlt:=get_lt hru
 have hmin:min sg.length ru=ru:=by omega
 have hnl:¬ sg.length ≤ ru:=by omega
 by_cases h1:n < 1
 ·rw [if_pos (.inl h1)] at hT
  subst hT
  refine wp_call e_scan_Runner_Start rfl ?_
  simp [F_scan_Runner_Start,h1]
 ·by_cases h2:8 < n
  ·rw [if_pos (.inr h2)] at hT
   subst hT
   refine wp_call e_scan_Runner_Start rfl ?_
   simp [F_scan_Runner_Start,h1,h2]
  ·rw [if_neg (by omega)] at hT
   cases sp with
   | some s0 =>
    simp at hT
    subst hT
    simp [eRun,eFp] at hru
    refine wp_call e_scan_Runner_Start rfl ?_
    simp [F_scan_Runner_Start,h1,h2,hru]
   | none =>
    cases hp with
    | some s0 =>
     simp at hT
     subst hT
     simp [eRun,eFp] at hru
     refine wp_call e_scan_Runner_Start rfl ?_
     simp [F_scan_Runner_Start,h1,h2,hru]
    | none =>
     simp at hT
     subst hT
     have happ:∀ z:List D,(sg ++ [z])[ru]? = some (eRun rc none none t):=fun z=>by rw [List.getElem?_append_left hlt]; exact hru
     obtain ⟨_,hr2⟩:=List.getElem?_eq_some_iff.1 hru
     simp [eRun,eFp] at hru happ hr2
     refine wp_call e_scan_Runner_Start rfl ?_
     simp [F_scan_Runner_Start,h1,h2,hru,happ,hr2,eScn,eRun,eFp,hmin,hnl,hlt]
     done
theorem c_scan_Take_none (rc ru : Nat) (sp : Option Nat) (t : Int) (sg : List (List D)) (hru : sg[ru]? = some (eRun rc sp none t)) :
    ∃ K,zo K ∧ LL.call n_scan_Runner_Take [.p ru 0] sg sg.length=some (.t [.a [.i .i64 0,.i .i64 0,.l K 4 [],.i .i64 0,.b false],.b false],sg,sg.length):=by
 simp [eRun,eFp] at hru
 refine ⟨.o,.inr rfl,wp_call e_scan_Runner_Take rfl ?_⟩
 simp [F_scan_Runner_Take,hru]
theorem c_scan_Take (rc ru h : Nat) (sp : Option Nat) (t : Int) (s : Sht) (sg : List (List D)) (hru : sg[ru]? = some (eRun rc sp (some h) t)) (hh : sg[h]? = some (eSht s)) :
    LL.call n_scan_Runner_Take [.p ru 0] sg sg.length=some (.t [.a (eSht s),.b true],sg.set ru (eRun rc sp none t),sg.length):=by
 have hlt:=get_lt hru
 have hg:∀ l:List D,(sg.set ru l)[ru]? = some l:=fun l=>List.getElem?_set_self hlt
 simp [eRun,eFp] at hru
 simp [eSht] at hh
 refine wp_call e_scan_Runner_Take rfl ?_
 simp [F_scan_Runner_Take,hru,hh,eSht,eRun,eFp,hg]
 exact List.take_of_length_le (by simp)
def stepS (k:Int) (p:Nat) (M:Mem) (s:Scn) (busy:Int):Scn × Nat :=
 if s.quiet=true ∧ 0 < busy then (s,0)
 else if s.at_ < 0 then
  (if (cellsS k p (s.l ++ [⟨(cellsS k p s.l s.l.length).1,rdM M (cellsS k p s.l s.l.length).1⟩]) (s.l.length + 1)).2 then ({ s with l:=s.l ++ [⟨(cellsS k p s.l s.l.length).1,rdM M (cellsS k p s.l s.l.length).1⟩] },0)
  else ({ s with l:=s.l ++ [⟨(cellsS k p s.l s.l.length).1,rdM M (cellsS k p s.l s.l.length).1⟩],at_:=0 },if s.quiet then 1 else 0))
 else match s.l[s.at_.toNat]? with
  | none=>(s,0)
  | some x=>if (rdM M x.at_).v=x.c.v then ({ s with at_:=s.at_ + 1 },if s.at_ + 1=s.l.length then 1 else 0) else (s,2)
def two2 (k:Int) (l:List Sn):Prop:=k=2 → 2 ≤ l.length → ∃ a b r,l=a :: b :: r ∧ 0 ≤ a.c.n ∧ a.c.n ≤ 1000000 ∧ 0 ≤ b.c.n ∧ b.c.n ≤ 1000000
theorem two2_app {k:Int} {l:List Sn} (h:two2 k l) (x:Sn) (hx:0 ≤ x.c.n ∧ x.c.n ≤ 1000000) (h0:∀ y ∈ l,k=2 → 0 ≤ y.c.n ∧ y.c.n ≤ 1000000):two2 k (l ++ [x]):=by
 intro hk hl
 match l with
 | [] => simp at hl
 | [a] => exact ⟨a,x,[],rfl,(h0 a (by simp) hk).1,(h0 a (by simp) hk).2,hx.1,hx.2⟩
 | a :: b :: r=>exact ⟨a,b,r ++ [x],rfl,(h0 a (by simp) hk).1,(h0 a (by simp) hk).2,(h0 b (by simp) hk).1,(h0 b (by simp) hk).2⟩
section
variable (er rc ru q:Nat) (hp:Option Nat) (t:Int) (e:Eng) (M:Mem) (cs:List Cll) (at_:List Nat) (s:Scn) (sg:List (List D)) (h6:e.th.length=6) (her:sg[er]? = some (eEng e)) (hrc:sg[rc]? = some (eRec er cs at_)) (hru:sg[ru]? = some (eRun rc (some q) hp t)) (hq:sg[q]? = some (eScn s))
 (hm:sg[e.m]? = some (eMem M)) (hM:M.good) (hd1:q ≠ er) (hd2:q ≠ rc) (hd3:q ≠ ru) (hd4:er ≠ ru) (hd5:er ≠ rc) (hd6:rc ≠ ru) (hd7:q ≠ e.m) (hl:legal e.k e.p=0)
include h6 her hrc hru hq hm hM hd1 hd2 hd3 hd4 hd5 hd6 hd7 hl
theorem c_scan_step_wait (busy:Int) (h:s.quiet=true ∧ 0 < busy):LL.call n_scan_Runner_step [.p ru 0,.i .i64 busy] sg sg.length=some (.t [],sg,sg.length):=by
 have h1:=h.1
 have h2:=h.2
 simp [eRun,eFp] at hru
 simp [eScn,h1] at hq
 refine wp_call e_scan_Runner_step rfl ?_
 simp [F_scan_Runner_step,hru,hq,h2]
theorem c_scan_step_next (busy : Int) (h : ¬ (s.quiet = true ∧ 0 < busy)) (n : Nat) (ha : s.at_ = n) (x : Sn) (hx : s.l[n]? = some x) (hll : s.l.length ≤ 2000) (hv : (rdM M x.at_).v = x.c.v) (hn : n + 1 ≠ s.l.length) :
    LL.call n_scan_Runner_step [.p ru 0,.i .i64 busy] sg sg.length=some (.t [],sg.set q (eScn { s with at_:=n + 1 }),sg.length):=by
 have hlt:=get_lt hq
 have hnl:=(List.getElem?_eq_some_iff.1 hx).1
 have hxe:=(List.getElem?_eq_some_iff.1 hx).2
 have Me:=c_engine_Memory e sg er her
 have Rd:=c_cell_Memory_Read M x.at_ sg e.m hm hM.ok
 have w1:IntKind.i64.wrap ((n:Int) + 1)=n + 1:=wrap64 (by omega)
 have hneg:¬ ((n:Int) < 0):=by omega
 have heq:((n:Int) + 1 == s.l.length)=false:=by rw [beq_eq_false_iff_ne]; omega
 have hxs:(s.l.map eSn)[n]? = some (eSn x):=by simp [hx]
 simp [eRun,eFp] at hru
 simp [eRec] at hrc
 simp [eScn,ha] at hq
 simp [eC] at Rd
 have hquiet:s.quiet=false ∨ (s.quiet=true ∧ ¬ 0 < busy):=by
  cases hc:s.quiet with
  | false=>exact .inl rfl
  | true=>exact .inr ⟨rfl,fun hb=>h ⟨hc,hb⟩⟩
 have hg:∀ l:List D,(sg.set q l)[q]? = some l:=fun l=>List.getElem?_set_self hlt
 rcases hquiet with hqt | ⟨hqt,hnb⟩
 ·simp [hqt] at hq
  refine wp_call e_scan_Runner_step rfl ?_
  simp [F_scan_Runner_step,hru,hrc,hq,hneg,Me,Rd,hx,hxe,hnl,eSn,hv,w1,heq,hg]
  simp [eScn,hqt]
  exact List.take_of_length_le (by simp)
 ·simp [hqt] at hq
  refine wp_call e_scan_Runner_step rfl ?_
  simp [F_scan_Runner_step,hru,hrc,hq,hnb,hneg,Me,Rd,hx,hxe,hnl,eSn,hv,w1,heq,hg]
  simp [eScn,hqt]
  exact List.take_of_length_le (by simp)
theorem c_scan_step_fail (busy : Int) (h : ¬ (s.quiet = true ∧ 0 < busy)) (n : Nat) (ha : s.at_ = n) (x : Sn) (hx : s.l[n]? = some x) (hll : s.l.length ≤ 2000) (hv : (rdM M x.at_).v ≠ x.c.v) (hleft : 1 ≤ s.left ∧ s.left ≤ 1000) :
    LL.call n_scan_Runner_step [.p ru 0,.i .i64 busy] sg sg.length=some (.t [],if s.left=1 then (sg.set q (eScn (failS s e.cl))).set er (eEng { e with cl:=true }) else sg.set q (eScn (failS s e.cl)),sg.length):=by
 have F:=c_scan_failed er rc ru q hp t e cs at_ s sg h6 her hrc hru hq hd1 hd2 hd3 hd4 hd5 hleft
 have hls:(if s.left=1 then (sg.set q (eScn (failS s e.cl))).set er (eEng { e with cl:=true }) else sg.set q (eScn (failS s e.cl))).length=sg.length:=by split <;> simp
 generalize (if s.left=1 then (sg.set q (eScn (failS s e.cl))).set er (eEng { e with cl:=true }) else sg.set q (eScn (failS s e.cl)))=s2 at *
 have hlt:=get_lt hq
 have hnl:=(List.getElem?_eq_some_iff.1 hx).1
 have hxe:=(List.getElem?_eq_some_iff.1 hx).2
 have Me:=c_engine_Memory e sg er her
 have Rd:=c_cell_Memory_Read M x.at_ sg e.m hm hM.ok
 have hneg:¬ ((n:Int) < 0):=by omega
 have hv':(((rdM M x.at_).v:Int) != (x.c.v:Int))=true:=by rw [bne_iff_ne]; omega
 simp [eRun,eFp] at hru
 simp [eRec] at hrc
 simp [eScn,ha] at hq
 simp [eC] at Rd
 have hquiet:s.quiet=false ∨ (s.quiet=true ∧ ¬ 0 < busy):=by
  cases hc:s.quiet with
  | false=>exact .inl rfl
  | true=>exact .inr ⟨rfl,fun hb=>h ⟨hc,hb⟩⟩
 rcases hquiet with hqt | ⟨hqt,hnb⟩
 ·simp [hqt] at hq
  refine wp_call e_scan_Runner_step rfl ?_
  simp [F_scan_Runner_step,hru,hrc,hq,hneg,Me,Rd,hx,hxe,hnl,eSn,hv,hv',F]
  exact List.take_of_length_le (by omega)
 ·simp [hqt] at hq
  refine wp_call e_scan_Runner_step rfl ?_
  simp [F_scan_Runner_step,hru,hrc,hq,hnb,hneg,Me,Rd,hx,hxe,hnl,eSn,hv,hv',F]
  exact List.take_of_length_le (by omega)
theorem c_scan_step_last (busy : Int) (h : ¬ (s.quiet = true ∧ 0 < busy)) (n : Nat) (ha : s.at_ = n) (x : Sn) (hx : s.l[n]? = some x) (hll : s.l.length ≤ 2000) (hv : (rdM M x.at_).v = x.c.v) (hn : n + 1 = s.l.length) (htr : 0 ≤ s.tries ∧ s.tries ≤ 1000) (hleft : 0 ≤ s.left ∧ s.left ≤ 1000) :
    ∃ sg',LL.call n_scan_Runner_step [.p ru 0,.i .i64 busy] sg sg.length=some (.t [],sg',ru) ∧ sg'.length=sg.length + 1 ∧ sg'[ru]? = some (eRun rc none (some sg.length) t) ∧
     sg'[sg.length]? = some (eSht ⟨e.k,e.p,s.l,if s.quiet then s.tries else s.tries - s.left + 1,s.quiet⟩) ∧
     sg'[er]? = some (eEng { e with cl:=if s.quiet && !s.closed then false else e.cl }) ∧ (∀ x,x < sg.length → x ≠ ru → x ≠ er → x ≠ q → sg'[x]? = sg[x]?):=by
 have hlt:=get_lt hq
 obtain ⟨s1,hs1⟩:∃ s1,s1=sg.set q (eScn { s with at_:=n + 1 }):=⟨_,rfl⟩
 have hl1:s1.length=sg.length:=by rw [hs1]; simp
 have g1:s1[ru]? = some (eRun rc (some q) hp t):=by rw [hs1,List.getElem?_set_ne hd3]; exact hru
 have g2:s1[rc]? = some (eRec er cs at_):=by rw [hs1,List.getElem?_set_ne hd2]; exact hrc
 have g3:s1[er]? = some (eEng e):=by rw [hs1,List.getElem?_set_ne hd1]; exact her
 have g5:s1[q]? = some (eScn { s with at_:=n + 1 }):=by rw [hs1,List.getElem?_set_self hlt]
 obtain ⟨sg',Dn,d1,d2,d3,d4,d5⟩:=c_scan_done er rc ru q hp t e cs at_ { s with at_:=n + 1 } s1 h6 g3 g2 g1 g5 hd1 hd2 hd3 hd4 hd5 hd6 htr hleft
 rw [hl1] at Dn d1 d2 d3 d5
 refine ⟨sg',?_,d1,d2,d3,d4,fun y h1 h2 h3 h4=>by rw [d5 y h1 h2 h3,hs1,List.getElem?_set_ne (Ne.symm h4)]⟩
 have hnl:=(List.getElem?_eq_some_iff.1 hx).1
 have hxe:=(List.getElem?_eq_some_iff.1 hx).2
 have hlu:=get_lt hru
 have Me:=c_engine_Memory e sg er her
 have Rd:=c_cell_Memory_Read M x.at_ sg e.m hm hM.ok
 have w1:IntKind.i64.wrap ((n:Int) + 1)=n + 1:=wrap64 (by omega)
 have hneg:¬ ((n:Int) < 0):=by omega
 have heq:(n:Int) + 1=s.l.length:=by omega
 have w2:IntKind.i64.wrap (s.l.length:Int)=s.l.length:=wrap64 (by omega)
 have hg:∀ l:List D,(sg.set q l)[q]? = some l:=fun l=>List.getElem?_set_self hlt
 have hmin:min sg.length ru=ru:=by omega
 have hnle:¬ sg.length ≤ ru:=by omega
 simp [eRun,eFp] at hru
 simp [eRec] at hrc
 simp [eScn,ha] at hq
 simp [eScn,heq] at g5 hs1
 simp [eC] at Rd
 have hquiet:s.quiet=false ∨ (s.quiet=true ∧ ¬ 0 < busy):=by
  cases hc:s.quiet with
  | false=>exact .inl rfl
  | true=>exact .inr ⟨rfl,fun hb=>h ⟨hc,hb⟩⟩
 rcases hquiet with hqt | ⟨hqt,hnb⟩
 ·simp [hqt] at hq hs1 g5
  refine wp_call e_scan_Runner_step rfl ?_
  simp [F_scan_Runner_step,hru,hrc,hq,hneg,Me,Rd,hx,hxe,hnl,eSn,hv,w1,w2,heq,hg,← hs1,g5,Dn,hl1,hmin,hnle]
  done
 ·simp [hqt] at hq hs1 g5
  refine wp_call e_scan_Runner_step rfl ?_
  simp [F_scan_Runner_step,hru,hrc,hq,hnb,hneg,Me,Rd,hx,hxe,hnl,eSn,hv,w1,w2,heq,hg,← hs1,g5,Dn,hl1,hmin,hnle]
  done
end
end Go.AM

namespace Go.AM
structure Xr where
 on:Bool
 tw:Bool
 qu:Bool
 af:Bool
 tries:Int
 left:Int
 at_:Int
 tick:Int
 l:List Sn
 has:Bool
 sl:List Sn
 st:Int
 sq:Bool
def eSx (s:Sn):D:=.a [.i .i64 s.at_,.i .i64 s.c.v,.i .i64 s.c.n,.l .z 2 (s.c.l.map eR)]
instance:Flat eSx:=⟨fun s=>by simp [eSx],fun s=>by simp [eSx],fun n s=>by simp [eSx]⟩
def eXr (KM KF KL KS:K) (k:Int) (p:Nat) (ps:List Pt) (fs:List D) (cl:Bool) (x:Xr):D :=
 .a [.i .i64 k,.i .i64 p,.l KM 3 (ps.map ePt),.l KF 17 fs,.b cl,.b x.on,.b x.tw,.b x.qu,.b x.af,.i .i64 x.tries,.i .i64 x.left,.i .i64 x.at_,.i .i64 x.tick,.l KL 4 (x.l.map eSx),.b x.has,.l KS 4 (x.sl.map eSx),.i .i64 x.st,.b x.sq]
def gateX (x:Xr) (cl c:Bool):Xr × Bool:=if x.on && x.qu then ({ x with af:=c },cl) else (x,c)
section
variable (k:Int) (p:Nat) (ps:List Pt) (gs:List FrR) (cl:Bool) (x:Xr) (sg:List (List D))
theorem c_ref16_Gate (c:Bool):LL.call n_c_ref16_Gate [eXr .z .z .z .z k p ps (gs.map eFr) cl x,.b c] sg sg.length=some (eXr .z .z .z .z k p ps (gs.map eFr) (gateX x cl c).2 (gateX x cl c).1,sg,sg.length):=by
 refine wp_call e_c_ref16_Gate rfl ?_
 unfold gateX
 cases h1:x.on
 ·simp [F_c_ref16_Gate,eXr,h1]
 ·cases h2:x.qu
  ·simp [F_c_ref16_Gate,eXr,h1,h2]
  ·simp [F_c_ref16_Gate,eXr,h1,h2]
def startX (x:Xr) (n:Int):Xr × Int:=if n < 1 ∨ 8 < n then (x,4) else if x.on || x.has then (x,11) else ({ x with on:=true,tw:=false,qu:=false,at_:=0,l:=[],tries:=n,left:=n },0)
theorem c_ref16_Start (n:Int):∃ K1 K2,zo K1 ∧ zo K2 ∧ LL.call n_c_ref16_Start [eXr .z .z .z .z k p ps (gs.map eFr) cl x,.i .i64 n] sg sg.length=some (.t [eXr .z .z K1 K2 k p ps (gs.map eFr) cl (startX x n).1,.i .i64 (startX x n).2],sg,sg.length):=by
 generalize hT:startX x n=T
 unfold startX at hT
 by_cases h1:n < 1
 ·rw [if_pos (.inl h1)] at hT
  subst hT
  refine ⟨.z,.z,.inl rfl,.inl rfl,wp_call e_c_ref16_Start rfl ?_⟩
  simp [F_c_ref16_Start,eXr,h1]
 ·by_cases h2:8 < n
  ·rw [if_pos (.inr h2)] at hT
   subst hT
   refine ⟨.z,.z,.inl rfl,.inl rfl,wp_call e_c_ref16_Start rfl ?_⟩
   simp [F_c_ref16_Start,eXr,h1,h2]
  ·rw [if_neg (by omega)] at hT
   cases h3:x.on
   ·cases h4:x.has
    ·rw [h3,h4] at hT
     subst hT
     refine ⟨.o,.z,.inr rfl,.inl rfl,wp_call e_c_ref16_Start rfl ?_⟩
     simp [F_c_ref16_Start,eXr,h1,h2,h3,h4]
    ·rw [h3,h4] at hT
     subst hT
     refine ⟨.z,.z,.inl rfl,.inl rfl,wp_call e_c_ref16_Start rfl ?_⟩
     simp [F_c_ref16_Start,eXr,h1,h2,h3,h4]
   ·rw [h3] at hT
    subst hT
    refine ⟨.z,.z,.inl rfl,.inl rfl,wp_call e_c_ref16_Start rfl ?_⟩
    simp [F_c_ref16_Start,eXr,h1,h2,h3]
def finX (x:Xr):Xr:={ x with on:=false,has:=true,sl:=x.l,st:=if x.qu then x.tries else x.tries - x.left + 1,sq:=x.qu,qu:=false }
def finC (x:Xr) (cl:Bool):Bool:=if x.qu then x.af else cl
theorem c_ref16_finish (KL:K) (hKL:zo KL) (ht:0 ≤ x.tries ∧ x.tries ≤ 1000) (hl:0 ≤ x.left ∧ x.left ≤ 1000):LL.call n_c_ref16_finish [eXr .z .z KL .z k p ps (gs.map eFr) cl x] sg sg.length=some (eXr .z .z KL .z k p ps (gs.map eFr) (finC x cl) (finX x),sg,sg.length):=by
 have w1:IntKind.i64.wrap (x.tries - x.left)=x.tries - x.left:=wrap64 (by omega)
 have w2:IntKind.i64.wrap (x.tries - x.left + 1)=x.tries - x.left + 1:=wrap64 (by omega)
 refine wp_call e_c_ref16_finish rfl ?_
 unfold finX finC
 rcases hKL with rfl | rfl
 all_goals
  cases h1:x.qu
  ·simp [F_c_ref16_finish,eXr,h1,w1,w2]
  ·simp [F_c_ref16_finish,eXr,h1,w1,w2]
def cellX (k:Int) (p:Nat) (l:List Sn) (i:Nat):Int:=if (cellsS k p l i).2 then (cellsS k p l i).1 else -1
set_option maxHeartbeats 4000000 in
theorem c_ref16_cell (hl : legal k p = 0) (i : Nat) (hi : i ≤ 1000000) (h2 : k = 2 → 2 ≤ i → ∃ a b r, x.l = a :: b :: r ∧ 0 ≤ a.c.n ∧ a.c.n ≤ 1000000 ∧ 0 ≤ b.c.n ∧ b.c.n ≤ 1000000) :
    LL.call n_c_ref16_cell [eXr .z .z .z .z k p ps (gs.map eFr) cl x,.i .i64 i] sg sg.length=some (.i .i64 (cellX k p x.l i),sg,sg.length):=by
 have hp16:=legal_p hl
 generalize hT:cellX k p x.l i=T
 unfold cellX cellsS at hT
 by_cases hk2:k=2
 ·rw [if_pos hk2] at hT
  by_cases hi2:i < 2
  ·have hi2':(i:Int) < 2:=by omega
   rw [if_pos hi2] at hT
   simp at hT
   subst hT
   refine wp_call e_c_ref16_cell rfl ?_
   simp [F_c_ref16_cell,eXr,hk2,hi2']
  ·obtain ⟨a,b,r,hs,n1,n2,n3,n4⟩:=h2 hk2 (by omega)
   have hi2':¬ (i:Int) < 2:=by omega
   rw [if_neg hi2] at hT
   have m1:a.c.n * p ≤ 1000000 * 16:=Int.mul_le_mul n2 hp16.2 (by omega) (by omega)
   have m2:0 ≤ a.c.n * p:=Int.mul_nonneg n1 (by omega)
   have m3:b.c.n * p ≤ 1000000 * 16:=Int.mul_le_mul n4 hp16.2 (by omega) (by omega)
   have m4:0 ≤ b.c.n * p:=Int.mul_nonneg n3 (by omega)
   have w1:IntKind.i64.wrap (a.c.n * p)=a.c.n * p:=wrap64 (by omega)
   have w2:IntKind.i64.wrap (b.c.n * p)=b.c.n * p:=wrap64 (by omega)
   have w3:IntKind.i64.wrap ((i:Int) + a.c.n * p)=i + a.c.n * p:=wrap64 (by omega)
   have w4:IntKind.i64.wrap (2 + b.c.n * p)=2 + b.c.n * p:=wrap64 (by omega)
   have w5:IntKind.i64.wrap (2 + b.c.n * p + p)=2 + b.c.n * p + p:=wrap64 (by omega)
   have hn0:nAt x.l 0=a.c.n:=by rw [hs]; rfl
   have hn1:nAt x.l 1=b.c.n:=by rw [hs]; rfl
   rw [hn0,hn1] at hT
   have hb:(b.c.n + 1) * (p:Int)=b.c.n * p + p:=by rw [Int.add_mul,Int.one_mul]
   rw [hb] at hT
   refine wp_call e_c_ref16_cell rfl ?_
   by_cases c1:2 + b.c.n * (p:Int) + p ≤ (i:Int) + a.c.n * p
   ·have:¬ 2 + a.c.n * (p:Int) + i - 2 < 2 + (b.c.n * p + p):=by omega
    simp [this] at hT
    subst hT
    simp [F_c_ref16_cell,eXr,eSx,hk2,hi2',hs,w1,w2,w3,w4,w5,c1]
   ·by_cases c2:1000 ≤ (i:Int) + a.c.n * p
    ·have:¬ 2 + a.c.n * (p:Int) + i - 2 < 1000:=by omega
     simp [this] at hT
     subst hT
     simp [F_c_ref16_cell,eXr,eSx,hk2,hi2',hs,w1,w2,w3,w4,w5,c1,c2]
    ·have e1:2 + a.c.n * (p:Int) + i - 2 < 2 + (b.c.n * p + p):=by omega
     have e2:2 + a.c.n * (p:Int) + i - 2 < 1000:=by omega
     simp [e1,e2] at hT
     have e3:(i:Int) + a.c.n * p=T:=by omega
     have wT:IntKind.i64.wrap T=T:=wrap64 (by omega)
     rw [e3] at c1 c2
     simp [F_c_ref16_cell,eXr,eSx,hk2,hi2',hs,w1,w2,w4,w5,c1,c2,e3,wT]
 ·rw [if_neg hk2] at hT
  have hk2':(k == 2)=false:=by simp [hk2]
  by_cases hk4:k=4
  ·rw [if_pos hk4] at hT
   have hw:=legal_width (p:=p) (by rw [← hk4]; exact hl)
   have N:=p_count p hw
   have hgl:=(widthN_facts p hw).2.2.2
   have hpl:((pairsN p).length:Int) / 2=(gatesN p).length:=by
    have:(pairsN p).length=2 * (gatesN p).length:=by
     unfold pairsN
     generalize gatesN p=g
     induction g with
     | nil=>rfl
     | cons a g ih=>simp only [List.flatMap_cons,List.length_append,List.length_cons,List.length_nil,ih]; omega
    omega
   have wq:IntKind.i64.wrap ((gatesN p).length:Int)=(gatesN p).length:=wrap64 (by omega)
   have wp:IntKind.i64.wrap ((p:Int) + (gatesN p).length)=p + (gatesN p).length:=wrap64 (by omega)
   simp [eNetR] at N
   refine wp_call e_c_ref16_cell rfl ?_
   by_cases c1:(p:Int) + (gatesN p).length ≤ i
   ·have:¬ i < (gatesN p).length + p:=by omega
    simp [this] at hT
    subst hT
    simp [F_c_ref16_cell,eXr,hk4,N,hpl,wq,wp,c1]
   ·have:i < (gatesN p).length + p:=by omega
    simp [this] at hT
    subst hT
    simp [F_c_ref16_cell,eXr,hk4,N,hpl,wq,wp,c1]
  ·rw [if_neg hk4] at hT
   have hk4':(k == 4)=false:=by simp [hk4]
   refine wp_call e_c_ref16_cell rfl ?_
   by_cases c1:(p:Int) ≤ i
   ·have:¬ i < p:=by omega
    simp [this] at hT
    subst hT
    simp [F_c_ref16_cell,eXr,hk2',hk4',c1]
   ·have:i < p:=by omega
    simp [this] at hT
    subst hT
    simp [F_c_ref16_cell,eXr,hk2',hk4',c1]
def stepX (k:Int) (p:Nat) (ps:List Pt) (x:Xr) (cl:Bool) (busy:Int):Xr × Bool :=
 if x.qu=true ∧ 0 < busy then (x,cl)
 else if x.tw=false then
  (if 0 ≤ cellX k p (x.l ++ [⟨cellX k p x.l x.l.length,rdP ps 0 (cellX k p x.l x.l.length) zC⟩]) (x.l.length + 1) then ({ x with l:=x.l ++ [⟨cellX k p x.l x.l.length,rdP ps 0 (cellX k p x.l x.l.length) zC⟩] },cl)
  else if x.qu then (finX { x with l:=x.l ++ [⟨cellX k p x.l x.l.length,rdP ps 0 (cellX k p x.l x.l.length) zC⟩],tw:=true,at_:=0 },x.af)
  else ({ x with l:=x.l ++ [⟨cellX k p x.l x.l.length,rdP ps 0 (cellX k p x.l x.l.length) zC⟩],tw:=true,at_:=0 },cl))
 else match x.l[x.at_.toNat]? with
  | none=>(x,cl)
  | some s => if (rdP ps 0 s.at_ zC).v = s.c.v then
      (if x.at_ + 1=x.l.length then (finX { x with at_:=x.at_ + 1 },finC x cl) else ({ x with at_:=x.at_ + 1 },cl))
   else if x.left=1 then ({ x with l:=[],tw:=false,left:=0,qu:=true,af:=cl },true)
   else ({ x with l:=[],tw:=false,left:=x.left - 1 },cl)
set_option maxRecDepth 20000 in
set_option maxHeartbeats 8000000 in
theorem c_ref16_step (hl : legal k p = 0) (hps : ps.length ≤ 1000000) (hll : x.l.length ≤ 2000) (ht : 0 ≤ x.tries ∧ x.tries ≤ 1000) (hlf : 0 ≤ x.left ∧ x.left ≤ 1000) (hat : x.tw = true → 0 ≤ x.at_ ∧ x.at_ < x.l.length) (h2 : two2 k x.l)
    (h2':x.tw=false → two2 k (x.l ++ [⟨cellX k p x.l x.l.length,rdP ps 0 (cellX k p x.l x.l.length) zC⟩])) (busy:Int) :
    ∃ K1 K2,zo K1 ∧ zo K2 ∧ LL.call n_c_ref16_step [eXr .z .z .z .z k p ps (gs.map eFr) cl x,.i .i64 busy] sg sg.length=some (eXr .z .z K1 K2 k p ps (gs.map eFr) (stepX k p ps x cl busy).2 (stepX k p ps x cl busy).1,sg,sg.length):=by
 generalize hT:stepX k p ps x cl busy=T
 unfold stepX at hT
 by_cases hw:x.qu=true ∧ 0 < busy
 ·rw [if_pos hw] at hT
  subst hT
  refine ⟨.z,.z,.inl rfl,.inl rfl,wp_call e_c_ref16_step rfl ?_⟩
  simp [F_c_ref16_step,eXr,hw.1,hw.2]
 ·rw [if_neg hw] at hT
  have hq:x.qu=false ∨ (x.qu=true ∧ ¬ 0 < busy):=by
   cases h:x.qu with
   | false=>exact .inl rfl
   | true=>exact .inr ⟨rfl,fun hb=>hw ⟨h,hb⟩⟩
  cases htw:x.tw with
  | false =>
   rw [htw] at hT
   simp only [if_true] at hT
   have C1:=c_ref16_cell k p ps gs cl x sg hl x.l.length (by omega) h2
   generalize hi1:cellX k p x.l x.l.length=i1 at *
   have Rd:=c_ref05_Read ps i1 hps sg
   generalize hc:rdP ps 0 i1 zC=c at *
   obtain ⟨l',hl'⟩:∃ l',l'=x.l ++ [⟨i1,c⟩] := ⟨_,rfl⟩
   have hll':l'.length=x.l.length + 1:=by rw [hl']; simp
   have C2:=c_ref16_cell k p ps gs cl { x with l:=l' } sg hl (x.l.length + 1) (by omega) (fun hk hi=>by
    have:=h2' htw hk (by simp; omega)
    rw [hl']; exact this)
   simp only at C2
   rw [← hl'] at hT
   generalize hi2:cellX k p l' (x.l.length + 1)=i2 at *
   have hap:x.l.length * 48 ≤ 140737488355328:=by omega
   have hap2:(x.l.length + 1) * 48 ≤ 140737488355328:=by omega
   have Fi:=c_ref16_finish k p ps gs cl { x with l:=l',tw:=true,at_:=0 } sg .o (.inr rfl) ht hlf
   simp [eXr] at C1 C2 Fi
   rw [htw] at C1 C2
   rw [hl'] at C2 Fi
   simp [eSx] at C2 Fi
   by_cases h0:0 ≤ i2
   ·rw [if_pos h0] at hT
    subst hT
    rcases hq with hq | ⟨hq,hb⟩
    ·rw [hq] at C1 C2
     refine ⟨.o,.z,.inr rfl,.inl rfl,wp_call e_c_ref16_step rfl ?_⟩
     simp [F_c_ref16_step,eXr,hq,htw,C1,Rd,C2,hap,hap2,h0,hl',eSx]
    ·rw [hq] at C1 C2
     refine ⟨.o,.z,.inr rfl,.inl rfl,wp_call e_c_ref16_step rfl ?_⟩
     simp [F_c_ref16_step,eXr,hq,hb,htw,C1,Rd,C2,hap,hap2,h0,hl',eSx]
   ·rw [if_neg h0] at hT
    rcases hq with hq | ⟨hq,hb⟩
    ·rw [hq] at C1 C2 hT
     simp only [Bool.false_eq_true,if_false] at hT
     subst hT
     refine ⟨.o,.z,.inr rfl,.inl rfl,wp_call e_c_ref16_step rfl ?_⟩
     simp [F_c_ref16_step,eXr,hq,htw,C1,Rd,C2,hap,hap2,h0,hl',eSx]
    ·rw [hq] at C1 C2 hT Fi
     simp only [if_true] at hT
     subst hT
     refine ⟨.o,.z,.inr rfl,.inl rfl,wp_call e_c_ref16_step rfl ?_⟩
     simp [F_c_ref16_step,eXr,hq,hb,htw,C1,Rd,C2,hap,hap2,h0,hl',eSx,Fi,finX,finC]
  | true =>
   rw [htw] at hT
   simp only [Bool.true_eq_false,if_false] at hT
   obtain ⟨ha0,ha1⟩:=hat htw
   obtain ⟨j,hj⟩:∃ j:Nat,x.at_=j:=⟨x.at_.toNat,by omega⟩
   rw [hj] at ha1 hT
   have hjl:j < x.l.length:=by omega
   obtain ⟨s,hs⟩:∃ s,x.l[j] = s:=⟨_,rfl⟩
   have hs2:x.l[(j:Int).toNat]? = some s:=by rw [Int.toNat_natCast,List.getElem?_eq_getElem hjl,hs]
   rw [hs2] at hT
   simp only at hT
   have Rd:=c_ref05_Read ps s.at_ hps sg
   generalize hc:rdP ps 0 s.at_ zC=c at *
   have w1:IntKind.i64.wrap ((j:Int) + 1)=j + 1:=wrap64 (by omega)
   have w2:IntKind.i64.wrap (x.left - 1)=x.left - 1:=wrap64 (by omega)
   have Fi:=c_ref16_finish k p ps gs cl { x with at_:=x.at_ + 1 } sg .z (.inl rfl) ht hlf
   simp [eXr] at Fi
   rw [htw,hj] at Fi
   by_cases hv:c.v=s.c.v
   ·rw [if_pos hv] at hT
    by_cases he:(j:Int) + 1=x.l.length
    ·rw [if_pos he] at hT
     subst hT
     have he2:(((j:Int) + 1) == (x.l.length:Int))=true:=by simp [he]
     rcases hq with hq | ⟨hq,hb⟩
     ·rw [hq] at Fi
      refine ⟨.z,.z,.inl rfl,.inl rfl,wp_call e_c_ref16_step rfl ?_⟩
      simp [F_c_ref16_step,eXr,hq,htw,hj,hjl,hs,eSx,Rd,hv,w1,he2,Fi,finX,finC]
     ·rw [hq] at Fi
      refine ⟨.z,.z,.inl rfl,.inl rfl,wp_call e_c_ref16_step rfl ?_⟩
      simp [F_c_ref16_step,eXr,hq,hb,htw,hj,hjl,hs,eSx,Rd,hv,w1,he2,Fi,finX,finC]
    ·rw [if_neg he] at hT
     subst hT
     have he':(((j:Int) + 1) == (x.l.length:Int))=false:=by simp; omega
     rcases hq with hq | ⟨hq,hb⟩
     ·refine ⟨.z,.z,.inl rfl,.inl rfl,wp_call e_c_ref16_step rfl ?_⟩
      simp [F_c_ref16_step,eXr,hq,htw,hj,hjl,hs,eSx,Rd,hv,w1,he']
     ·refine ⟨.z,.z,.inl rfl,.inl rfl,wp_call e_c_ref16_step rfl ?_⟩
      simp [F_c_ref16_step,eXr,hq,hb,htw,hj,hjl,hs,eSx,Rd,hv,w1,he']
   ·rw [if_neg hv] at hT
    have hv':((c.v:Int) == (s.c.v:Int))=false:=by simp; omega
    have w0:IntKind.i64.wrap 0=0:=by decide
    by_cases h1:x.left=1
    ·rw [if_pos h1] at hT
     subst hT
     rcases hq with hq | ⟨hq,hb⟩
     ·refine ⟨.o,.z,.inr rfl,.inl rfl,wp_call e_c_ref16_step rfl ?_⟩
      simp [F_c_ref16_step,eXr,hq,htw,hj,hjl,hs,eSx,Rd,hv',h1,w0]
     ·refine ⟨.o,.z,.inr rfl,.inl rfl,wp_call e_c_ref16_step rfl ?_⟩
      simp [F_c_ref16_step,eXr,hq,hb,htw,hj,hjl,hs,eSx,Rd,hv',h1,w0]
    ·rw [if_neg h1] at hT
     subst hT
     have h1':(x.left - 1 == 0)=false:=by simp; omega
     rcases hq with hq | ⟨hq,hb⟩
     ·refine ⟨.o,.z,.inr rfl,.inl rfl,wp_call e_c_ref16_step rfl ?_⟩
      simp [F_c_ref16_step,eXr,hq,htw,hj,hjl,hs,eSx,Rd,hv',w2,h1']
     ·refine ⟨.o,.z,.inr rfl,.inl rfl,wp_call e_c_ref16_step rfl ?_⟩
      simp [F_c_ref16_step,eXr,hq,hb,htw,hj,hjl,hs,eSx,Rd,hv',w2,h1']
variable (h6:gs.length=6) (htk:0 ≤ x.tick ∧ x.tick ≤ 1000000)
include h6 htk
set_option maxHeartbeats 4000000 in
theorem c_ref16_Pick_no (hb : busyR gs 0 = []) (hon : x.on = false) (pick : Int) :
    LL.call n_c_ref16_Pick [eXr .z .z .z .z k p ps (gs.map eFr) cl x,.i .i64 pick] sg sg.length=some (.t [eXr .z .z .z .z k p ps (gs.map eFr) cl x,.i .i64 (-2),eAr noA,.b false],sg,sg.length):=by
 have B:=c_ref13_Busy k p ps gs (by omega) cl sg
 rw [hb] at B
 refine wp_call e_c_ref16_Pick rfl ?_
 simp [eEr] at B
 simp [F_c_ref16_Pick,eXr,B,hon,eAr,noA]
set_option maxHeartbeats 4000000 in
theorem c_ref16_Pick_off (hon : x.on = false) (pick : Int) (n : Nat) (hk : pickL (busyR gs 0) pick = some n) (hbl : (busyR gs 0).length ≤ 6) (g : FrR) (hg : gs[n]? = some g) (so : RSo)
    (S:LL.call n_c_ref12_Step [.i .i64 k,.i .i64 p,eMr .z ps,eFr g] sg sg.length=some (eRSo so,sg,sg.length)) :
    LL.call n_c_ref16_Pick [eXr .z .z .z .z k p ps (gs.map eFr) cl x,.i .i64 pick] sg sg.length =
     some (.t [eXr .z .z .z .z k p so.ps ((gs.set n (if so.d then zF else so.f)).map eFr) cl { x with tick:=x.tick + 1 },.i .i64 n,eAr so.a,.b so.d],sg,sg.length):=by
 have B:=c_ref13_Busy k p ps gs (by omega) cl sg
 obtain ⟨K1,K2,z1,z2,P⟩:=c_ref13_Pick k p ps gs h6 cl pick n hk hbl g hg so sg S
 have hb0:busyR gs 0 ≠ [] := by intro h; simp [pickL,h] at hk
 have hb1:=List.length_pos_iff.2 hb0
 generalize busyR gs 0=bl at *
 have hbe:((bl.length:Int) == 0)=false:=by rw [beq_eq_false_iff_ne]; omega
 have w1:IntKind.i64.wrap (x.tick + 1)=x.tick + 1:=wrap64 (by omega)
 refine wp_call e_c_ref16_Pick rfl ?_
 generalize gs.set n (if so.d then zF else so.f)=gs' at *
 simp [eEr] at B P
 rcases z1 with rfl | rfl <;> rcases z2 with rfl | rfl
 all_goals
  simp [F_c_ref16_Pick,eXr,B,hbe,hon,eAr,P,w1]
set_option maxHeartbeats 4000000 in
theorem c_ref16_Pick_thr (hon : x.on = true) (pick : Int) (hlt : into pick ((busyR gs 0).length + 1) < (busyR gs 0).length) (n : Nat) (hk : pickL (busyR gs 0) (into pick ((busyR gs 0).length + 1)) = some n) (hbl : (busyR gs 0).length ≤ 6) (g : FrR) (hg : gs[n]? = some g) (so : RSo)
    (S:LL.call n_c_ref12_Step [.i .i64 k,.i .i64 p,eMr .z ps,eFr g] sg sg.length=some (eRSo so,sg,sg.length)) :
    LL.call n_c_ref16_Pick [eXr .z .z .z .z k p ps (gs.map eFr) cl x,.i .i64 pick] sg sg.length =
     some (.t [eXr .z .z .z .z k p so.ps ((gs.set n (if so.d then zF else so.f)).map eFr) cl { x with tick:=x.tick + 1 },.i .i64 n,eAr so.a,.b so.d],sg,sg.length):=by
 have B:=c_ref13_Busy k p ps gs (by omega) cl sg
 have I:=c_ref06_Into pick ((busyR gs 0).length + 1) (by omega) sg
 have hin:=into_rng pick ((busyR gs 0).length + 1) (by omega)
 obtain ⟨K1,K2,z1,z2,P⟩:=c_ref13_Pick k p ps gs h6 cl (into pick ((busyR gs 0).length + 1)) n hk hbl g hg so sg S
 have hb0:busyR gs 0 ≠ [] := by intro h; simp [pickL,h] at hk
 have hb1:=List.length_pos_iff.2 hb0
 generalize busyR gs 0=bl at *
 generalize into pick ((bl.length:Int) + 1)=j at *
 have hbe:((bl.length:Int) == 0)=false:=by rw [beq_eq_false_iff_ne]; omega
 have w1:IntKind.i64.wrap (x.tick + 1)=x.tick + 1:=wrap64 (by omega)
 have w2:IntKind.i64.wrap ((bl.length:Int) + 1)=bl.length + 1:=wrap64 (by omega)
 have hjn:(j == (bl.length:Int))=false:=by rw [beq_eq_false_iff_ne]; omega
 refine wp_call e_c_ref16_Pick rfl ?_
 generalize gs.set n (if so.d then zF else so.f)=gs' at *
 simp [eEr] at B P
 rcases z1 with rfl | rfl <;> rcases z2 with rfl | rfl
 all_goals
  simp [F_c_ref16_Pick,eXr,B,hbe,hon,eAr,P,w1,w2,I,hjn]
set_option maxHeartbeats 4000000 in
theorem c_ref16_Pick_scan (hon : x.on = true) (pick : Int) (hge : ¬ into pick ((busyR gs 0).length + 1) < (busyR gs 0).length) (hbl : (busyR gs 0).length ≤ 6) (T : Xr × Bool)
    (S:∃ K1 K2,zo K1 ∧ zo K2 ∧ LL.call n_c_ref16_step [eXr .z .z .z .z k p ps (gs.map eFr) cl { x with tick:=x.tick + 1 },.i .i64 (busyR gs 0).length] sg sg.length=some (eXr .z .z K1 K2 k p ps (gs.map eFr) T.2 T.1,sg,sg.length)) :
    ∃ K1 K2,zo K1 ∧ zo K2 ∧ LL.call n_c_ref16_Pick [eXr .z .z .z .z k p ps (gs.map eFr) cl x,.i .i64 pick] sg sg.length=some (.t [eXr .z .z K1 K2 k p ps (gs.map eFr) T.2 T.1,.i .i64 (-1),eAr noA,.b false],sg,sg.length):=by
 have B:=c_ref13_Busy k p ps gs (by omega) cl sg
 have I:=c_ref06_Into pick ((busyR gs 0).length + 1) (by omega) sg
 have hin:=into_rng pick ((busyR gs 0).length + 1) (by omega)
 generalize busyR gs 0=bl at *
 have hj:into pick ((bl.length:Int) + 1)=bl.length:=by omega
 rw [hj] at I
 have w1:IntKind.i64.wrap (x.tick + 1)=x.tick + 1:=wrap64 (by omega)
 have w2:IntKind.i64.wrap ((bl.length:Int) + 1)=bl.length + 1:=wrap64 (by omega)
 obtain ⟨K1,K2,z1,z2,S⟩:=S
 obtain ⟨X',c'⟩:=T
 simp only at S ⊢
 by_cases h0:bl=[]
 ·refine ⟨K1,K2,z1,z2,wp_call e_c_ref16_Pick rfl ?_⟩
  have w11:IntKind.i64.wrap 1=1:=by decide
  subst h0
  simp [eEr] at B S I
  simp [eXr] at S
  simp [hon] at S
  rcases z1 with rfl | rfl <;> rcases z2 with rfl | rfl
  all_goals
   simp [F_c_ref16_Pick,eXr,B,hon,eAr,noA,w1,w11,I,S]
 ·have hb1:=List.length_pos_iff.2 h0
  have hbe:((bl.length:Int) == 0)=false:=by rw [beq_eq_false_iff_ne]; omega
  refine ⟨K1,K2,z1,z2,wp_call e_c_ref16_Pick rfl ?_⟩
  simp [eEr] at B
  simp [eXr] at S
  simp [hon] at S
  rcases z1 with rfl | rfl <;> rcases z2 with rfl | rfl
  all_goals
   simp [F_c_ref16_Pick,eXr,B,hbe,hon,eAr,noA,w1,w2,I,S]
end
end Go.AM

namespace Go.AM
theorem callrv_set (OO:Or) (f:FuncId) (ds:List D) (r:Nat) (sg:List (List D)) (l:List D):callrv OO f ds r (sg.set r l)=callrv OO f ds r sg:=by
 unfold callrv; rw [List.set_set]
section
variable (er rc:Nat) (e:Eng) (M:Mem) (fs:List (Option FrR)) (cs:List Cll) (at_:List Nat) (sg:List (List D)) (hR:Rep sg er e M fs) (hrc:sg[rc]? = some (eRec er cs at_)) (nr:¬ own er e rc) (h6:at_.length=6) (hcs:cs.length ≤ 1000)
include hR hrc nr h6 hcs
set_option maxHeartbeats 2000000 in
theorem c_history_Begin (t : Int) (o : Rw) (hb : begO e.k e.cl fs t o = 0) :
    ∃ sg' e',LL.call n_history_Recorder_Begin [.p rc 0,.i .i64 t,eOp o] sg sg.length=some (.i .i64 0,sg',er) ∧ sg'.length=sg.length + 1 ∧ 0 ≤ t ∧ t < 6 ∧
     Rep sg' er e' M (fs.set t.toNat (some (begF o))) ∧ sg'[rc]? = some (eRec er (cs ++ [⟨t.toNat,o,e.st,-1,noA⟩]) (at_.set t.toNat (cs.length + 1))) ∧ e'.k=e.k ∧ e'.p=e.p ∧ e'.m=e.m ∧ e'.cl=e.cl ∧ e'.st=e.st ∧
     (∀ x,x < sg.length → x ≠ er → x ≠ rc → sg'[x]? = sg[x]?) ∧ (∀ (i q:Nat),e'.th[i]? = some (some q) → e.th[i]? = some (some q) ∨ q=sg.length):=by
 obtain ⟨sg1,e',A1,A2,A3,A4,A5,A6,A7,A8,A9,A10⟩:=rep_begin hR t o hb
 have hrl:=get_lt hrc
 have hre:rc ≠ er:=fun e=>nr (.inl e)
 have hel:er < sg.length:=hR.lt (.inl rfl)
 have h1:sg1[rc]? = some (eRec er cs at_):=by rw [A9 rc hrl hre]; exact hrc
 have St:callrv LL n_engine_Engine_Steps [.p er 0] rc sg1=some (.i .i64 e.st):=by
  have:=c_engine_Steps e' (sg1.set rc []) er (by rw [List.getElem?_set_ne hre]; exact A3.hr) A3.h6
  rw [A8] at this
  exact callrv_of this
 have ht:0 ≤ t ∧ t < 6:=by
  unfold begO at hb
  split at hb
  ·cases hb
  ·omega
 obtain ⟨n,hn⟩:∃ n:Nat,t=n:=⟨t.toNat,by omega⟩
 subst hn
 have w1:IntKind.i64.wrap ((cs.length:Int) + 1)=((cs.length + 1:Nat):Int):=wrap64 (by omega)
 have hap:(cs.length + 1) * 96 ≤ 140737488355328:=by omega
 have hn6:n < at_.length:=by omega
 have hn6':(n:Int) < 6:=ht.2
 obtain ⟨sg',hsg'⟩:∃ s,s=sg1.set rc (eRec er (cs ++ [⟨n,o,e.st,-1,noA⟩]) (at_.set n (cs.length + 1))):=⟨_,rfl⟩
 have nr':¬ own er e' rc:=by
  rintro (h | h | ⟨j,h⟩)
  ·exact nr (.inl h)
  ·rw [A6] at h; exact nr (.inr (.inl h))
  ·rcases A10 j rc h with h | h
   ·exact nr (.inr (.inr ⟨j,h⟩))
   ·omega
 refine ⟨sg',e',?_,by rw [hsg']; simp [A2],ht.1,ht.2,?_,by rw [hsg']; simp; exact List.getElem?_set_self (by omega),A4,A5,A6,A7,A8,fun x hx1 hx2 hx3=>?_,A10⟩
 ·obtain ⟨a0,a1,a2,a3,a4,a5,rfl⟩:=six h6
  have hmin:min sg.length er=er:=by omega
  have hnl:¬ sg.length ≤ er:=by omega
  have hc:n=0 ∨ n=1 ∨ n=2 ∨ n=3 ∨ n=4 ∨ n=5:=by omega
  have hg:∀ l:List D,(sg1.set rc l)[rc]? = some l:=fun l=>List.getElem?_set_self (by omega)
  simp [eRec] at hrc h1 hsg'
  rcases hc with rfl | rfl | rfl | rfl | rfl | rfl
  all_goals
   refine wp_call e_history_Recorder_Begin rfl ?_
   simp [eOp] at A1
   simp [eCll,noA,eN] at hsg'
   simp [eN] at h1
   simp [F_history_Recorder_Begin,eOp,hrc,A1,h1,St,callrv_set,w1,hap,A2,hmin,hnl,eN,hg,hsg',eCll,noA]
   done
 ·rw [hsg']
  exact A3.keep (fun y hy=>List.getElem?_set_ne (fun e=>nr' (by rw [e]; exact hy)))
 ·rw [hsg',List.getElem?_set_ne (Ne.symm hx3)]; exact A9 x hx1 hx2
set_option maxHeartbeats 4000000 in
set_option maxRecDepth 8000 in
theorem c_history_Pick (s : Nat) (hs : s ≤ 5000) (hl : legal e.k e.p = 0) (hst : e.st < 1000000000) (hM : MI e.k s M) (hF : ∀ (i : Nat) f, fs[i]? = some (some f) → FI e.k s f) (hat : ∀ x ∈ at_, x ≤ cs.length)
    (pick:Int) (k:Nat) (hk:pickL (busyO fs 0) pick=some k) (f:FrR) (hf:fs[k]? = some (some f)) :
    ∃ sg' e',LL.call n_history_Recorder_Pick [.p rc 0,.i .i64 pick] sg sg.length=some (.t [eEv k f.o (stepP e.k e.p M f).a (stepP e.k e.p M f).d,.b true],sg',sg.length) ∧ sg'.length=sg.length ∧
     Rep sg' er e' (stepP e.k e.p M f).m (fs.set k (if (stepP e.k e.p M f).d then none else some (stepP e.k e.p M f).f)) ∧
     sg'[rc]? = some (eRec er (recC cs at_ k (stepP e.k e.p M f).d e.st (stepP e.k e.p M f).a).1 (recC cs at_ k (stepP e.k e.p M f).d e.st (stepP e.k e.p M f).a).2) ∧ e'.k=e.k ∧ e'.p=e.p ∧ e'.m=e.m ∧ e'.cl=e.cl ∧ e'.st=e.st + 1 ∧
     (∀ x,¬ own er e x → x ≠ rc → sg'[x]? = sg[x]?) ∧ (∀ (i q:Nat),e'.th[i]? = some (some q) → e.th[i]? = some (some q)):=by
 obtain ⟨sg1,e',A1,A2,A3,A4,A5,A6,A7,A8,A9,A10⟩:=rep_pick hR s hs hl hst hM hF pick k hk f hf
 generalize stepP e.k e.p M f=so at *
 have h1:sg1[rc]? = some (eRec er cs at_):=by rw [A9 rc nr]; exact hrc
 have hre:rc ≠ er:=fun e=>nr (.inl e)
 have St:callrv LL n_engine_Engine_Steps [.p er 0] rc sg1=some (.i .i64 ((e.st + 1:Nat):Int)):=by
  have:=c_engine_Steps e' (sg1.set rc []) er (by rw [List.getElem?_set_ne hre]; exact A3.hr) A3.h6
  rw [A8] at this
  exact callrv_of this
 have hk6:k < 6:=by have:=(List.getElem?_eq_some_iff.1 hf).1; have:=hR.f6; omega
 obtain ⟨ak,hak⟩:∃ ak,at_[k]? = some ak:=⟨at_[k],List.getElem?_eq_getElem (by omega)⟩
 have hak2:=hat ak (List.mem_of_getElem? hak)
 have nr':¬ own er e' rc:=by
  rintro (h | h | ⟨j,h⟩)
  ·exact nr (.inl h)
  ·rw [A6] at h; exact nr (.inr (.inl h))
  ·exact nr (.inr (.inr ⟨j,A10 j rc h⟩))
 have hrl1:=get_lt h1
 have hrl:=get_lt hrc
 by_cases hw:so.d=true ∧ 0 < ak
 ·obtain ⟨c,hc⟩:∃ c,cs[ak - 1]? = some c:=⟨cs[ak - 1],List.getElem?_eq_getElem (by omega)⟩
  have er1:recC cs at_ k so.d e.st so.a=(cs.set (ak - 1) { c with e:=e.st,a:=so.a },at_.set k 0):=by
   unfold recC; rw [hak]; simp only; rw [if_pos hw,hc]
  rw [er1]
  have hcl:ak - 1 < cs.length:=by omega
  have hcg:cs[ak - 1] = c:=by rw [List.getElem?_eq_getElem hcl] at hc; exact Option.some.inj hc
  obtain ⟨sg',hsg'⟩:∃ s,s=sg1.set rc (eRec er (cs.set (ak - 1) { c with e:=e.st,a:=so.a }) (at_.set k 0)):=⟨_,rfl⟩
  refine ⟨sg',e',?_,by rw [hsg']; simp [A2],?_,by rw [hsg']; exact List.getElem?_set_self (by omega),A4,A5,A6,A7,A8,fun x hx1 hx2=>?_,A10⟩
  ·have w1:IntKind.i64.wrap ((ak:Int) - 1)=((ak - 1:Nat):Int):=by rw [wrap64 (by omega)]; omega
   have w2:IntKind.i64.wrap (((e.st + 1:Nat):Int) - 1)=e.st:=by rw [wrap64 (by omega)]; omega
   have w2':IntKind.i64.wrap (((e.st:Int) + 1) - 1)=e.st:=by rw [wrap64 (by omega)]; omega
   have w3:IntKind.i64.wrap (e.st:Int)=e.st:=wrap64 (by omega)
   have hd:=hw.1
   have hpos:(0:Int) < ak:=by omega
   have hpos0:=hw.2
   have hg1:∀ l:List D,(sg1.set rc l)[rc]? = some l:=fun l=>List.getElem?_set_self hrl1
   obtain ⟨a0,a1,a2,a3,a4,a5,rfl⟩:=six h6
   have hc6:k=0 ∨ k=1 ∨ k=2 ∨ k=3 ∨ k=4 ∨ k=5:=by omega
   rw [hd] at A1 ⊢
   simp [eRec,eCll,eN] at hrc h1 hsg'
   rcases hc6 with rfl | rfl | rfl | rfl | rfl | rfl
   all_goals
    simp at hak
    subst hak
    refine wp_call e_history_Recorder_Pick rfl ?_
    simp [eEv] at A1
    simp [eN] at hsg'
    simp [F_history_Recorder_Pick,hrc,A1,h1,hg1,St,callrv_set,w1,w2,w2',w3,A2,eN,hpos,hpos0,hcl,hcg,hc,eCll,hsg',eEv]
    exact List.take_of_length_le (by simp [A2])
  ·rw [hsg']
   exact A3.keep (fun y hy=>List.getElem?_set_ne (fun e=>nr' (by rw [e]; exact hy)))
  ·rw [hsg',List.getElem?_set_ne (Ne.symm hx2)]; exact A9 x hx1
 ·have er1:recC cs at_ k so.d e.st so.a=(cs,at_):=by
   unfold recC; rw [hak]; simp only; rw [if_neg hw]
  rw [er1]
  refine ⟨sg1,e',?_,A2,A3,h1,A4,A5,A6,A7,A8,fun x hx1 hx2=>A9 x hx1,A10⟩
  obtain ⟨a0,a1,a2,a3,a4,a5,rfl⟩:=six h6
  have hc6:k=0 ∨ k=1 ∨ k=2 ∨ k=3 ∨ k=4 ∨ k=5:=by omega
  have hw':so.d=false ∨ (so.d=true ∧ ¬ (0:Int) < ak):=by
   cases hd:so.d with
   | false=>exact .inl rfl
   | true=>exact .inr ⟨rfl,fun h=>hw ⟨hd,by omega⟩⟩
  have htk:List.take sg.length sg1=sg1:=List.take_of_length_le (by omega)
  simp [eRec,eN] at hrc h1
  rcases hc6 with rfl | rfl | rfl | rfl | rfl | rfl
  all_goals
   simp at hak
   subst hak
   refine wp_call e_history_Recorder_Pick rfl ?_
   simp [eEv] at A1
   rcases hw' with hd | ⟨hd,hpos⟩
   ·simp [hd] at A1
    simp [F_history_Recorder_Pick,hrc,A1,h1,A2,eN,eEv,hd,htk]
    done
   ·simp [hd] at A1
    have hpos':¬ 0 < _:=fun h=>hpos (Int.ofNat_lt.2 h)
    simp [F_history_Recorder_Pick,hrc,A1,h1,A2,eN,hpos,hpos',eEv,hd,htk]
    done
end
section
variable (er rc ru q:Nat) (hp:Option Nat) (t:Int) (e:Eng) (M:Mem) (cs:List Cll) (at_:List Nat) (s:Scn) (sg:List (List D)) (h6:e.th.length=6) (her:sg[er]? = some (eEng e)) (hrc:sg[rc]? = some (eRec er cs at_)) (hru:sg[ru]? = some (eRun rc (some q) hp t)) (hq:sg[q]? = some (eScn s))
 (hm:sg[e.m]? = some (eMem M)) (hM:M.good) (hd1:q ≠ er) (hd2:q ≠ rc) (hd3:q ≠ ru) (hd4:er ≠ ru) (hd5:er ≠ rc) (hd6:rc ≠ ru) (hd7:q ≠ e.m) (hl:legal e.k e.p=0)
include h6 her hrc hru hq hm hM hd1 hd2 hd3 hd4 hd5 hd6 hd7 hl
set_option maxHeartbeats 4000000 in
theorem c_scan_step_read (busy : Int) (h : ¬ (s.quiet = true ∧ 0 < busy)) (ha : s.at_ < 0) (hll : s.l.length ≤ 2000) (htw : two2 e.k s.l) (s' : Scn) (hs' : s' = (stepS e.k e.p M s busy).1) (htw' : two2 e.k s'.l) (h0 : (stepS e.k e.p M s busy).2 = 0) :
    LL.call n_scan_Runner_step [.p ru 0,.i .i64 busy] sg sg.length=some (.t [],sg.set q (eScn s'),sg.length):=by
 have hlt:=get_lt hq
 have C1:=c_scan_cells er rc ru q hp t e cs at_ s sg her hrc hru hq hl s.l.length (by omega) (fun hk hi=>htw hk hi)
 obtain ⟨i1,hi1⟩:∃ i1,i1=(cellsS e.k e.p s.l s.l.length).1:=⟨_,rfl⟩
 obtain ⟨b1,hb1⟩:∃ b1,b1=(cellsS e.k e.p s.l s.l.length).2:=⟨_,rfl⟩
 rw [← hi1,← hb1] at C1
 obtain ⟨l',hl'⟩:∃ l',l'=s.l ++ [⟨i1,rdM M i1⟩] := ⟨_,rfl⟩
 have hl'':l'.length=s.l.length + 1:=by rw [hl']; simp
 unfold stepS at hs' h0
 rw [if_neg h,if_pos ha,← hi1,← hl',← hl''] at hs' h0
 obtain ⟨s1,hs1⟩:∃ s1,s1=sg.set q [.i .i64 s.tries,.i .i64 s.left,.w,.i .i64 s.at_,.b s.quiet,.b s.closed] := ⟨_,rfl⟩
 have hl1:s1.length=sg.length:=by rw [hs1]; simp
 have g1:s1[ru]? = some (eRun rc (some q) hp t):=by rw [hs1,List.getElem?_set_ne hd3]; exact hru
 have g2:s1[rc]? = some (eRec er cs at_):=by rw [hs1,List.getElem?_set_ne hd2]; exact hrc
 have g3:s1[er]? = some (eEng e):=by rw [hs1,List.getElem?_set_ne hd1]; exact her
 have g4:s1[e.m]? = some (eMem M):=by rw [hs1,List.getElem?_set_ne hd7]; exact hm
 have g5:s1[q]? = some [.i .i64 s.tries,.i .i64 s.left,.w,.i .i64 s.at_,.b s.quiet,.b s.closed] := by rw [hs1,List.getElem?_set_self hlt]
 have Me:callrv LL n_engine_Engine_Memory [.p er 0] q s1=some (.p e.m 0):=callrv_of (c_engine_Memory e (s1.set q []) er (by rw [List.getElem?_set_ne hd1]; exact g3))
 have Rd:callrv LL n_cell_Memory_Read [.p e.m 0,.i .i64 i1] q s1=some (eC (rdM M i1)):=callrv_of (c_cell_Memory_Read M i1 (s1.set q []) e.m (by rw [List.getElem?_set_ne hd7]; exact g4) (fun c hc=>hM.ok c hc))
 have ss:∀ x,s1.set q x=sg.set q x:=fun x=>by rw [hs1,List.set_set]
 obtain ⟨s2,hs2⟩:∃ s2,s2=sg.set q (eScn { s with l:=l' }):=⟨_,rfl⟩
 have hl2:s2.length=sg.length:=by rw [hs2]; simp
 have k1:s2[ru]? = some (eRun rc (some q) hp t):=by rw [hs2,List.getElem?_set_ne hd3]; exact hru
 have k2:s2[rc]? = some (eRec er cs at_):=by rw [hs2,List.getElem?_set_ne hd2]; exact hrc
 have k3:s2[er]? = some (eEng e):=by rw [hs2,List.getElem?_set_ne hd1]; exact her
 have k5:s2[q]? = some (eScn { s with l:=l' }):=by rw [hs2,List.getElem?_set_self hlt]
 have htl:two2 e.k l':=by
  split at hs'
  ·rw [hs'] at htw'; exact htw'
  ·rw [hs'] at htw'; exact htw'
 have C2:=c_scan_cells er rc ru q hp t e cs at_ { s with l:=l' } s2 k3 k2 k1 k5 hl l'.length (by omega) (fun hk hi=>htl hk hi)
 simp only at C2
 generalize hcs:cellsS e.k e.p l' l'.length=c2 at *
 obtain ⟨i2,b2⟩:=c2
 rw [hl'',hl2] at C2
 push_cast at C2
 have hap:(s.l.length + 1) * 48 ≤ 140737488355328:=by omega
 have ss2:∀ x,s2.set q x=sg.set q x:=fun x=>by rw [hs2,List.set_set]
 have hfz:D.fzs ((rdM M i1).l.map eI)=(rdM M i1).l.map eI:=fzs_flat eI _
 have hfl:D.fzs (s.l.map eSn)=s.l.map eSn:=fzs_flat eSn _
 have hg:∀ l:List D,(sg.set q l)[q]? = some l:=fun l=>List.getElem?_set_self hlt
 simp [eRun,eFp] at hru g1 k1
 simp [eRec] at hrc g2 k2
 simp [eScn] at hq k5 hs2
 rw [hl'] at hs2 k5
 simp [eSn] at hs2 k5
 simp [eC] at Rd
 have hquiet:s.quiet=false ∨ (s.quiet=true ∧ ¬ 0 < busy):=by
  cases hc:s.quiet with
  | false=>exact .inl rfl
  | true=>exact .inr ⟨rfl,fun hb=>h ⟨hc,hb⟩⟩
 cases b2 with
 | true =>
  simp at hs'
  subst hs'
  rcases hquiet with hqt | ⟨hqt,hnb⟩
  ·refine wp_call e_scan_Runner_step rfl ?_
   simp [hqt] at hq hs1 g5 hs2 k5
   simp [F_scan_Runner_step,hru,hq,ha,C1,callrv_set,← hs1,hl1,g1,g2,g5,Me,Rd,hap,ss,← hs2,k1,k5,C2,hl2,hfz,hfl,hg]
   simp [hs2,eScn,hqt,hl',eSn]
   exact List.take_of_length_le (by simp)
  ·refine wp_call e_scan_Runner_step rfl ?_
   simp [hqt] at hq hs1 g5 hs2 k5
   simp [F_scan_Runner_step,hru,hq,hnb,ha,C1,callrv_set,← hs1,hl1,g1,g2,g5,Me,Rd,hap,ss,← hs2,k1,k5,C2,hl2,hfz,hfl,hg]
   simp [hs2,eScn,hqt,hl',eSn]
   exact List.take_of_length_le (by simp)
 | false =>
  simp at hs' h0
  subst hs'
  refine wp_call e_scan_Runner_step rfl ?_
  have hqt:s.quiet=false:=by simpa using h0
  simp [hqt] at hq hs1 g5 hs2 k5
  simp [F_scan_Runner_step,hru,hq,ha,C1,callrv_set,← hs1,hl1,g1,g2,g5,Me,Rd,hap,ss,← hs2,k1,k5,C2,hl2,hfz,hfl,hg,ss2]
  simp [hs2,eScn,hqt,hl',eSn]
  exact List.take_of_length_le (by simp)
set_option maxHeartbeats 4000000 in
theorem c_scan_step_readdone (busy : Int) (h : ¬ (s.quiet = true ∧ 0 < busy)) (ha : s.at_ < 0) (hll : s.l.length ≤ 2000) (htw : two2 e.k s.l) (l' : List Sn) (hl' : l' = s.l ++ [⟨(cellsS e.k e.p s.l s.l.length).1, rdM M (cellsS e.k e.p s.l s.l.length).1⟩]) (htl : two2 e.k l') (hqt : s.quiet = true) (hmore : (cellsS e.k e.p l' l'.length).2 = false) (htr : 0 ≤ s.tries ∧ s.tries ≤ 1000) (hleft : 0 ≤ s.left ∧ s.left ≤ 1000) :
    ∃ sg',LL.call n_scan_Runner_step [.p ru 0,.i .i64 busy] sg sg.length=some (.t [],sg',ru) ∧ sg'.length=sg.length + 1 ∧ sg'[ru]? = some (eRun rc none (some sg.length) t) ∧
     sg'[sg.length]? = some (eSht ⟨e.k,e.p,l',s.tries,true⟩) ∧
     sg'[er]? = some (eEng { e with cl:=if !s.closed then false else e.cl }) ∧ (∀ x,x < sg.length → x ≠ ru → x ≠ er → x ≠ q → sg'[x]? = sg[x]?):=by
 have hlt:=get_lt hq
 have C1:=c_scan_cells er rc ru q hp t e cs at_ s sg her hrc hru hq hl s.l.length (by omega) (fun hk hi=>htw hk hi)
 obtain ⟨i1,hi1⟩:∃ i1,i1=(cellsS e.k e.p s.l s.l.length).1:=⟨_,rfl⟩
 obtain ⟨b1,hb1⟩:∃ b1,b1=(cellsS e.k e.p s.l s.l.length).2:=⟨_,rfl⟩
 rw [← hi1,← hb1] at C1
 rw [← hi1] at hl'
 have hl'':l'.length=s.l.length + 1:=by rw [hl']; simp
 obtain ⟨s1,hs1⟩:∃ s1,s1=sg.set q [.i .i64 s.tries,.i .i64 s.left,.w,.i .i64 s.at_,.b s.quiet,.b s.closed] := ⟨_,rfl⟩
 have hl1:s1.length=sg.length:=by rw [hs1]; simp
 have g1:s1[ru]? = some (eRun rc (some q) hp t):=by rw [hs1,List.getElem?_set_ne hd3]; exact hru
 have g2:s1[rc]? = some (eRec er cs at_):=by rw [hs1,List.getElem?_set_ne hd2]; exact hrc
 have g3:s1[er]? = some (eEng e):=by rw [hs1,List.getElem?_set_ne hd1]; exact her
 have g4:s1[e.m]? = some (eMem M):=by rw [hs1,List.getElem?_set_ne hd7]; exact hm
 have g5:s1[q]? = some [.i .i64 s.tries,.i .i64 s.left,.w,.i .i64 s.at_,.b s.quiet,.b s.closed] := by rw [hs1,List.getElem?_set_self hlt]
 have Me:callrv LL n_engine_Engine_Memory [.p er 0] q s1=some (.p e.m 0):=callrv_of (c_engine_Memory e (s1.set q []) er (by rw [List.getElem?_set_ne hd1]; exact g3))
 have Rd:callrv LL n_cell_Memory_Read [.p e.m 0,.i .i64 i1] q s1=some (eC (rdM M i1)):=callrv_of (c_cell_Memory_Read M i1 (s1.set q []) e.m (by rw [List.getElem?_set_ne hd7]; exact g4) (fun c hc=>hM.ok c hc))
 have ss:∀ x,s1.set q x=sg.set q x:=fun x=>by rw [hs1,List.set_set]
 obtain ⟨s2,hs2⟩:∃ s2,s2=sg.set q (eScn { s with l:=l' }):=⟨_,rfl⟩
 have hl2:s2.length=sg.length:=by rw [hs2]; simp
 have k1:s2[ru]? = some (eRun rc (some q) hp t):=by rw [hs2,List.getElem?_set_ne hd3]; exact hru
 have k2:s2[rc]? = some (eRec er cs at_):=by rw [hs2,List.getElem?_set_ne hd2]; exact hrc
 have k3:s2[er]? = some (eEng e):=by rw [hs2,List.getElem?_set_ne hd1]; exact her
 have k5:s2[q]? = some (eScn { s with l:=l' }):=by rw [hs2,List.getElem?_set_self hlt]
 have C2:=c_scan_cells er rc ru q hp t e cs at_ { s with l:=l' } s2 k3 k2 k1 k5 hl l'.length (by omega) (fun hk hi=>htl hk hi)
 simp only at C2
 generalize hcs:cellsS e.k e.p l' l'.length=c2 at *
 obtain ⟨i2,b2⟩:=c2
 rw [hl'',hl2] at C2
 push_cast at C2
 have hap:(s.l.length + 1) * 48 ≤ 140737488355328:=by omega
 have hb2:b2=false:=hmore
 subst hb2
 have ss2:∀ x,s2.set q x=sg.set q x:=fun x=>by rw [hs2,List.set_set]
 obtain ⟨s3,hs3⟩:∃ s3,s3=sg.set q (eScn { s with l:=l',at_:=0 }):=⟨_,rfl⟩
 have hl3:s3.length=sg.length:=by rw [hs3]; simp
 have m1:s3[ru]? = some (eRun rc (some q) hp t):=by rw [hs3,List.getElem?_set_ne hd3]; exact hru
 have m2:s3[rc]? = some (eRec er cs at_):=by rw [hs3,List.getElem?_set_ne hd2]; exact hrc
 have m3:s3[er]? = some (eEng e):=by rw [hs3,List.getElem?_set_ne hd1]; exact her
 have m5:s3[q]? = some (eScn { s with l:=l',at_:=0 }):=by rw [hs3,List.getElem?_set_self hlt]
 obtain ⟨sg',Dn,d1,d2,d3,d4,d5⟩:=c_scan_done er rc ru q hp t e cs at_ { s with l:=l',at_:=0 } s3 h6 m3 m2 m1 m5 hd1 hd2 hd3 hd4 hd5 hd6 htr hleft
 rw [hl3] at Dn d1 d2 d3 d5
 simp only [hqt,if_true,Bool.true_and] at d3 d4
 refine ⟨sg',?_,d1,d2,d3,d4,fun y h1 h2 h3 h4=>by rw [d5 y h1 h2 h3,hs3,List.getElem?_set_ne (Ne.symm h4)]⟩
 have hlu:=get_lt hru
 have hmin:min sg.length ru=ru:=by omega
 have hnle:¬ sg.length ≤ ru:=by omega
 have hfz:D.fzs ((rdM M i1).l.map eI)=(rdM M i1).l.map eI:=fzs_flat eI _
 have hfl:D.fzs (s.l.map eSn)=s.l.map eSn:=fzs_flat eSn _
 have hg:∀ l:List D,(sg.set q l)[q]? = some l:=fun l=>List.getElem?_set_self hlt
 simp [eRun,eFp] at hru g1 k1
 simp [eRec] at hrc g2 k2
 simp [eScn] at hq k5 hs2 hs3 m5
 rw [hl'] at hs2 k5 hs3 m5
 simp [eSn] at hs2 k5 hs3 m5
 simp [eC] at Rd
 have hnb:¬ 0 < busy:=fun hb=>h ⟨hqt,hb⟩
 refine wp_call e_scan_Runner_step rfl ?_
 simp [hqt] at hq hs1 g5 hs2 k5 hs3 m5
 simp [F_scan_Runner_step,hru,hq,hnb,ha,C1,callrv_set,← hs1,hl1,g1,g2,g5,Me,Rd,hap,ss,← hs2,k1,k5,C2,hl2,hfz,hfl,hg,ss2,← hs3,m1,m5,hl3,Dn,hmin,hnle]
 done
end
end Go.AM

namespace Go.AM
structure RnS where
 k:Int
 p:Nat
 M:Mem
 fs:List (Option FrR)
 cl:Bool
 st:Nat
 cs:List Cll
 ats:List Nat
 sc:Option Scn
 sh:Option Sht
 tk:Nat
structure ScI (k:Int) (p:Nat) (s:Scn):Prop where
 tr:1 ≤ s.tries ∧ s.tries ≤ 8
 lf:0 ≤ s.left ∧ s.left ≤ 8
 lq:s.quiet=false → 1 ≤ s.left
 ln:s.l.length ≤ 1000
 nn:∀ y ∈ s.l,k=2 → 0 ≤ y.c.n ∧ y.c.n ≤ 1000000
 neg:s.at_ < 0 → s.at_=-1 ∧ (s.l=[] ∨ (cellsS k p s.l s.l.length).2=true)
 pos:0 ≤ s.at_ → s.at_ < s.l.length ∧ s.quiet=false
structure RI (i:Nat) (x:RnS):Prop where
 leg:legal x.k x.p=0
 st:x.st ≤ i
 mi:MI x.k i x.M
 fi:∀ (j:Nat) f,x.fs[j]? = some (some f) → FI x.k i f
 cs:x.cs.length ≤ i
 a6:x.ats.length=6
 al:∀ a ∈ x.ats,a ≤ x.cs.length
 tk:x.tk ≤ i + 1
 sc:∀ s,x.sc=some s → ScI x.k x.p s
 one:x.sc=none ∨ x.sh=none
theorem ScI.two {k p s} (h:ScI k p s):two2 k s.l:=by
 intro hk hl
 match hs:s.l,hl with
 | a :: b :: r,_ =>
  have h1:=h.nn a (by rw [hs]; simp) hk
  have h2:=h.nn b (by rw [hs]; simp) hk
  exact ⟨a,b,r,rfl,h1.1,h1.2,h2.1,h2.2⟩
theorem cells_lt {k:Int} {p:Nat} (hp:p ≤ 16) {l:List Sn} (h0:k=2 → 0 ≤ nAt l 0) {i:Nat} (h:(cellsS k p l i).2=true) (hg:k=4 → (gatesN p).length ≤ 900):i < 1000:=by
 unfold cellsS at h
 split at h
 ·rename_i hk
  split at h
  ·omega
  ·simp only [Bool.and_eq_true,decide_eq_true_eq] at h
   have h1:=h0 hk
   have:0 ≤ nAt l 0 * (p:Int):=Int.mul_nonneg h1 (by omega)
   omega
 ·split at h
  ·rename_i h4; have:=hg h4; simp at h; omega
  ·simp at h; omega
theorem gates900 (p:Nat) (hw:widthN p):(gatesN p).length ≤ 900:=by
 rcases hw with rfl | rfl | rfl | rfl | rfl <;> decide
def begN (x:RnS) (t:Int) (o:Rw):RnS × Int :=
 if begO x.k x.cl x.fs t o=0 then ({ x with fs:=x.fs.set t.toNat (some (begF o)),cs:=x.cs ++ [⟨t.toNat,o,x.st,-1,noA⟩],ats:=x.ats.set t.toNat (x.cs.length + 1) },0)
 else (x,begO x.k x.cl x.fs t o)
def pickE (x:RnS) (n:Nat) (f:FrR):RnS :=
 {x with M := (stepP x.k x.p x.M f).m, fs := x.fs.set n (if (stepP x.k x.p x.M f).d then none else some (stepP x.k x.p x.M f).f), st := x.st + 1,
         cs:=(recC x.cs x.ats n (stepP x.k x.p x.M f).d x.st (stepP x.k x.p x.M f).a).1,ats:=(recC x.cs x.ats n (stepP x.k x.p x.M f).d x.st (stepP x.k x.p x.M f).a).2 }
def shotS (x:RnS) (s s':Scn):Sht:=⟨x.k,x.p,s'.l,if s.quiet then s.tries else s.tries - s.left + 1,s.quiet⟩
def stepN (x:RnS) (s:Scn) (busy:Nat):RnS :=
 if (stepS x.k x.p x.M s busy).2=0 then { x with sc:=some (stepS x.k x.p x.M s busy).1 }
 else if (stepS x.k x.p x.M s busy).2=1 then { x with sc:=none,sh:=some (shotS x s (stepS x.k x.p x.M s busy).1),cl:=if s.quiet && !s.closed then false else x.cl }
 else { x with sc:=some (failS s x.cl),cl:=if s.left=1 then true else x.cl }
def whoN (x:RnS) (pick:Int):Option (Nat × FrR) :=
 match pickL (busyO x.fs 0) (match x.sc with | none=>pick | some _=>into pick ((busyO x.fs 0).length + 1)) with
 | none=>none
 | some n=>match x.fs[n]? with
  | some (some f)=>if x.sc.isSome=true ∧ ¬ into pick ((busyO x.fs 0).length + 1) < (busyO x.fs 0).length then none else some (n,f)
  | _=>none
def pickN (x:RnS) (pick:Int):RnS:=match whoN x pick with
 | some (n,f)=>{ pickE x n f with tk:=x.tk + 1 }
 | none=>match x.sc with
  | none=>x
  | some s=>{ stepN x s (busyO x.fs 0).length with tk:=x.tk + 1 }
def gatN (x:RnS) (b:Bool):RnS:=match x.sc with
 | none=>{ x with cl:=b }
 | some s=>if s.quiet then { x with sc:=some { s with closed:=b } } else { x with cl:=b }
def startN (x:RnS) (n:Int):RnS × Int :=
 if n < 1 ∨ 8 < n then (x,4) else if x.sc.isSome || x.sh.isSome then (x,11) else ({ x with sc:=some ⟨n,n,[],-1,false,false⟩ },0)
def quietN (x:RnS):Bool:=match x.sc with
 | none=>false
 | some s=>s.quiet
theorem RI.mono {i x} (h:RI i x):RI (i + 1) x :=
 {h with st:=by have:=h.st; omega,mi:=h.mi.mono,fi:=fun j f hf=>(h.fi j f hf).mono,cs:=by have:=h.cs; omega,tk:=by have:=h.tk; omega }
theorem setN {P:FrR → Prop} {fs:List (Option FrR)} {n:Nat} {o:Option FrR} (h:∀ (j:Nat) f,fs[j]? = some (some f) → P f) (ho:∀ f,o=some f → P f):∀ (j:Nat) f,(fs.set n o)[j]? = some (some f) → P f:=by
 intro j f hf
 rw [List.getElem?_set] at hf
 split at hf
 ·split at hf
  ·injection hf with hf; exact ho f hf
  ·cases hf
 ·exact h j f hf
theorem recC_len (cs:List Cll) (ats:List Nat) (n:Nat) (d:Bool) (st:Nat) (a:An):(recC cs ats n d st a).1.length=cs.length ∧ (recC cs ats n d st a).2.length=ats.length:=by
 unfold recC
 split
 ·exact ⟨rfl,rfl⟩
 ·split
  ·split
   ·exact ⟨rfl,rfl⟩
   ·simp
  ·exact ⟨rfl,rfl⟩
theorem recC_at {cs:List Cll} {ats:List Nat} {m:Nat} (h:∀ a ∈ ats,a ≤ m) (n:Nat) (d:Bool) (st:Nat) (a:An):∀ y ∈ (recC cs ats n d st a).2,y ≤ m:=by
 unfold recC
 split
 ·exact h
 ·split
  ·split
   ·exact h
   ·intro y hy
    rcases List.mem_or_eq_of_mem_set hy with hy | rfl
    ·exact h y hy
    ·omega
  ·exact h
theorem RI.beg {i x} (h:RI i x) (t:Int) (o:Rw) (ho:FI x.k (i + 1) (begF o)):RI (i + 1) (begN x t o).1:=by
 unfold begN
 split
 ·exact { h.mono with
   fi:=setN (P:=fun f=>FI x.k (i + 1) f) (fun j f hf=>(h.fi j f hf).mono) (fun f hf=>by injection hf with hf; subst hf; exact ho)
   cs:=by have:=h.cs; simp; omega
   a6:=by simp [h.a6]
   al:=fun a ha=>by
    rcases List.mem_or_eq_of_mem_set ha with ha | rfl
    ·have:=h.al a ha; simp; omega
    ·simp }
 ·exact h.mono
theorem RI.pickE {i x n f} (h:RI i x) (hi:i ≤ 5000) (hf:x.fs[n]? = some (some f)):RI (i + 1) { pickE x n f with tk:=x.tk + 1 }:=by
 have S:=si_step h.leg h.mi (h.fi n f hf) hi
 refine { h.mono with st:=?_,mi:=S.m,fi:=?_,cs:=?_,a6:=?_,al:=?_,tk:=?_ }
 ·have:=h.st; simp only [AM.pickE]; omega
 ·refine setN (P:=fun f=>FI x.k (i + 1) f) (fun j f hf=>(h.fi j f hf).mono) (fun g hg=>?_)
  split at hg
  ·cases hg
  ·rename_i hd; injection hg with hg; subst hg; exact S.f (by simpa using hd)
 ·have:=h.cs; simp only [AM.pickE,(recC_len _ _ _ _ _ _).1]; omega
 ·simp only [AM.pickE,(recC_len _ _ _ _ _ _).2]; exact h.a6
 ·simp only [AM.pickE,(recC_len _ _ _ _ _ _).1]
  exact recC_at h.al _ _ _ _
 ·have:=h.tk; simp only; omega
theorem nAt_nn {k:Int} {l:List Sn} (h:∀ y ∈ l,k=2 → 0 ≤ y.c.n ∧ y.c.n ≤ 1000000) (hk:k=2) (j:Nat):0 ≤ nAt l j:=by
 unfold nAt
 split
 ·rename_i x hx; exact (h x (List.mem_of_getElem? hx) hk).1
 ·omega
theorem ScI.len {k:Int} {p:Nat} {s} (hl:legal k p=0) (h:ScI k p s) (ha:s.at_ < 0):s.l.length < 1000:=by
 have hp:=legal_p hl
 rcases (h.neg ha).2 with h0 | h0
 ·rw [h0]; simp
 ·exact cells_lt (by omega) (fun hk=>nAt_nn h.nn hk 0) h0 (fun h4=>gates900 p (by subst h4; exact legal_width hl))
theorem rdM_ok2 {k:Int} {i:Nat} {M:Mem} (h:MI k i M) (hi:i ≤ 100000) (hk:k=2) (a:Int):0 ≤ (rdM M a).n ∧ (rdM M a).n ≤ 1000000:=by
 have:=h.num a
 subst hk
 simp [nb] at this
 omega
theorem ScI.step {k:Int} {p i:Nat} {M:Mem} {s:Scn} (hl:legal k p=0) (hM:MI k i M) (hi:i ≤ 100000) (h:ScI k p s) (busy:Int) (h0:(stepS k p M s busy).2=0):ScI k p (stepS k p M s busy).1:=by
 unfold stepS at h0 ⊢
 by_cases hw:s.quiet=true ∧ 0 < busy
 ·rw [if_pos hw]; exact h
 ·rw [if_neg hw] at h0 ⊢
  by_cases ha:s.at_ < 0
  ·rw [if_pos ha] at h0 ⊢
   have hln:=h.len hl ha
   have hnn:∀ y ∈ s.l ++ [⟨(cellsS k p s.l s.l.length).1,rdM M (cellsS k p s.l s.l.length).1⟩],k=2 → 0 ≤ y.c.n ∧ y.c.n ≤ 1000000:=by
    intro y hy hk
    rcases List.mem_append.1 hy with hy | hy
    ·exact h.nn y hy hk
    ·simp at hy; subst hy; exact rdM_ok2 hM hi hk _
   split at h0
   ·rename_i hc
    rw [if_pos hc]
    exact { h with ln:=by simp; omega,nn:=hnn,neg:=fun _=>⟨(h.neg ha).1,.inr (by simpa using hc)⟩,pos:=fun hp=>by simp only at hp; omega }
   ·rename_i hc
    rw [if_neg hc]
    have hq:s.quiet=false:=by
     cases e:s.quiet with
     | false=>rfl
     | true=>rw [e] at h0; simp at h0
    exact { h with ln:=by simp; omega,nn:=hnn,neg:=fun hp=>by simp at hp,pos:=fun _=>⟨by simp,hq⟩ }
  ·rw [if_neg ha] at h0 ⊢
   cases hx:s.l[s.at_.toNat]? with
   | none=>simp only [hx]; exact h
   | some x =>
    rw [hx] at h0
    simp only at h0 ⊢
    have hpos:=h.pos (by omega)
    split at h0
    ·rename_i hv
     rw [if_pos hv]
     split at h0
     ·cases h0
     ·rename_i hne
      exact { h with neg:=fun hp=>by simp only at hp; omega,pos:=fun _=>⟨by simp only; omega,hpos.2⟩ }
    ·cases h0
theorem ScI.fail {k:Int} {p:Nat} {s:Scn} (h:ScI k p s) (hlf:1 ≤ s.left) (cl:Bool):ScI k p (failS s cl):=by
 have h1:=h.tr
 have h2:=h.lf
 unfold failS
 split
 ·exact ⟨h1,by simp only; omega,fun e=>by simp at e,by simp,by simp,fun _=>⟨rfl,.inl rfl⟩,fun e=>by simp at e⟩
 ·exact ⟨h1,by simp only; omega,fun e=>by simp only; omega,by simp,by simp,fun _=>⟨rfl,.inl rfl⟩,fun e=>by simp at e⟩
theorem stepS_two {k:Int} {p:Nat} {M:Mem} {s:Scn} (h:ScI k p s) {busy:Int} (h2:(stepS k p M s busy).2=2):0 ≤ s.at_ ∧ s.quiet=false ∧ 1 ≤ s.left:=by
 unfold stepS at h2
 split at h2
 ·cases h2
 ·split at h2
  ·split at h2
   ·cases h2
   ·split at h2 <;> cases h2
  ·rename_i ha
   have hp:=h.pos (by omega)
   exact ⟨by omega,hp.2,h.lq hp.2⟩
theorem stepS_012 (k:Int) (p:Nat) (M:Mem) (s:Scn) (busy:Int):(stepS k p M s busy).2=0 ∨ (stepS k p M s busy).2=1 ∨ (stepS k p M s busy).2=2:=by
 unfold stepS
 split
 ·exact .inl rfl
 ·split
  ·split
   ·exact .inl rfl
   ·split
    ·exact .inr (.inl rfl)
    ·exact .inl rfl
  ·split
   ·exact .inl rfl
   ·split
    ·split
     ·exact .inr (.inl rfl)
     ·exact .inl rfl
    ·exact .inr (.inr rfl)
theorem RI.stepN {i x s} (h:RI i x) (hi:i ≤ 5000) (hs:x.sc=some s) (busy:Nat):RI (i + 1) { stepN x s busy with tk:=x.tk + 1 }:=by
 have S:=h.sc s hs
 have hsh:x.sh=none:=by rcases h.one with e | e; rw [hs] at e; cases e; exact e
 have ht:=h.tk
 unfold AM.stepN
 split
 ·rename_i h0
  exact { h.mono with tk:=by simp only; omega,sc:=fun s' e=>by injection e with e; subst e; exact S.step h.leg h.mi (by omega) busy h0,one:=.inr hsh }
 ·split
  ·exact { h.mono with tk:=by simp only; omega,sc:=fun s' e=>(nomatch e),one:=.inl rfl }
  ·rename_i h0 h1
   have h2:(stepS x.k x.p x.M s busy).2=2:=by rcases stepS_012 x.k x.p x.M s busy with e | e | e; exact absurd e h0; exact absurd e h1; exact e
   exact { h.mono with tk:=by simp only; omega,sc:=fun s' e=>by injection e with e; subst e; exact S.fail (stepS_two S h2).2.2 _,one:=.inr hsh }
theorem RI.pick {i x} (h:RI i x) (hi:i ≤ 5000) (pick:Int):RI (i + 1) (pickN x pick):=by
 unfold pickN
 cases hw:whoN x pick with
 | some q =>
  obtain ⟨n,f⟩:=q
  simp only
  refine h.pickE hi ?_
  unfold whoN at hw
  split at hw
  ·cases hw
  ·split at hw
   ·split at hw
    ·cases hw
    ·cases hw; assumption
   ·cases hw
 | none =>
  simp only
  cases hs:x.sc with
  | none=>exact h.mono
  | some s=>exact h.stepN hi hs _
theorem RI.gate {i x} (h:RI i x) (b:Bool):RI (i + 1) (gatN x b):=by
 unfold gatN
 split
 ·exact { h.mono with sc:=h.sc }
 ·rename_i s hs
  split
  ·refine { h.mono with sc:=fun s' e=>?_,one:=.inr (by rcases h.one with e | e; rw [hs] at e; cases e; exact e) }
   injection e with e; subst e
   have S:=h.sc s hs
   exact ⟨S.tr,S.lf,S.lq,S.ln,S.nn,S.neg,S.pos⟩
  ·exact { h.mono with sc:=h.sc }
theorem RI.start {i x} (h:RI i x) (n:Int):RI (i + 1) (startN x n).1:=by
 unfold startN
 split
 ·exact h.mono
 ·rename_i hn
  split
  ·exact h.mono
  ·rename_i hb
   refine { h.mono with sc:=fun s' e=>?_,one:=.inr (by cases e:x.sh <;> simp [e] at hb ⊢) }
   injection e with e; subst e
   exact ⟨by simp only; omega,by simp only; omega,fun _=>by simp only; omega,by simp,by simp,fun _=>⟨rfl,.inl rfl⟩,fun e=>by simp at e⟩
theorem RI.tk1 {i x} (h:RI i x):RI (i + 1) { x with tk:=x.tk + 1 } :=
 {h.mono with tk:=by have:=h.tk; simp only; omega,sc:=h.sc,one:=h.one }
theorem RI.take {i x} (h:RI i x):RI (i + 1) { x with sh:=none }:={ h.mono with sc:=h.sc,one:=.inr rfl }
end Go.AM

namespace Go.AM
structure XR (x:RnS) (y:Xr):Prop where
 on:y.on=x.sc.isSome
 sc:∀ s,x.sc=some s → y.tw=decide (0 ≤ s.at_) ∧ (0 ≤ s.at_ → y.at_=s.at_) ∧ y.qu=s.quiet ∧ (s.quiet=true → y.af=s.closed) ∧ y.tries=s.tries ∧ y.left=s.left ∧ y.l=s.l
 has:y.has=x.sh.isSome
 sh:∀ s,x.sh=some s → s.k=x.k ∧ s.p=x.p ∧ y.sl=s.l ∧ y.st=s.tries ∧ y.sq=s.quiet
 tk:y.tick=x.tk
theorem XR.gate {x y} (h:XR x y) (c:Bool):XR (gatN x c) (gateX y x.cl c).1 ∧ (gateX y x.cl c).2=(gatN x c).cl:=by
 have h1:=h.on
 unfold gatN gateX
 cases hs:x.sc with
 | none =>
  rw [hs] at h1
  simp only [Option.isSome_none] at h1
  simp only [h1,Bool.false_and,Bool.false_eq_true,if_false]
  exact ⟨⟨by simp [hs,h1],fun s e=>by simp [hs] at e,h.has,h.sh,h.tk⟩,trivial⟩
 | some s =>
  obtain ⟨a1,a2,a3,a4,a5,a6,a7⟩:=h.sc s hs
  rw [hs] at h1
  simp only [Option.isSome_some] at h1
  simp only [h1,Bool.true_and,a3]
  cases hq:s.quiet with
  | true =>
   simp only [if_true]
   refine ⟨⟨by simp [h1],fun s' e=>?_,h.has,h.sh,h.tk⟩,trivial⟩
   injection e with e; subst e
   exact ⟨a1,a2,by simp [a3,hq],fun _=>rfl,a5,a6,a7⟩
  | false =>
   simp only [Bool.false_eq_true,if_false]
   exact ⟨⟨by simp [hs,h1],fun s' e=>h.sc s' (by simpa [hs] using e),h.has,h.sh,h.tk⟩,trivial⟩
theorem XR.start {x y} (h:XR x y) (n:Int):XR (startN x n).1 (startX y n).1 ∧ (startX y n).2=(startN x n).2 ∧ (startN x n).1.cl=x.cl:=by
 unfold startN startX
 rw [h.on,h.has]
 split
 ·exact ⟨h,rfl,rfl⟩
 ·split
  ·exact ⟨h,rfl,rfl⟩
  ·rename_i hb
   refine ⟨⟨rfl,fun s e=>?_,?_,?_,h.tk⟩,rfl,rfl⟩
   ·injection e with e; subst e
    exact ⟨by simp,fun hh=>by simp at hh,rfl,fun hh=>by simp at hh,rfl,rfl,rfl⟩
   ·rfl
   ·exact h.sh
theorem XR.take {x y} (h:XR x y):XR { x with sh:=none } { y with has:=false }:=⟨h.on,h.sc,rfl,fun s e=>(nomatch e),h.tk⟩
theorem XR.beg {x y} (h:XR x y) (t:Int) (o:Rw):XR (begN x t o).1 y:=by
 unfold begN
 split
 ·exact ⟨h.on,h.sc,h.has,h.sh,h.tk⟩
 ·exact h
theorem XR.pickE {x y} (h:XR x y) (n:Nat) (f:FrR):XR { pickE x n f with tk:=x.tk + 1 } { y with tick:=y.tick + 1 }:=⟨h.on,h.sc,h.has,h.sh,by have:=h.tk; simp only; omega⟩
theorem cells_neg {k:Int} {p:Nat} (hl:legal k p=0) {s:Scn} (h:ScI k p s) (ha:s.at_ < 0):(cellsS k p s.l s.l.length).2=true:=by
 have hp:=legal_p hl
 rcases (h.neg ha).2 with h0 | h0
 ·rw [h0]
  unfold cellsS
  split
  ·simp
  ·split
   ·simp; omega
   ·simp; omega
 ·exact h0
theorem cellX_pos {k:Int} {p:Nat} {l:List Sn} (hnn:k=2 → 0 ≤ nAt l 0) (i:Nat):(0 ≤ cellX k p l i ↔ (cellsS k p l i).2=true):=by
 unfold cellX
 constructor
 ·intro h
  split at h
  ·assumption
  ·omega
 ·intro h
  rw [if_pos h]
  unfold cellsS
  split
  ·rename_i hk
   split
   ·simp
   ·have h1:=hnn hk
    have:0 ≤ nAt l 0 * (p:Int):=Int.mul_nonneg h1 (by omega)
    simp only; omega
  ·split <;> simp
theorem XR.step {i : Nat} {x : RnS} {y : Xr} (h : XR x y) (hI : RI i x) (hi : i ≤ 1000) {ps : List Pt} (hM : ∀ j : Int, rdM x.M j = rdP ps 0 j zC) {s : Scn} (hs : x.sc = some s) (hcq : s.quiet = true → x.cl = true) (busy : Nat) :
    XR { stepN x s busy with tk:=x.tk + 1 } (stepX x.k x.p ps { y with tick:=y.tick + 1 } x.cl busy).1 ∧ (stepX x.k x.p ps { y with tick:=y.tick + 1 } x.cl busy).2=(stepN x s busy).cl:=by
 have S:=hI.sc s hs
 obtain ⟨a1,a2,a3,a4,a5,a6,a7⟩:=h.sc s hs
 have hsh:x.sh=none:=by rcases hI.one with e | e; rw [hs] at e; cases e; exact e
 have hon:y.on=true:=by rw [h.on,hs]; rfl
 have hhas:y.has=false:=by rw [h.has,hsh]; rfl
 have htk:=h.tk
 unfold AM.stepN stepX
 by_cases hw:s.quiet=true ∧ (0:Int) < busy
 ·have e1:stepS x.k x.p x.M s busy=(s,0):=by unfold stepS; rw [if_pos hw]
  rw [e1]
  simp only [a3]
  rw [if_pos hw]
  simp only [if_true]
  exact ⟨⟨by simp [hon],fun s' e=>by injection e with e; subst e; exact ⟨a1,a2,rfl,a4,a5,a6,a7⟩,h.has,h.sh,by simp only; omega⟩,trivial⟩
 ·simp only [a3]
  rw [if_neg hw]
  by_cases ha:s.at_ < 0
  ·have htw:y.tw=false:=by rw [a1]; simp; omega
   have hc1:=cells_neg hI.leg S ha
   have hcx:cellX x.k x.p s.l s.l.length=(cellsS x.k x.p s.l s.l.length).1:=by unfold cellX; rw [if_pos hc1]
   obtain ⟨l',hl'⟩:∃ l',l'=s.l ++ [⟨(cellsS x.k x.p s.l s.l.length).1,rdM x.M (cellsS x.k x.p s.l s.l.length).1⟩] := ⟨_,rfl⟩
   have hnn:x.k=2 → 0 ≤ nAt l' 0:=fun hk=>nAt_nn (fun z hz hk2=>by
    rw [hl'] at hz
    rcases List.mem_append.1 hz with hz | hz
    ·exact S.nn z hz hk2
    ·simp at hz; subst hz; exact rdM_ok2 hI.mi (by omega) hk2 _) hk 0
   have hp2:=cellX_pos (k:=x.k) (p:=x.p) (l:=l') hnn (s.l.length + 1)
   simp only [htw,if_true,a7,hcx,← hM,← hl']
   unfold stepS
   rw [if_neg hw,if_pos ha]
   simp only [← hl']
   by_cases h2:(cellsS x.k x.p l' (s.l.length + 1)).2=true
   ·rw [if_pos (hp2.2 h2),if_pos h2]
    simp only [if_true]
    refine ⟨⟨by simp [hon],fun s' e=>?_,h.has,h.sh,by simp only; omega⟩,trivial⟩
    injection e with e; subst e
    exact ⟨by simp; omega,fun hh=>by simp only at hh; omega,rfl,a4,a5,a6,rfl⟩
   ·rw [if_neg (fun hh=>h2 (hp2.1 hh)),if_neg h2]
    cases hq:s.quiet with
    | false =>
     simp only [Bool.false_eq_true,if_false,if_true]
     refine ⟨⟨by simp [hon],fun s' e=>?_,h.has,h.sh,by simp only; omega⟩,trivial⟩
     injection e with e; subst e
     exact ⟨by simp,fun _=>rfl,by simp [a3,hq],fun hh=>by simp [hq] at hh,a5,a6,rfl⟩
    | true =>
     simp only [if_true]
     refine ⟨⟨by simp [finX],fun s' e=>(nomatch e),by simp [finX],fun s' e=>?_,by simp only [finX]; omega⟩,?_⟩
     ·injection e with e; subst e
      exact ⟨rfl,rfl,rfl,by simp [finX,shotS,a3,hq,a5],by simp [finX,shotS,a3,hq]⟩
     ·have hcl:=a4 hq
      rw [hcl,hcq hq]
      cases s.closed <;> simp
  ·have ha':0 ≤ s.at_:=by omega
   have htw:y.tw=true:=by rw [a1]; simp; omega
   have hat:=a2 ha'
   obtain ⟨hp1,hq⟩:=S.pos ha'
   obtain ⟨z,hz⟩:∃ z,s.l[s.at_.toNat]? = some z:=⟨s.l[s.at_.toNat],List.getElem?_eq_getElem (by omega)⟩
   simp only [htw,Bool.true_eq_false,if_false,a7,hat,hz,← hM,a6,hq,Bool.false_eq_true]
   unfold stepS
   rw [if_neg hw,if_neg ha]
   simp only [hz]
   by_cases hv:(rdM x.M z.at_).v=z.c.v
   ·rw [if_pos hv,if_pos hv]
    by_cases he:s.at_ + 1=s.l.length
    ·simp only [he,if_true]
     refine ⟨⟨by simp [finX],fun s' e=>(nomatch e),by simp [finX],fun s' e=>?_,by simp only [finX]; omega⟩,?_⟩
     ·injection e with e; subst e
      exact ⟨rfl,rfl,rfl,by simp [finX,shotS,hq,a5,a6],by simp [finX,shotS,hq]⟩
     ·simp [finC,a3,hq]
    ·simp only [he,if_false,if_true]
     refine ⟨⟨by simp [hon],fun s' e=>?_,h.has,h.sh,by simp only; omega⟩,trivial⟩
     injection e with e; subst e
     exact ⟨by simp; omega,fun _=>rfl,by simp [hq],fun hh=>by simp [hq] at hh,a5,by simp [a6],rfl⟩
   ·rw [if_neg hv,if_neg hv]
    rw [if_neg (show ¬ (2:Nat)=0 by omega),if_neg (show ¬ (2:Nat)=1 by omega)]
    unfold failS
    by_cases h1:s.left=1
    ·simp only [h1,if_true]
     refine ⟨⟨by simp [hon],fun s' e=>?_,h.has,h.sh,by simp only; omega⟩,trivial⟩
     injection e with e; subst e
     exact ⟨by simp,fun hh=>by simp at hh,rfl,fun _=>rfl,a5,by simp,rfl⟩
    ·simp only [h1,if_false]
     refine ⟨⟨by simp [hon],fun s' e=>?_,h.has,h.sh,by simp only; omega⟩,trivial⟩
     injection e with e; subst e
     exact ⟨by simp,fun hh=>by simp at hh,by simp [hq],fun hh=>by simp [hq] at hh,a5,by simp [a6],rfl⟩
end Go.AM

namespace Go.AM
def eBx (ru:Nat) (K1 K2 K3 K4:K) (k:Int) (p:Nat) (ps:List Pt) (gs:List FrR) (cl:Bool) (y:Xr):List D :=
 [.p ru 0,.i .i64 k,.i .i64 p,.l K1 3 (ps.map ePt),.l K2 17 (gs.map eFr),.b cl,.b y.on,.b y.tw,.b y.qu,.b y.af,.i .i64 y.tries,.i .i64 y.left,.i .i64 y.at_,.i .i64 y.tick,.l K3 4 (y.l.map eSx),.b y.has,.l K4 4 (y.sl.map eSx),.i .i64 y.st,.b y.sq]
set_option maxHeartbeats 4000000 in
theorem c_law16_IsShot (k p t : Int) (q : Bool) (l : List Sn) (hn : l.length ≤ 100000) (hl : ∀ s ∈ l, s.c.l.length ≤ 1000000 ∧ s.c.v < 9223372036854775808) (sg : List (List D)) :
    LL.call n_c_law16_IsShot [.a [.i .i64 k,.i .i64 p,.l .z 4 (l.map eSn),.i .i64 t,.b q],.a [.l .z 4 (l.map eSx),.i .i64 t,.b q]] sg sg.length=some (.i .i64 0,sg,sg.length):=by
 refine wp_call e_c_law16_IsShot rfl ?_
 have z1:D.zzs (l.map eSn)=l.map eSn:=zzs_flat eSn _
 have z2:D.zzs (l.map eSx)=l.map eSx:=zzs_flat eSx _
 simp [F_c_law16_IsShot,z1,z2]
 refine wc_up l.length (fun i=>⟨[(2,.q (.ptr 2 0)),(29,.v (.l .z 4 (l.map eSx))),(30,.v (.i .i64 l.length)),(31,.v (.i .i64 i))],[(2,[.i .i64 k,.i .i64 p,.l .z 4 (l.map eSn),.i .i64 t,.b q])],sg,sg.length⟩) (fun _=>True) ?_ ?_ 0 (by omega) trivial
 ·intro i hi _ ih
  have ih:=ih trivial
  obtain ⟨s,q0⟩:∃ s,l[i] = s:=⟨_,rfl⟩
  have hs:=hl s (by rw [← q0]; exact List.getElem_mem hi)
  have w1:IntKind.i64.wrap ((i:Int) + 1)=i + 1:=wrap64 (by omega)
  have A:=c_law05_Is s.c.n s.c.n s.c.l s.c.l hs.1 sg
  simp at A
  have wu:IntKind.u64.wrap (s.c.v:Int)=s.c.v:=by simp [IntKind.wrap,IntKind.signed,IntKind.bits]; omega
  simp [hi,q0,eSn,eSx,w1,A,wu]
  simpa [eSn,eSx] using ih
 ·intro _
  simp
set_option maxHeartbeats 4000000 in
theorem c_law16_pick (q ru : Nat) (K1 K2 K3 K4 : K) (hK1 : zo K1) (hK2 : zo K2) (hK3 : zo K3) (hK4 : zo K4) (k : Int) (p : Nat) (ps ps' : List Pt) (gs gs' : List FrR) (cl cl' : Bool) (y y' : Xr) (sg sg1 : List (List D)) (lo : Nat)
    (hq:sg[q]? = some (eBx ru K1 K2 K3 K4 k p ps gs cl y)) (hq1:sg1[q]? = some (eBx ru K1 K2 K3 K4 k p ps gs cl y)) (pick:Int) (who:Int) (o:Rw) (a:An) (d:Bool) (hw:¬ who=-2)
    (hP:LL.call n_scan_Runner_Pick [.p ru 0,.i .i64 pick] sg sg.length=some (.t [.a [.i .i64 who,.i .i64 o.k,.f .f64 o.x.p,.i .i64 o.x.v,.i .i64 o.a,.i .i64 o.b,.b d,.b a.ok,.f .f64 a.x.p,.i .i64 a.x.v,.i .i64 a.n],.b true],sg1,lo))
    (C3 C4:K) (hC3:zo C3) (hC4:zo C4) (hR:LL.call n_c_ref16_Pick [eXr .z .z .z .z k p ps (gs.map eFr) cl y,.i .i64 pick] sg1 sg1.length=some (.t [eXr .z .z C3 C4 k p ps' (gs'.map eFr) cl' y',.i .i64 who,eAr a,.b d],sg1,sg1.length))
    (hll:sg.length ≤ sg1.length) (hT:sg.length ≤ lo → sg1.length=sg.length) :
    ∃ K1 K2 K3 K4,zo K1 ∧ zo K2 ∧ zo K3 ∧ zo K4 ∧ LL.call n_c_law16_Both_pick [.p q 0,.i .i64 pick] sg sg.length=some (.b true,sg1.set q (eBx ru K1 K2 K3 K4 k p ps' gs' cl' y'),min sg.length lo):=by
 have I:=c_law06_IsAnswer a a (sg1.set q (eBx ru .z .z C3 C4 k p ps' gs' cl' y'))
 have hlt:=get_lt hq1
 obtain ⟨m,hmin⟩:∃ m,min sg.length lo=m:=⟨_,rfl⟩
 rw [hmin]
 have hlo1:m ≤ sg1.length:=by omega
 have hwb:(who == -2)=false:=by simp [hw]
 refine ⟨.z,.z,C3,C4,.inl rfl,.inl rfl,hC3,hC4,wp_call e_c_law16_Both_pick rfl ?_⟩
 simp [eBx] at hq hq1 I
 simp [eXr] at hR
 simp [eAn,eAr] at hR I
 rcases hC3 with rfl | rfl <;> rcases hC4 with rfl | rfl
 all_goals
  simp [F_c_law16_Both_pick,hq,hq1,hP,hR,↓cp_zo hK1,↓cp_zo hK2,↓cp_zo hK3,↓cp_zo hK4,hmin,hlo1,hwb,eBx,I]
  exact fun h=>List.take_of_length_le (by rw [List.length_set]; have:=hT (by omega); omega)
set_option maxHeartbeats 4000000 in
theorem c_law16_pick_no (q ru : Nat) (K1 K2 K3 K4 : K) (hK1 : zo K1) (hK2 : zo K2) (hK3 : zo K3) (hK4 : zo K4) (k : Int) (p : Nat) (ps : List Pt) (gs : List FrR) (cl : Bool) (y : Xr) (sg : List (List D))
    (hq:sg[q]? = some (eBx ru K1 K2 K3 K4 k p ps gs cl y)) (pick:Int)
    (hP:LL.call n_scan_Runner_Pick [.p ru 0,.i .i64 pick] sg sg.length=some (.t [eEv 0 ⟨0,⟨0,0⟩,0,0⟩ ⟨false,⟨0,0⟩,0⟩ false,.b false],sg,sg.length))
    (hR:LL.call n_c_ref16_Pick [eXr .z .z .z .z k p ps (gs.map eFr) cl y,.i .i64 pick] sg sg.length=some (.t [eXr .z .z .z .z k p ps (gs.map eFr) cl y,.i .i64 (-2),eAr noA,.b false],sg,sg.length)) :
    ∃ K1 K2 K3 K4,zo K1 ∧ zo K2 ∧ zo K3 ∧ zo K4 ∧ LL.call n_c_law16_Both_pick [.p q 0,.i .i64 pick] sg sg.length=some (.b true,sg.set q (eBx ru K1 K2 K3 K4 k p ps gs cl y),sg.length):=by
 have hlt:=get_lt hq
 refine ⟨.z,.z,.z,.z,.inl rfl,.inl rfl,.inl rfl,.inl rfl,wp_call e_c_law16_Both_pick rfl ?_⟩
 simp [eBx] at hq
 simp [eXr] at hR
 simp [eEv] at hP
 simp [eAr,noA] at hR
 simp [F_c_law16_Both_pick,hq,hP,hR,↓cp_zo hK1,↓cp_zo hK2,↓cp_zo hK3,↓cp_zo hK4,eBx]
 exact ⟨by decide +kernel,List.take_of_length_le (by simp)⟩
end Go.AM

namespace Go.AM
def ownN (er rc ru:Nat) (e:Eng) (sp:Option Nat) (y:Nat):Prop:=own er e y ∨ y=rc ∨ y=ru ∨ sp=some y
structure RR (er rc ru:Nat) (sg:List (List D)) (x:RnS) (e:Eng) (sp hp:Option Nat):Prop where
 R:Rep sg er e x.M x.fs
 ek:e.k=x.k
 ep:e.p=x.p
 ecl:e.cl=x.cl
 est:e.st=x.st
 hrc:sg[rc]? = some (eRec er x.cs x.ats)
 hru:sg[ru]? = some (eRun rc sp hp x.tk)
 dc:¬ own er e rc
 du:¬ own er e ru
 dcu:rc ≠ ru
 sp0:sp=none → x.sc=none
 sp1:∀ q,sp=some q → ∃ s,x.sc=some s ∧ sg[q]? = some (eScn s) ∧ ¬ own er e q ∧ q ≠ rc ∧ q ≠ ru
 hp0:hp=none → x.sh=none
 hp1:∀ h,hp=some h → ∃ s,x.sh=some s ∧ sg[h]? = some (eSht s) ∧ ¬ own er e h ∧ h ≠ rc ∧ h ≠ ru
structure Fr (P Q:Nat → Prop) (sg sg':List (List D)):Prop where
 len:sg.length ≤ sg'.length
 same:∀ y,y < sg.length → ¬ P y → sg'[y]? = sg[y]?
 own:∀ y,y < sg.length → Q y → P y
theorem Fr.rfl' (P:Nat → Prop) (sg:List (List D)):Fr P P sg sg:=⟨Nat.le_refl _,fun _ _ _=>rfl,fun _ _ h=>h⟩
theorem Fr.trans {P Q R:Nat → Prop} {a b c:List (List D)} (h:Fr P Q a b) (k:Fr Q R b c):Fr P R a c :=
 ⟨Nat.le_trans h.len k.len,fun y hy hn=>by
  have hb:y < b.length:=Nat.lt_of_lt_of_le hy h.len
  rw [k.same y hb (fun hq=>hn (h.own y hy hq)),h.same y hy hn],fun y hy hr=>h.own y hy (k.own y (Nat.lt_of_lt_of_le hy h.len) hr)⟩
theorem RR.lc {er rc ru sg x e sp hp} (h:RR er rc ru sg x e sp hp):rc < sg.length:=get_lt h.hrc
theorem RR.lu {er rc ru sg x e sp hp} (h:RR er rc ru sg x e sp hp):ru < sg.length:=get_lt h.hru
theorem RR.le {er rc ru sg x e sp hp} (h:RR er rc ru sg x e sp hp):er < sg.length:=get_lt h.R.hr
theorem RR.sc_none {er rc ru sg x e sp hp} (h:RR er rc ru sg x e sp hp) (hs:x.sc=none):sp=none:=by
 cases sp with
 | none=>rfl
 | some q=>obtain ⟨s,h1,_⟩:=h.sp1 q rfl; rw [hs] at h1; cases h1
theorem RR.sc_some {er rc ru sg x e sp hp s} (h:RR er rc ru sg x e sp hp) (hs:x.sc=some s):∃ q,sp=some q ∧ sg[q]? = some (eScn s) ∧ ¬ own er e q ∧ q ≠ rc ∧ q ≠ ru:=by
 cases sp with
 | none=>rw [h.sp0 rfl] at hs; cases hs
 | some q=>obtain ⟨s',h1,h2⟩:=h.sp1 q rfl; rw [hs] at h1; cases h1; exact ⟨q,rfl,h2⟩
theorem RR.sh_none {er rc ru sg x e sp hp} (h:RR er rc ru sg x e sp hp) (hs:x.sh=none):hp=none:=by
 cases hp with
 | none=>rfl
 | some q=>obtain ⟨s,h1,_⟩:=h.hp1 q rfl; rw [hs] at h1; cases h1
theorem RR.sh_some {er rc ru sg x e sp hp s} (h:RR er rc ru sg x e sp hp) (hs:x.sh=some s):∃ q,hp=some q ∧ sg[q]? = some (eSht s) ∧ ¬ own er e q ∧ q ≠ rc ∧ q ≠ ru:=by
 cases hp with
 | none=>rw [h.hp0 rfl] at hs; cases hs
 | some q=>obtain ⟨s',h1,h2⟩:=h.hp1 q rfl; rw [hs] at h1; cases h1; exact ⟨q,rfl,h2⟩
theorem RR.eng {er rc ru sg x e sp hp sg'} (h : RR er rc ru sg x e sp hp) {e' : Eng} {M' : Mem} {fs' : List (Option FrR)} {cs' : List Cll} {at' : List Nat} {cl' : Bool} {st' : Nat} (hcl : e'.cl = cl') (hst : e'.st = st') (hl : sg.length ≤ sg'.length) (hR : Rep sg' er e' M' fs') (hk : e'.k = e.k) (hp' : e'.p = e.p)
    (hrc:sg'[rc]? = some (eRec er cs' at')) (ho:∀ y,y < sg.length → own er e' y → own er e y) (hf:∀ y,y < sg.length → ¬ own er e y → y ≠ rc → sg'[y]? = sg[y]?) :
    RR er rc ru sg' { x with M:=M',fs:=fs',cl:=cl',st:=st',cs:=cs',ats:=at' } e' sp hp ∧ Fr (ownN er rc ru e sp) (ownN er rc ru e' sp) sg sg':=by
 refine ⟨⟨hR,hk.trans h.ek,hp'.trans h.ep,hcl,hst,hrc,?_,fun hh=>h.dc (ho rc h.lc hh),fun hh=>h.du (ho ru h.lu hh),h.dcu,h.sp0,fun q hq=>?_,h.hp0,fun q hq=>?_⟩,⟨hl,fun y hy hn=>?_,fun y hy hq=>?_⟩⟩
 ·rw [hf ru h.lu h.du (Ne.symm h.dcu)]; exact h.hru
 ·obtain ⟨s,a,b,c,d,f⟩:=h.sp1 q hq
  exact ⟨s,a,by rw [hf q (get_lt b) c d]; exact b,fun hh=>c (ho q (get_lt b) hh),d,f⟩
 ·obtain ⟨s,a,b,c,d,f⟩:=h.hp1 q hq
  exact ⟨s,a,by rw [hf q (get_lt b) c d]; exact b,fun hh=>c (ho q (get_lt b) hh),d,f⟩
 ·exact hf y hy (fun hh=>hn (.inl hh)) (fun hh=>hn (.inr (.inl hh)))
 ·rcases hq with hq | hq
  ·exact .inl (ho y hy hq)
  ·exact .inr hq
def Tkn (sg sg':List (List D)) (lo:Nat):Prop:=lo < sg.length ∨ sg'.length=sg.length
theorem Tkn.tk {sg sg':List (List D)} {lo:Nat} (h:Tkn sg sg' lo) {n:Nat} (hn:n=sg.length) (hl:n ≤ lo):sg'.take n=sg':=by
 subst hn
 rcases h with h | h
 ·omega
 ·exact List.take_of_length_le (by omega)
theorem rr_beg {i er rc ru sg x e sp hp} (h : RR er rc ru sg x e sp hp) (hI : RI i x) (hi : i ≤ 1000) (t : Int) (o : Rw) :
    ∃ sg' e' lo,LL.call n_history_Recorder_Begin [.p rc 0,.i .i64 t,eOp o] sg sg.length=some (.i .i64 (begN x t o).2,sg',lo) ∧ RR er rc ru sg' (begN x t o).1 e' sp hp ∧ Fr (ownN er rc ru e sp) (ownN er rc ru e' sp) sg sg' ∧ Tkn sg sg' lo:=by
 have hb0:begO e.k e.cl x.fs t o=begO x.k x.cl x.fs t o:=by rw [h.ek,h.ecl]
 have hcs:x.cs.length ≤ 1000:=by have:=hI.cs; omega
 unfold begN
 by_cases hb:begO x.k x.cl x.fs t o=0
 ·rw [if_pos hb]
  obtain ⟨sg',e',A1,A2,A3,A4,A5,A6,A7,A8,A9,A10,A11,A12,A13⟩:=c_history_Begin er rc e x.M x.fs x.cs x.ats sg h.R h.hrc h.dc hI.a6 hcs t o (by rw [hb0]; exact hb)
  have:=h.eng (A10.trans h.ecl) (A11.trans h.est) (by omega) A5 A7 A8 A6 (fun y hy ho=>by
   rcases ho with ho | ho | ⟨j,ho⟩
   ·exact .inl ho
   ·exact .inr (.inl (by rw [← A9]; exact ho))
   ·rcases A13 j y ho with hh | hh
    ·exact .inr (.inr ⟨j,hh⟩)
    ·omega) (fun y hy ho hc=>A12 y hy (fun hh=>ho (.inl hh)) hc)
  refine ⟨sg',e',_,A1,?_,this.2,.inl h.le⟩
  have h2:=this.1
  rw [h.est] at h2
  exact h2
 ·rw [if_neg hb]
  have N:=c_history_Begin_no er rc e x.M x.fs x.cs x.ats sg h.R h.hrc h.dc hI.a6 hcs t o (by rw [hb0]; exact hb)
  rw [hb0] at N
  exact ⟨sg,e,_,N,h,.rfl' _ _,.inr rfl⟩
theorem rr_pickE {i er rc ru sg x e sp hp} (h : RR er rc ru sg x e sp hp) (hI : RI i x) (hi : i ≤ 1000) (pick : Int) (n : Nat) (hn : pickL (busyO x.fs 0) pick = some n) (f : FrR) (hf : x.fs[n]? = some (some f)) :
    ∃ sg' e',LL.call n_history_Recorder_Pick [.p rc 0,.i .i64 pick] sg sg.length=some (.t [eEv n f.o (stepP x.k x.p x.M f).a (stepP x.k x.p x.M f).d,.b true],sg',sg.length) ∧ sg'.length=sg.length ∧ RR er rc ru sg' (pickE x n f) e' sp hp ∧
     Fr (ownN er rc ru e sp) (ownN er rc ru e' sp) sg sg':=by
 have hcs:x.cs.length ≤ 1000:=by have:=hI.cs; omega
 have hst:=hI.st
 obtain ⟨sg',e',A1,A2,A3,A4,A5,A6,A7,A8,A9,A10,A11⟩:=c_history_Pick er rc e x.M x.fs x.cs x.ats sg h.R h.hrc h.dc hI.a6 hcs i (by omega) (by rw [h.ek,h.ep]; exact hI.leg) (by rw [h.est]; omega) (by rw [h.ek]; exact hI.mi) (by rw [h.ek]; exact hI.fi) hI.al pick n hn f hf
 rw [h.ek,h.ep] at A1 A3 A4
 have := h.eng (A8.trans h.ecl) (by rw [A9, h.est] : e'.st = x.st + 1) (by omega) A3 A5 A6 A4 (fun y hy ho => by
     rcases ho with ho | ho | ⟨j,ho⟩
     ·exact .inl ho
     ·exact .inr (.inl (by rw [← A7]; exact ho))
     ·exact .inr (.inr ⟨j,A11 j y ho⟩)) (fun y hy ho hc=>A10 y ho hc)
 refine ⟨sg',e',A1,A2,?_,this.2⟩
 have h2:=this.1
 rw [h.est] at h2
 exact h2
end Go.AM

namespace Go.AM
theorem Rep.gate {sg r e M fs} (h:Rep sg r e M fs) (b:Bool):Rep (sg.set r (eEng { e with cl:=b })) r { e with cl:=b } M fs:=by
 have hl:=get_lt h.hr
 refine ⟨List.getElem?_set_self hl,by rw [List.getElem?_set_ne (Ne.symm h.rm)]; exact h.hm,h.h6,h.f6,fun i q hq=>?_,h.nn,h.rm,h.qr,h.qq⟩
 obtain ⟨f,K,a,b,c⟩:=h.fr i q hq
 exact ⟨f,K,a,b,by rw [List.getElem?_set_ne (Ne.symm (h.qr i q hq).1)]; exact c⟩
theorem RR.scn {er rc ru sg x e q hp s s'} (h:RR er rc ru sg x e (some q) hp) (hs:x.sc=some s):RR er rc ru (sg.set q (eScn s')) { x with sc:=some s' } e (some q) hp ∧ Fr (ownN er rc ru e (some q)) (ownN er rc ru e (some q)) sg (sg.set q (eScn s')):=by
 obtain ⟨s0,a,b,c,d,f⟩:=h.sp1 q rfl
 have hql:=get_lt b
 refine ⟨⟨h.R.keep (fun y hy=>List.getElem?_set_ne (fun hh=>c (by rw [hh]; exact hy))),h.ek,h.ep,h.ecl,h.est,by rw [List.getElem?_set_ne d]; exact h.hrc,by rw [List.getElem?_set_ne f]; exact h.hru,h.dc,h.du,h.dcu,fun hh=>(nomatch hh),fun q' hq'=>?_,h.hp0,fun z hz=>?_⟩,⟨by simp,fun y hy hn=>List.getElem?_set_ne (fun hh=>hn (.inr (.inr (.inr (by rw [hh]))))),fun y hy hh=>hh⟩⟩
 ·injection hq' with hq'; subst hq'
  exact ⟨s',rfl,List.getElem?_set_self hql,c,d,f⟩
 ·obtain ⟨s1,a1,b1,c1⟩:=h.hp1 z hz
  have hzq:q ≠ z:=by
   rintro rfl
   rw [b] at b1
   simp [eScn,eSht] at b1
  exact ⟨s1,a1,by rw [List.getElem?_set_ne hzq]; exact b1,c1⟩
theorem RR.clo {er rc ru sg x e sp hp} (h:RR er rc ru sg x e sp hp) (b:Bool):RR er rc ru (sg.set er (eEng { e with cl:=b })) { x with cl:=b } { e with cl:=b } sp hp ∧ Fr (ownN er rc ru e sp) (ownN er rc ru { e with cl:=b } sp) sg (sg.set er (eEng { e with cl:=b })):=by
 have G:∀ y,¬ own er e y → (sg.set er (eEng { e with cl:=b }))[y]? = sg[y]? := fun y hy=>List.getElem?_set_ne (fun hh=>hy (.inl hh.symm))
 have:=h.eng (e':={ e with cl:=b }) (sg':=sg.set er (eEng { e with cl:=b })) rfl h.est (by simp) (h.R.gate b) rfl rfl (by rw [G rc h.dc]; exact h.hrc) (fun y _ ho=>ho) (fun y _ ho _=>G y ho)
 exact ⟨this.1,this.2⟩
theorem RR.tick {er rc ru sg x e sp hp} (h:RR er rc ru sg x e sp hp) (t:Nat):RR er rc ru (sg.set ru (eRun rc sp hp t)) { x with tk:=t } e sp hp ∧ Fr (ownN er rc ru e sp) (ownN er rc ru e sp) sg (sg.set ru (eRun rc sp hp t)):=by
 have G:∀ y,y ≠ ru → (sg.set ru (eRun rc sp hp t))[y]? = sg[y]? := fun y hy=>List.getElem?_set_ne (Ne.symm hy)
 refine ⟨⟨h.R.keep (fun y hy=>G y (fun hh=>h.du (by rw [← hh]; exact hy))),h.ek,h.ep,h.ecl,h.est,by rw [G rc h.dcu]; exact h.hrc,List.getElem?_set_self h.lu,h.dc,h.du,h.dcu,h.sp0,fun q hq=>?_,h.hp0,fun q hq=>?_⟩,⟨by simp,fun y hy hn=>G y (fun hh=>hn (.inr (.inr (.inl hh)))),fun y hy hh=>hh⟩⟩
 ·obtain ⟨s,a,b,c,d,f⟩:=h.sp1 q hq
  exact ⟨s,a,by rw [G q f]; exact b,c,d,f⟩
 ·obtain ⟨s,a,b,c,d,f⟩:=h.hp1 q hq
  exact ⟨s,a,by rw [G q f]; exact b,c,d,f⟩
theorem rr_quiet {er rc ru sg x e sp hp} (h:RR er rc ru sg x e sp hp):LL.call n_scan_Runner_Quiet [.p ru 0] sg sg.length=some (.b (quietN x),sg,sg.length):=by
 have hru:=h.hru
 cases hs:x.sc with
 | none =>
  have:=h.sc_none hs
  subst this
  simp [eRun,eFp] at hru
  refine wp_call e_scan_Runner_Quiet rfl ?_
  simp [F_scan_Runner_Quiet,hru,quietN,hs]
 | some s =>
  obtain ⟨q,rfl,hq,_⟩:=h.sc_some hs
  simp [eRun,eFp] at hru
  simp [eScn] at hq
  refine wp_call e_scan_Runner_Quiet rfl ?_
  simp [F_scan_Runner_Quiet,hru,hq,quietN,hs]
theorem rr_closed {er rc ru sg x e sp hp} (h:RR er rc ru sg x e sp hp):LL.call n_engine_Engine_Closed [.p er 0] sg sg.length=some (.b x.cl,sg,sg.length):=by
 rw [← h.ecl]; exact c_engine_Closed e sg er h.R.hr h.R.h6
theorem gatN_none {x:RnS} (hs:x.sc=none) (b:Bool):gatN x b={ x with cl:=b }:=by
 unfold gatN
 split
 ·rfl
 ·rename_i s h; rw [hs] at h; cases h
theorem stepN_0 {x:RnS} {s s':Scn} {busy:Nat} (h:stepS x.k x.p x.M s busy=(s',0)):stepN x s busy={ x with sc:=some s' }:=by
 unfold stepN; rw [h]; rfl
theorem stepN_1 {x:RnS} {s s':Scn} {busy:Nat} (h:stepS x.k x.p x.M s busy=(s',1)):stepN x s busy={ x with sc:=none,sh:=some (shotS x s s'),cl:=if s.quiet && !s.closed then false else x.cl }:=by
 unfold stepN; rw [h]; rfl
theorem stepN_2 {x:RnS} {s s':Scn} {busy:Nat} (h:stepS x.k x.p x.M s busy=(s',2)):stepN x s busy={ x with sc:=some (failS s x.cl),cl:=if s.left=1 then true else x.cl }:=by
 unfold stepN; rw [h]; rfl
theorem gatN_q {x:RnS} {s:Scn} (hs:x.sc=some s) (hq:s.quiet=true) (b:Bool):gatN x b={ x with sc:=some { s with closed:=b } }:=by
 unfold gatN
 split
 ·rename_i h; rw [hs] at h; cases h
 ·rename_i s' h; rw [hs] at h; cases h; rw [if_pos hq]
theorem gatN_n {x:RnS} {s:Scn} (hs:x.sc=some s) (hq:s.quiet=false) (b:Bool):gatN x b={ x with cl:=b }:=by
 obtain ⟨k,p,M,fs,cl,st,cs,ats,sc,sh,tk⟩:=x
 simp only at hs
 subst hs
 simp [gatN,hq]
theorem rr_close {er rc ru sg x e sp hp} (h : RR er rc ru sg x e sp hp) :
    ∃ sg' e',LL.call n_scan_Runner_Close [.p ru 0] sg sg.length=some (.t [],sg',sg.length) ∧ RR er rc ru sg' (gatN x true) e' sp hp ∧ Fr (ownN er rc ru e sp) (ownN er rc ru e' sp) sg sg' ∧ sg'.length=sg.length:=by
 have Q:=rr_quiet h
 have hru:=h.hru
 have hrc:=h.hrc
 have hlt:∀ l:List (List D),l.length=sg.length → List.take sg.length l=l:=fun l hl=>List.take_of_length_le (by omega)
 have hC:=c_engine_Close e sg er h.R.hr h.R.h6
 cases hs:x.sc with
 | none =>
  have:=h.sc_none hs
  subst this
  have K:=h.clo true
  refine ⟨_,_,?_,by rw [gatN_none hs]; exact K.1,K.2,by simp⟩
  rw [quietN,hs] at Q
  simp [eRun,eFp] at hru
  simp [eRec] at hrc
  refine wp_call e_scan_Runner_Close rfl ?_
  simp [F_scan_Runner_Close,hru,hrc,Q,hC,hlt]
 | some s =>
  obtain ⟨q,rfl,hq,_⟩:=h.sc_some hs
  rw [quietN,hs] at Q
  simp only at Q
  cases hqt:s.quiet with
  | true =>
   have K:=h.scn (s':={ s with closed:=true }) hs
   refine ⟨_,_,?_,by rw [gatN_q hs hqt]; exact K.1,K.2,by simp⟩
   rw [hqt] at Q
   simp [eRun,eFp] at hru
   simp [eScn,hqt] at hq
   refine wp_call e_scan_Runner_Close rfl ?_
   simp [F_scan_Runner_Close,hru,hq,Q,hlt,eScn,hqt]
  | false =>
   have K:=h.clo true
   refine ⟨_,_,?_,by rw [gatN_n hs hqt]; exact K.1,K.2,by simp⟩
   rw [hqt] at Q
   simp [eRun,eFp] at hru
   simp [eRec] at hrc
   refine wp_call e_scan_Runner_Close rfl ?_
   simp [F_scan_Runner_Close,hru,hrc,Q,hC,hlt]
theorem rr_open {er rc ru sg x e sp hp} (h : RR er rc ru sg x e sp hp) :
    ∃ sg' e',LL.call n_scan_Runner_Open [.p ru 0] sg sg.length=some (.t [],sg',sg.length) ∧ RR er rc ru sg' (gatN x false) e' sp hp ∧ Fr (ownN er rc ru e sp) (ownN er rc ru e' sp) sg sg' ∧ sg'.length=sg.length:=by
 have Q:=rr_quiet h
 have hru:=h.hru
 have hrc:=h.hrc
 have hlt:∀ l:List (List D),l.length=sg.length → List.take sg.length l=l:=fun l hl=>List.take_of_length_le (by omega)
 have hC:=c_engine_Open e sg er h.R.hr h.R.h6
 cases hs:x.sc with
 | none =>
  have:=h.sc_none hs
  subst this
  have K:=h.clo false
  refine ⟨_,_,?_,by rw [gatN_none hs]; exact K.1,K.2,by simp⟩
  rw [quietN,hs] at Q
  simp [eRun,eFp] at hru
  simp [eRec] at hrc
  refine wp_call e_scan_Runner_Open rfl ?_
  simp [F_scan_Runner_Open,hru,hrc,Q,hC,hlt]
 | some s =>
  obtain ⟨q,rfl,hq,_⟩:=h.sc_some hs
  rw [quietN,hs] at Q
  simp only at Q
  cases hqt:s.quiet with
  | true =>
   have K:=h.scn (s':={ s with closed:=false }) hs
   refine ⟨_,_,?_,by rw [gatN_q hs hqt]; exact K.1,K.2,by simp⟩
   rw [hqt] at Q
   simp [eRun,eFp] at hru
   simp [eScn,hqt] at hq
   refine wp_call e_scan_Runner_Open rfl ?_
   simp [F_scan_Runner_Open,hru,hq,Q,hlt,eScn,hqt]
  | false =>
   have K:=h.clo false
   refine ⟨_,_,?_,by rw [gatN_n hs hqt]; exact K.1,K.2,by simp⟩
   rw [hqt] at Q
   simp [eRun,eFp] at hru
   simp [eRec] at hrc
   refine wp_call e_scan_Runner_Open rfl ?_
   simp [F_scan_Runner_Open,hru,hrc,Q,hC,hlt]
theorem Rep.gate' {sg sg' r e M fs} (h:Rep sg r e M fs) (b:Bool) (hr:sg'[r]? = some (eEng { e with cl:=b })) (ho:∀ y,own r e y → y ≠ r → sg'[y]? = sg[y]?):Rep sg' r { e with cl:=b } M fs:=by
 refine ⟨hr,by rw [ho e.m (.inr (.inl rfl)) h.rm]; exact h.hm,h.h6,h.f6,fun i q hq=>?_,h.nn,h.rm,h.qr,h.qq⟩
 obtain ⟨f,K,a,b,c⟩:=h.fr i q hq
 exact ⟨f,K,a,b,by rw [ho q (.inr (.inr ⟨i,hq⟩)) (h.qr i q hq).1]; exact c⟩
theorem rr_start {er rc ru sg x e sp hp} (h : RR er rc ru sg x e sp hp) (n : Int) :
    ∃ sg' sp' lo,LL.call n_scan_Runner_Start [.p ru 0,.i .i64 n] sg sg.length=some (.i .i64 (startN x n).2,sg',lo) ∧ RR er rc ru sg' (startN x n).1 e sp' hp ∧ Fr (ownN er rc ru e sp) (ownN er rc ru e sp') sg sg' ∧ Tkn sg sg' lo:=by
 have S:=c_scan_Start rc ru sp hp x.tk n sg h.hru
 have h1:sp.isSome=x.sc.isSome:=by
  cases hs:x.sc with
  | none=>rw [h.sc_none hs]; rfl
  | some s=>obtain ⟨q,rfl,_⟩:=h.sc_some hs; rfl
 have h2:hp.isSome=x.sh.isSome:=by
  cases hs:x.sh with
  | none=>rw [h.sh_none hs]; rfl
  | some s=>obtain ⟨q,rfl,_⟩:=h.sh_some hs; rfl
 unfold startN
 unfold startS at S
 rw [h1,h2] at S
 by_cases hn:n < 1 ∨ 8 < n
 ·rw [if_pos hn] at S ⊢
  exact ⟨sg,sp,_,by simpa using S,h,.rfl' _ _,.inr rfl⟩
 ·rw [if_neg hn] at S ⊢
  by_cases hb:(x.sc.isSome || x.sh.isSome)=true
  ·rw [if_pos hb] at S ⊢
   exact ⟨sg,sp,_,by simpa using S,h,.rfl' _ _,.inr rfl⟩
  ·rw [if_neg hb] at S ⊢
   rw [if_pos rfl] at S
   have hlu:=h.lu
   have G:∀ y,y < sg.length → y ≠ ru → (sg.set ru (eRun rc (some sg.length) hp x.tk) ++ [eScn ⟨n,n,[],-1,false,false⟩])[y]? = sg[y]? := fun y hy hn=>by
    rw [List.getElem?_append_left (by simpa using hy),List.getElem?_set_ne (Ne.symm hn)]
   have hown:∀ y,own er e y → y < sg.length:=fun y hy=>h.R.lt hy
   refine ⟨_,some sg.length,_,S,⟨h.R.keep (fun y hy=>G y (hown y hy) (fun hh=>h.du (by rw [← hh]; exact hy))),h.ek,h.ep,h.ecl,h.est,by rw [G rc h.lc h.dcu]; exact h.hrc,?_,h.dc,h.du,h.dcu,fun hh=>(nomatch hh),fun q hq=>?_,h.hp0,fun q hq=>?_⟩,⟨by simp,fun y hy hn=>G y hy (fun hh=>hn (.inr (.inr (.inl hh)))),fun y hy hh=>?_⟩,.inl hlu⟩
   ·rw [List.getElem?_append_left (by simpa using hlu)]
    exact List.getElem?_set_self hlu
   ·injection hq with hq; subst hq
    refine ⟨_,rfl,by rw [List.getElem?_append_right (by simp)]; simp,fun hh=>?_,fun hh=>?_,fun hh=>?_⟩
    ·have:=hown _ hh; omega
    ·have:=h.lc; omega
    ·omega
   ·obtain ⟨s,a,b,c,d,f⟩:=h.hp1 q hq
    exact ⟨s,a,by rw [G q (get_lt b) f]; exact b,c,d,f⟩
   ·rcases hh with hh | hh | hh | hh
    ·exact .inl hh
    ·exact .inr (.inl hh)
    ·exact .inr (.inr (.inl hh))
    ·injection hh with hh; omega
theorem rr_take_none {er rc ru sg x e sp hp} (h : RR er rc ru sg x e sp hp) (hs : x.sh = none) :
    ∃ K,zo K ∧ LL.call n_scan_Runner_Take [.p ru 0] sg sg.length=some (.t [.a [.i .i64 0,.i .i64 0,.l K 4 [],.i .i64 0,.b false],.b false],sg,sg.length):=by
 have:=h.sh_none hs
 subst this
 exact c_scan_Take_none rc ru sp x.tk sg h.hru
theorem rr_take {er rc ru sg x e sp hp s} (h : RR er rc ru sg x e sp hp) (hs : x.sh = some s) :
    ∃ sg',LL.call n_scan_Runner_Take [.p ru 0] sg sg.length=some (.t [.a (eSht s),.b true],sg',sg.length) ∧ RR er rc ru sg' { x with sh:=none } e sp none ∧ Fr (ownN er rc ru e sp) (ownN er rc ru e sp) sg sg' ∧ sg'.length=sg.length:=by
 obtain ⟨q,rfl,hq,_⟩:=h.sh_some hs
 have T:=c_scan_Take rc ru q sp x.tk s sg h.hru hq
 have G:∀ y,y ≠ ru → (sg.set ru (eRun rc sp none x.tk))[y]? = sg[y]? := fun y hy=>List.getElem?_set_ne (Ne.symm hy)
 refine ⟨_,T,⟨h.R.keep (fun y hy=>G y (fun hh=>h.du (by rw [← hh]; exact hy))),h.ek,h.ep,h.ecl,h.est,by rw [G rc h.dcu]; exact h.hrc,List.getElem?_set_self h.lu,h.dc,h.du,h.dcu,h.sp0,fun q hq=>?_,fun _=>rfl,fun q hq=>(nomatch hq)⟩,⟨by simp,fun y hy hn=>G y (fun hh=>hn (.inr (.inr (.inl hh)))),fun y hy hh=>hh⟩,by simp⟩
 obtain ⟨s,a,b,c,d,f⟩:=h.sp1 q hq
 exact ⟨s,a,by rw [G q f]; exact b,c,d,f⟩
theorem RR.shot {er rc ru sg x e q hp sg'} (h : RR er rc ru sg x e (some q) hp) (b : Bool) {b' : Bool} (hb : b = b') (s' : Sht) (hl : sg'.length = sg.length + 1) (hru : sg'[ru]? = some (eRun rc none (some sg.length) x.tk)) (hsh : sg'[sg.length]? = some (eSht s'))
    (her:sg'[er]? = some (eEng { e with cl:=b })) (ho:∀ y,y < sg.length → y ≠ ru → y ≠ er → y ≠ q → sg'[y]? = sg[y]?) :
    RR er rc ru sg' { x with sc:=none,sh:=some s',cl:=b' } { e with cl:=b } none (some sg.length) ∧ Fr (ownN er rc ru e (some q)) (ownN er rc ru { e with cl:=b } none) sg sg':=by
 obtain ⟨s0,q1,q2,q3,q4,q5⟩:=h.sp1 q rfl
 have hown:∀ y,own er e y → y < sg.length:=fun y hy=>h.R.lt hy
 refine ⟨⟨h.R.gate' b her (fun y hy hn=>ho y (hown y hy) (fun hh=>h.du (by rw [← hh]; exact hy)) hn (fun hh=>q3 (by rw [← hh]; exact hy))),h.ek,h.ep,hb,h.est,?_,hru,h.dc,h.du,h.dcu,fun _=>rfl,fun z hz=>(nomatch hz),fun hh=>(nomatch hh),fun z hz=>?_⟩,⟨by omega,fun y hy hn=>ho y hy (fun hh=>hn (.inr (.inr (.inl hh)))) (fun hh=>hn (.inl (.inl hh))) (fun hh=>hn (.inr (.inr (.inr (by rw [hh]))))),fun y hy hh=>?_⟩⟩
 ·rw [ho rc h.lc h.dcu (fun hh=>h.dc (.inl hh)) (Ne.symm q4)]; exact h.hrc
 ·injection hz with hz; subst hz
  refine ⟨s',rfl,hsh,fun hh=>?_,fun hh=>?_,fun hh=>?_⟩
  ·have:=hown _ hh; omega
  ·have:=h.lc; omega
  ·have:=h.lu; omega
 ·rcases hh with hh | hh | hh | hh
  ·exact .inl hh
  ·exact .inr (.inl hh)
  ·exact .inr (.inr (.inl hh))
  ·cases hh
theorem rr_step {i er rc ru sg x e q hp' s} (h : RR er rc ru sg x e (some q) hp') (hI : RI i x) (hi : i ≤ 5000) (hs : x.sc = some s) (busy : Nat) :
    ∃ sg' e' sp' h2 lo,LL.call n_scan_Runner_step [.p ru 0,.i .i64 busy] sg sg.length=some (.t [],sg',lo) ∧ RR er rc ru sg' (stepN x s busy) e' sp' h2 ∧ Fr (ownN er rc ru e (some q)) (ownN er rc ru e' sp') sg sg' ∧ Tkn sg sg' lo:=by
 obtain ⟨s0,q1,q2,q3,q4,q5⟩:=h.sp1 q rfl
 rw [hs] at q1; cases q1
 have S:=hI.sc s hs
 have d1:q ≠ er:=fun hh=>q3 (.inl hh)
 have d7:q ≠ e.m:=fun hh=>q3 (.inr (.inl hh))
 have d4:er ≠ ru:=fun hh=>h.du (.inl hh.symm)
 have d5:er ≠ rc:=fun hh=>h.dc (.inl hh.symm)
 have hl:legal e.k e.p=0:=by rw [h.ek,h.ep]; exact hI.leg
 have htr:=S.tr
 have hlf:=S.lf
 have hll:=S.ln
 have hkp:stepS e.k e.p x.M s busy=stepS x.k x.p x.M s busy:=by rw [h.ek,h.ep]
 by_cases hw:s.quiet=true ∧ 0 < (busy:Int)
 ·have hst:stepS x.k x.p x.M s busy=(s,0):=by unfold stepS; rw [if_pos hw]
  have hx:stepN x s busy=x:=by
   rw [stepN_0 hst,← hs]
  rw [hx]
  exact ⟨sg,e,some q,_,_,c_scan_step_wait er rc ru q hp' x.tk e x.M x.cs x.ats s sg h.R.h6 h.R.hr h.hrc h.hru q2 h.R.hm hI.mi.good d1 q4 q5 d4 d5 h.dcu d7 hl busy hw,h,.rfl' _ _,.inr rfl⟩
 ·by_cases ha:s.at_ < 0
  ·have htw:=S.two
   have hln:=S.len hI.leg ha
   obtain ⟨l',hl'⟩:∃ l',l'=s.l ++ [⟨(cellsS x.k x.p s.l s.l.length).1,rdM x.M (cellsS x.k x.p s.l s.l.length).1⟩] := ⟨_,rfl⟩
   have hll':l'.length=s.l.length + 1:=by rw [hl']; simp
   have hnn:∀ y ∈ l',x.k=2 → 0 ≤ y.c.n ∧ y.c.n ≤ 1000000:=by
    intro y hy hk
    rw [hl'] at hy
    rcases List.mem_append.1 hy with hy | hy
    ·exact S.nn y hy hk
    ·simp at hy; subst hy; exact rdM_ok2 hI.mi (by omega) hk _
   have htl:two2 x.k l':=by
    intro hk hl2
    match hs2:l',hl2 with
    | a :: b :: r,_ =>
     have h1:=hnn a (by simp) hk
     have h2:=hnn b (by simp) hk
     exact ⟨a,b,r,rfl,h1.1,h1.2,h2.1,h2.2⟩
   have hst:stepS x.k x.p x.M s busy=(if (cellsS x.k x.p l' l'.length).2 then ({ s with l:=l' },0) else ({ s with l:=l',at_:=0 },if s.quiet then 1 else 0)):=by
    unfold stepS; rw [if_neg hw,if_pos ha,← hl',← hll']
   cases hc:(cellsS x.k x.p l' l'.length).2 with
   | true =>
    rw [hc] at hst
    simp only [if_true] at hst
    have C:=c_scan_step_read er rc ru q hp' x.tk e x.M x.cs x.ats s sg h.R.h6 h.R.hr h.hrc h.hru q2 h.R.hm hI.mi.good d1 q4 q5 d4 d5 h.dcu d7 hl busy hw ha (by omega) (by rw [h.ek]; exact htw) { s with l:=l' } (by rw [hkp,hst]) (by rw [h.ek]; exact htl) (by rw [hkp,hst])
    have K:=h.scn (s':={ s with l:=l' }) hs
    refine ⟨_,e,some q,hp',_,C,?_,K.2,.inr (by simp)⟩
    rw [stepN_0 hst]; exact K.1
   | false =>
    rw [hc] at hst
    simp only [Bool.false_eq_true,if_false] at hst
    cases hqt:s.quiet with
    | false =>
     rw [hqt] at hst
     simp only [Bool.false_eq_true,if_false] at hst
     have C:=c_scan_step_read er rc ru q hp' x.tk e x.M x.cs x.ats s sg h.R.h6 h.R.hr h.hrc h.hru q2 h.R.hm hI.mi.good d1 q4 q5 d4 d5 h.dcu d7 hl busy hw ha (by omega) (by rw [h.ek]; exact htw) { s with l:=l',at_:=0 } (by rw [hkp,hst,← hqt]) (by rw [h.ek]; exact htl) (by rw [hkp,hst])
     have K:=h.scn (s':={ s with l:=l',at_:=0 }) hs
     refine ⟨_,e,some q,hp',_,C,?_,K.2,.inr (by simp)⟩
     rw [stepN_0 hst,← hqt]; exact K.1
    | true =>
     rw [hqt] at hst
     simp only [if_true] at hst
     obtain ⟨sg',C,k1,k2,k3,k4,k5⟩:=c_scan_step_readdone er rc ru q hp' x.tk e x.M x.cs x.ats s sg h.R.h6 h.R.hr h.hrc h.hru q2 h.R.hm hI.mi.good d1 q4 q5 d4 d5 h.dcu d7 hl busy hw ha (by omega) (by rw [h.ek]; exact htw) l' (by rw [h.ek,h.ep]; exact hl') (by rw [h.ek]; exact htl) hqt (by rw [h.ek,h.ep]; exact hc) (by omega) (by omega)
     rw [h.ek,h.ep] at k3
     have K:=h.shot _ (by rw [h.ecl]) _ k1 k2 k3 k4 k5
     refine ⟨_,_,none,some sg.length,_,C,?_,K.2,.inl h.lu⟩
     have K1:=K.1
     rw [stepN_1 hst]
     simp only [shotS,hqt,if_true,Bool.true_and]
     exact K1
  ·have hp:=S.pos (by omega)
   obtain ⟨n,hn⟩:∃ n:Nat,s.at_=n:=⟨s.at_.toNat,by omega⟩
   have hnl:n < s.l.length:=by omega
   obtain ⟨y,hy⟩:∃ y,s.l[n]? = some y:=⟨s.l[n],List.getElem?_eq_getElem hnl⟩
   have hst:stepS x.k x.p x.M s busy=if (rdM x.M y.at_).v=y.c.v then ({ s with at_:=s.at_ + 1 },if s.at_ + 1=s.l.length then 1 else 0) else (s,2):=by
    unfold stepS; rw [if_neg hw,if_neg ha,hn]; simp only [Int.toNat_natCast,hy]
   by_cases hv:(rdM x.M y.at_).v=y.c.v
   ·rw [if_pos hv] at hst
    by_cases hlast:n + 1=s.l.length
    ·rw [if_pos (by omega)] at hst
     obtain ⟨sg',C,k1,k2,k3,k4,k5⟩:=c_scan_step_last er rc ru q hp' x.tk e x.M x.cs x.ats s sg h.R.h6 h.R.hr h.hrc h.hru q2 h.R.hm hI.mi.good d1 q4 q5 d4 d5 h.dcu d7 hl busy hw n hn y hy (by omega) hv hlast (by omega) (by omega)
     rw [h.ek,h.ep] at k3
     have K:=h.shot _ (by rw [h.ecl]) _ k1 k2 k3 k4 k5
     refine ⟨_,_,none,some sg.length,_,C,?_,K.2,.inl h.lu⟩
     have K1:=K.1
     rw [stepN_1 hst]
     exact K1
    ·rw [if_neg (by omega)] at hst
     have C:=c_scan_step_next er rc ru q hp' x.tk e x.M x.cs x.ats s sg h.R.h6 h.R.hr h.hrc h.hru q2 h.R.hm hI.mi.good d1 q4 q5 d4 d5 h.dcu d7 hl busy hw n hn y hy (by omega) hv hlast
     have K:=h.scn (s':={ s with at_:=n + 1 }) hs
     refine ⟨_,e,some q,hp',_,C,?_,K.2,.inr (by simp)⟩
     rw [stepN_0 hst,hn]; exact K.1
   ·rw [if_neg hv] at hst
    have C:=c_scan_step_fail er rc ru q hp' x.tk e x.M x.cs x.ats s sg h.R.h6 h.R.hr h.hrc h.hru q2 h.R.hm hI.mi.good d1 q4 q5 d4 d5 h.dcu d7 hl busy hw n hn y hy (by omega) hv (by have:=S.lq hp.2; omega)
    rw [h.ecl] at C
    have K:=h.scn (s':=failS s x.cl) hs
    by_cases h1:s.left=1
    ·rw [if_pos h1] at C
     have K2:=K.1.clo true
     refine ⟨_,_,some q,hp',_,C,?_,K.2.trans K2.2,.inr (by simp)⟩
     rw [stepN_2 hst,if_pos h1]
     exact K2.1
    ·rw [if_neg h1] at C
     refine ⟨_,_,some q,hp',_,C,?_,K.2,.inr (by simp)⟩
     rw [stepN_2 hst,if_neg h1]
     exact K.1
end Go.AM

namespace Go.AM
def evN (x:RnS) (pick:Int):D × Bool:=match whoN x pick with
 | some (n,f)=>(eEv n f.o (stepP x.k x.p x.M f).a (stepP x.k x.p x.M f).d,true)
 | none=>match x.sc with
  | none=>(eEv 0 ⟨0,⟨0,0⟩,0,0⟩ ⟨false,⟨0,0⟩,0⟩ false,false)
  | some _=>(.a [.i .i64 (-1),.i .i64 0,.f .f64 0,.i .i64 0,.i .i64 0,.i .i64 0,.b false,.b false,.f .f64 0,.i .i64 0,.i .i64 0],true)
theorem pickL_nil (pick:Int):pickL [] pick=none:=rfl
theorem who_none {x:RnS} {pick:Int} {s:Scn} (hs:x.sc=some s) (h:¬ into pick ((busyO x.fs 0).length + 1) < (busyO x.fs 0).length):whoN x pick=none:=by
 unfold whoN
 simp only [hs]
 split
 ·rfl
 ·split
  ·rw [if_pos ⟨rfl,h⟩]
  ·rfl
theorem who_some {x:RnS} {pick:Int} {s:Scn} (hs:x.sc=some s) (h:into pick ((busyO x.fs 0).length + 1) < (busyO x.fs 0).length) {n:Nat} {f:FrR} (hn:pickL (busyO x.fs 0) (into pick ((busyO x.fs 0).length + 1))=some n) (hf:x.fs[n]? = some (some f)):whoN x pick=some (n,f):=by
 unfold whoN
 simp only [hs,hn,hf]
 rw [if_neg (fun hh=>hh.2 h)]
theorem who_one {x:RnS} {pick:Int} (hs:x.sc=none) {n:Nat} {f:FrR} (hn:pickL (busyO x.fs 0) pick=some n) (hf:x.fs[n]? = some (some f)):whoN x pick=some (n,f):=by
 unfold whoN
 simp only [hs,hn,hf]
 rw [if_neg (fun hh=>by simp at hh)]
set_option maxHeartbeats 4000000 in
theorem rr_pick {i er rc ru sg x e sp hp} (h : RR er rc ru sg x e sp hp) (hI : RI i x) (hi : i ≤ 990) (pick : Int) :
    ∃ sg' e' sp' h2 lo,LL.call n_scan_Runner_Pick [.p ru 0,.i .i64 pick] sg sg.length=some (.t [(evN x pick).1,.b (evN x pick).2],sg',lo) ∧ RR er rc ru sg' (pickN x pick) e' sp' h2 ∧ Fr (ownN er rc ru e sp) (ownN er rc ru e' sp') sg sg' ∧ Tkn sg sg' lo:=by
 have htk:=hI.tk
 have B:=c_engine_Busy e h.R.h6 sg er h.R.hr
 rw [h.R.busy] at B
 have hcs:x.cs.length ≤ 1000:=by have:=hI.cs; omega
 have hru:=h.hru
 have hrc:=h.hrc
 have w1:IntKind.i64.wrap ((x.tk:Int) + 1)=(x.tk:Int) + 1:=wrap64 (by omega)
 have hbl:(busyO x.fs 0).length ≤ 6:=by rw [← h.R.f6]; exact busyO_len _ _
 have htake:∀ l:List (List D),l.length=sg.length → List.take sg.length l=l:=fun l hl=>List.take_of_length_le (by omega)
 cases hs:x.sc with
 | none =>
  have:=h.sc_none hs
  subst this
  by_cases hb:busyO x.fs 0=[]
  ·have hw:whoN x pick=none:=by unfold whoN; simp only [hs,hb,pickL_nil]
   have P:=c_history_Pick_none er rc e x.M x.fs x.cs x.ats sg h.R h.hrc h.dc hI.a6 hcs pick hb
   have he:evN x pick=(eEv 0 ⟨0,⟨0,0⟩,0,0⟩ ⟨false,⟨0,0⟩,0⟩ false,false):=by unfold evN; simp only [hw,hs]
   have hx:pickN x pick=x:=by unfold pickN; simp only [hw,hs]
   rw [he,hx]
   refine ⟨sg,e,none,hp,sg.length,?_,h,.rfl' _ _,.inr rfl⟩
   simp [eRun,eFp] at hru
   simp [eRec] at hrc
   simp [eEv] at P
   refine wp_call e_scan_Runner_Pick rfl ?_
   simp [F_scan_Runner_Pick,hru,hrc,B,P,eEv]
  ·obtain ⟨n,f,hn,hf⟩:=pick_some hb pick
   have hw:=who_one hs hn hf
   obtain ⟨sg1,e1,P,L,K1,K2⟩:=rr_pickE h hI (by omega) pick n hn f hf
   have he:evN x pick=(eEv n f.o (stepP x.k x.p x.M f).a (stepP x.k x.p x.M f).d,true):=by unfold evN; simp only [hw]
   have hx:pickN x pick={ pickE x n f with tk:=x.tk + 1 }:=by unfold pickN; simp only [hw]
   rw [he,hx]
   have T:=K1.tick (x.tk + 1)
   refine ⟨_,e1,none,hp,sg.length,?_,T.1,K2.trans T.2,.inr (by simp [L])⟩
   have hru1:=K1.hru
   simp only [pickE] at hru1
   generalize stepP x.k x.p x.M f=so at *
   have htk1:∀ l,List.take sg.length (sg1.set ru l)=sg1.set ru l:=fun l=>htake _ (by simp [L])
   simp [eRun,eFp] at hru hru1 ⊢
   simp [eRec] at hrc
   simp [eEv] at P
   refine wp_call e_scan_Runner_Pick rfl ?_
   simp [F_scan_Runner_Pick,hru,hrc,B,P,eEv,hru1,L,w1,htk1]
 | some s =>
  obtain ⟨q,rfl,hq,hq2⟩:=h.sc_some hs
  have T:=h.tick (x.tk + 1)
  obtain ⟨sg1,hsg1⟩:∃ sg1,sg1=sg.set ru (eRun rc (some q) hp ((x.tk + 1:Nat):Int)):=⟨_,rfl⟩
  have L1:sg1.length=sg.length:=by rw [hsg1]; simp
  rw [← hsg1] at T
  have I:=c_op_Into pick ((busyO x.fs 0).length + 1) (by omega) sg1
  rw [L1] at I
  have w2:IntKind.i64.wrap (((busyO x.fs 0).length:Int) + 1)=((busyO x.fs 0).length:Int) + 1:=wrap64 (by omega)
  have hru1:=T.1.hru
  have hrc1:=T.1.hrc
  by_cases hk:into pick ((busyO x.fs 0).length + 1) < (busyO x.fs 0).length
  ·have hb:busyO x.fs 0 ≠ [] := fun hh=>by
    rw [hh] at hk
    have:=into_rng pick (n:=1) (by omega)
    simp at hk; omega
   obtain ⟨n,f,hn,hf⟩:=pick_some hb (into pick ((busyO x.fs 0).length + 1))
   have hw:=who_some hs hk hn hf
   obtain ⟨sg2,e2,P,L2,K1,K2⟩:=rr_pickE (x:={ x with tk:=x.tk + 1 }) T.1 hI.tk1 (by omega) (into pick ((busyO x.fs 0).length + 1)) n hn f hf
   have he:evN x pick=(eEv n f.o (stepP x.k x.p x.M f).a (stepP x.k x.p x.M f).d,true):=by unfold evN; simp only [hw]
   have hx:pickN x pick={ pickE x n f with tk:=x.tk + 1 }:=by unfold pickN; simp only [hw]
   rw [he,hx]
   refine ⟨sg2,e2,some q,hp,sg.length,?_,K1,T.2.trans K2,.inr (by omega)⟩
   simp only at P
   rw [L1] at P
   generalize stepP x.k x.p x.M f=so at *
   have htk2:List.take sg.length sg2=sg2:=htake _ (by omega)
   simp [eRun,eFp] at hru hru1 hsg1
   simp [eRec] at hrc hrc1
   simp [eEv] at P
   refine wp_call e_scan_Runner_Pick rfl ?_
   simp [F_scan_Runner_Pick,hru,hrc,B,w1,w2,← hsg1,I,hk,hru1,L1,P,eEv,htk2]
  ·have hw:=who_none hs hk
   obtain ⟨sg2,e2,sp2,h2,lo,P,K1,K2,K3⟩:=rr_step (x:={ x with tk:=x.tk + 1 }) T.1 hI.tk1 (by omega) hs (busyO x.fs 0).length
   have he:evN x pick=(.a [.i .i64 (-1),.i .i64 0,.f .f64 0,.i .i64 0,.i .i64 0,.i .i64 0,.b false,.b false,.f .f64 0,.i .i64 0,.i .i64 0],true):=by unfold evN; simp only [hw,hs]
   have hx:pickN x pick={ stepN x s (busyO x.fs 0).length with tk:=x.tk + 1 }:=by unfold pickN; simp only [hw,hs]
   rw [he,hx]
   have hx2:stepN { x with tk:=x.tk + 1 } s (busyO x.fs 0).length={ stepN x s (busyO x.fs 0).length with tk:=x.tk + 1 }:=by
    unfold stepN
    split
    ·rfl
    ·split
     ·rfl
     ·rfl
   rw [hx2] at K1
   have hTk:Tkn sg sg2 (min sg.length lo):=by
    rcases K3 with h1 | h1
    ·left; omega
    ·right; omega
   refine ⟨sg2,e2,sp2,h2,min sg.length lo,?_,K1,T.2.trans K2,hTk⟩
   rw [L1] at P
   have htk2:sg.length ≤ lo → List.take sg.length sg2=sg2:=fun hh=>hTk.tk rfl (by omega)
   simp [eRun,eFp] at hru hru1 hsg1
   simp [eRec] at hrc hrc1
   refine wp_call e_scan_Runner_Pick rfl ?_
   simp [F_scan_Runner_Pick,hru,hrc,B,w1,w2,← hsg1,I,hk,hru1,L1,P]
   exact fun hh=>htk2 (by omega)
end Go.AM

namespace Go.AM
def rn0 (k:Int) (p:Nat):RnS:=⟨k,p,⟨[],0⟩,[none,none,none,none,none,none],false,0,[],[0,0,0,0,0,0],none,none,0⟩
theorem c_scan_New (k p : Int) (sg : List (List D)) : LL.call n_scan_New [.i .i64 k, .i .i64 p] sg sg.length =
    if legal k p=0 then some (.t [.p (sg.length + 3) 0,.i .i64 0],sg ++ [eMem ⟨[],0⟩,eEng (newE k p.toNat sg.length),eRec (sg.length + 1) [] [0,0,0,0,0,0],eRun (sg.length + 2) none none 0],sg.length)
    else some (.t [.nilp,.i .i64 (legal k p)],sg,sg.length):=by
 have N:=c_engine_New k p sg
 by_cases h:legal k p=0
 ·rw [if_pos h] at N ⊢
  obtain ⟨m,hm⟩:∃ m,m=eMem ⟨[],0⟩:=⟨_,rfl⟩
  obtain ⟨e,he⟩:∃ e,e=eEng (newE k p.toNat sg.length):=⟨_,rfl⟩
  rw [← hm,← he] at N ⊢
  have H:=c_history_Of (sg.length + 1) (sg ++ [m,e])
  have S:=c_scan_Of (sg.length + 2) (sg ++ [m,e] ++ [eRec (sg.length + 1) [] [0,0,0,0,0,0]])
  simp at H S
  refine wp_call e_scan_New rfl ?_
  simp [F_scan_New,N,H,S]
 ·rw [if_neg h] at N ⊢
  have hb:(legal k p != 0)=true:=by simp [h]
  refine wp_call e_scan_New rfl ?_
  simp [F_scan_New,N,hb]
theorem nn6:∀ (i:Nat) (q:Nat),([none,none,none,none,none,none] : List (Option Nat))[i]? ≠ some (some q):=by
 intro i q h
 have:i=0 ∨ i=1 ∨ i=2 ∨ i=3 ∨ i=4 ∨ i=5 ∨ 6 ≤ i:=by omega
 rcases this with rfl | rfl | rfl | rfl | rfl | rfl | h6 <;> first | (simp at h; done) | (rw [List.getElem?_eq_none (by simpa using h6)] at h; cases h)
theorem nf6:∀ (i:Nat) (q:FrR),([none,none,none,none,none,none] : List (Option FrR))[i]? ≠ some (some q):=by
 intro i q h
 have:i=0 ∨ i=1 ∨ i=2 ∨ i=3 ∨ i=4 ∨ i=5 ∨ 6 ≤ i:=by omega
 rcases this with rfl | rfl | rfl | rfl | rfl | rfl | h6 <;> first | (simp at h; done) | (rw [List.getElem?_eq_none (by simpa using h6)] at h; cases h)
theorem n06:∀ i:Nat,([none,none,none,none,none,none] : List (Option Nat))[i]? = some none → ([none,none,none,none,none,none] : List (Option FrR))[i]? = some none:=by
 intro i h
 have hi:i < 6:=(List.getElem?_eq_some_iff.1 h).1
 have:i=0 ∨ i=1 ∨ i=2 ∨ i=3 ∨ i=4 ∨ i=5:=by omega
 rcases this with rfl | rfl | rfl | rfl | rfl | rfl <;> rfl
theorem mi0 (k:Int) (i:Nat):MI k i ⟨[],0⟩:=by
 have z:∀ i:Int,rdM ⟨[],0⟩ i=zC:=by intro i; simp [rdM]
 exact ⟨good_nil,by simp,fun j=>by simp [z,zC]; exact (nb_le k i).1,fun _ i _ h=>by simp [z,zC] at h⟩
theorem ri0 {k:Int} {p:Nat} (hl:legal k p=0):RI 0 (rn0 k p) :=
 ⟨hl,by simp [rn0],mi0 k 0,fun j f h=>absurd h (nf6 j f),by simp [rn0],rfl,by simp [rn0],by simp [rn0],fun s h=>by simp [rn0] at h,.inl rfl⟩
theorem rr0 (k:Int) (p:Nat) (sg:List (List D)):RR (sg.length + 1) (sg.length + 2) (sg.length + 3) (sg ++ [eMem ⟨[],0⟩,eEng (newE k p sg.length),eRec (sg.length + 1) [] [0,0,0,0,0,0],eRun (sg.length + 2) none none 0]) (rn0 k p) (newE k p sg.length) none none:=by
 have ho:∀ y,own (sg.length + 1) (newE k p sg.length) y → y=sg.length + 1 ∨ y=sg.length:=by
  rintro y (h | h | ⟨i,h⟩)
  ·exact .inl h
  ·exact .inr h
  ·exact absurd h (nn6 i y)
 refine ⟨⟨by simp,by simp [newE,rn0],rfl,rfl,fun i q h=>absurd h (nn6 i q),n06,by simp [newE],fun i q h=>absurd h (nn6 i q),fun i j q h=>absurd h (nn6 i q)⟩,rfl,rfl,rfl,rfl,by simp [rn0],by simp [rn0],fun h=>?_,fun h=>?_,by omega,fun _=>rfl,fun q h=>(nomatch h),fun _=>rfl,fun q h=>(nomatch h)⟩
 ·rcases ho _ h with h | h <;> omega
 ·rcases ho _ h with h | h <;> omega
end Go.AM

namespace Go.AM
theorem rr_scanning {er rc ru sg x e sp hp} (h:RR er rc ru sg x e sp hp):LL.call n_scan_Runner_Scanning [.p ru 0] sg sg.length=some (.b x.sc.isSome,sg,sg.length):=by
 have hru:=h.hru
 cases hs:x.sc with
 | none =>
  have:=h.sc_none hs
  subst this
  simp [eRun,eFp] at hru
  refine wp_call e_scan_Runner_Scanning rfl ?_
  simp [F_scan_Runner_Scanning,hru]
 | some s =>
  obtain ⟨q,rfl,_⟩:=h.sc_some hs
  simp [eRun,eFp] at hru
  refine wp_call e_scan_Runner_Scanning rfl ?_
  simp [F_scan_Runner_Scanning,hru]
theorem rr_ticks {er rc ru sg x e sp hp} (h:RR er rc ru sg x e sp hp):LL.call n_scan_Runner_Ticks [.p ru 0] sg sg.length=some (.i .i64 x.tk,sg,sg.length):=by
 have hru:=h.hru
 simp [eRun,eFp] at hru
 refine wp_call e_scan_Runner_Ticks rfl ?_
 simp [F_scan_Runner_Ticks,hru]
structure Fin (er rc ru:Nat) (sg:List (List D)) (cl:Bool) (y:Xr):Prop where
 s:LL.call n_scan_Runner_Scanning [.p ru 0] sg sg.length=some (.b y.on,sg,sg.length)
 q:LL.call n_scan_Runner_Quiet [.p ru 0] sg sg.length=some (.b (y.on && y.qu),sg,sg.length)
 c:LL.call n_engine_Engine_Closed [.p er 0] sg sg.length=some (.b cl,sg,sg.length)
 t:LL.call n_scan_Runner_Ticks [.p ru 0] sg sg.length=some (.i .i64 y.tick,sg,sg.length)
 ru:∃ z1 z2 z3,sg[ru]? = some [.p rc 0,z1,z2,z3]
 rc:∃ l,sg[rc]? = some (.p er 0 :: l)
theorem Fin.of {er rc ru sg x e sp hp y} (h:RR er rc ru sg x e sp hp) (hy:XR x y):Fin er rc ru sg x.cl y:=by
 refine ⟨by rw [hy.on]; exact rr_scanning h,?_,rr_closed h,by rw [hy.tk]; exact rr_ticks h,⟨_,_,_,h.hru⟩,⟨_,h.hrc⟩⟩
 have:=rr_quiet h
 have e:quietN x=(y.on && y.qu):=by
  unfold quietN
  rw [hy.on]
  cases hs:x.sc with
  | none=>rfl
  | some s=>rw [(hy.sc s hs).2.2.1]; rfl
 rwa [e] at this
section
variable (er rc ru q:Nat) (K1 K2 K3 K4:K) (hK1:zo K1) (hK2:zo K2) (hK3:zo K3) (hK4:zo K4) (k:Int) (p:Nat) (ps:List Pt) (gs:List FrR) (cl:Bool) (y:Xr) (sg sg1:List (List D))
 (hq:sg[q]? = some (eBx ru K1 K2 K3 K4 k p ps gs cl y)) (hq1:sg1[q]? = some (eBx ru K1 K2 K3 K4 k p ps gs cl y)) (a:Act) (hll:sg1.length=sg.length)
include hK1 hK2 hK3 hK4 hq hq1 hll
set_option maxRecDepth 8000 in
set_option maxHeartbeats 4000000 in
theorem does_close (hk : (a.k % 256).tmod 21 = 17) (hC : LL.call n_scan_Runner_Close [.p ru 0] sg sg.length = some (.t [], sg1, sg.length))
    (F:Fin er rc ru (sg1.set q (eBx ru .z .z .z .z k p ps gs (gateX y cl true).2 (gateX y cl true).1)) (gateX y cl true).2 (gateX y cl true).1) :
    LL.call n_c_law16_Both_Does [.p q 0,eAct a] sg sg.length=some (.b true,sg1.set q (eBx ru .z .z .z .z k p ps gs (gateX y cl true).2 (gateX y cl true).1),sg.length):=by
 have G:=c_ref16_Gate k p ps gs cl y sg1 true
 obtain ⟨y',cl',hy⟩:∃ y' cl',gateX y cl true=(y',cl'):=⟨_,_,rfl⟩
 rw [hy] at G F ⊢
 simp only at G F ⊢
 obtain ⟨f1,f2,f3,f4,⟨z1,z2,z3,f5⟩,⟨zl,f6⟩⟩:=F
 have hlt:=get_lt hq1
 have w17:IntKind.i64.wrap 17=17:=by decide
 obtain ⟨s2,hs2⟩:∃ s2,s2=sg1.set q (eBx ru .z .z .z .z k p ps gs cl' y'):=⟨_,rfl⟩
 have hg:s2[q]? = some (eBx ru .z .z .z .z k p ps gs cl' y'):=by rw [hs2]; exact List.getElem?_set_self hlt
 have hl2:s2.length=sg.length:=by rw [hs2]; simp [hll]
 have hmin:min sg.length sg1.length=sg.length:=by omega
 have htk:List.take sg.length s2=s2:=List.take_of_length_le (by omega)
 rw [← hs2] at f1 f2 f3 f4 f5 f6 ⊢
 refine wp_call e_c_law16_Both_Does rfl ?_
 simp [eBx] at hq hq1 hs2 hg
 simp [eXr] at G
 cases hon:y'.on
 all_goals
  simp [hon] at f1 f2
  rw [hon] at hs2 hg
  simp [F_c_law16_Both_Does,eAct,i64_255,hk,w17,hq,hq1,hC,G,↓cp_zo hK1,↓cp_zo hK2,↓cp_zo hK3,↓cp_zo hK4,← hs2,hg,f1,f2,f3,f4,f5,f6,hon,hmin]
  simp [hl2,htk]
set_option maxRecDepth 8000 in
set_option maxHeartbeats 4000000 in
theorem does_open (hk : (a.k % 256).tmod 21 = 18) (hC : LL.call n_scan_Runner_Open [.p ru 0] sg sg.length = some (.t [], sg1, sg.length))
    (F:Fin er rc ru (sg1.set q (eBx ru .z .z .z .z k p ps gs (gateX y cl false).2 (gateX y cl false).1)) (gateX y cl false).2 (gateX y cl false).1) :
    LL.call n_c_law16_Both_Does [.p q 0,eAct a] sg sg.length=some (.b true,sg1.set q (eBx ru .z .z .z .z k p ps gs (gateX y cl false).2 (gateX y cl false).1),sg.length):=by
 have G:=c_ref16_Gate k p ps gs cl y sg1 false
 obtain ⟨y',cl',hy⟩:∃ y' cl',gateX y cl false=(y',cl'):=⟨_,_,rfl⟩
 rw [hy] at G F ⊢
 simp only at G F ⊢
 obtain ⟨f1,f2,f3,f4,⟨z1,z2,z3,f5⟩,⟨zl,f6⟩⟩:=F
 have hlt:=get_lt hq1
 have w17:IntKind.i64.wrap 18=18:=by decide
 obtain ⟨s2,hs2⟩:∃ s2,s2=sg1.set q (eBx ru .z .z .z .z k p ps gs cl' y'):=⟨_,rfl⟩
 have hg:s2[q]? = some (eBx ru .z .z .z .z k p ps gs cl' y'):=by rw [hs2]; exact List.getElem?_set_self hlt
 have hl2:s2.length=sg.length:=by rw [hs2]; simp [hll]
 have hmin:min sg.length sg1.length=sg.length:=by omega
 have htk:List.take sg.length s2=s2:=List.take_of_length_le (by omega)
 rw [← hs2] at f1 f2 f3 f4 f5 f6 ⊢
 refine wp_call e_c_law16_Both_Does rfl ?_
 simp [eBx] at hq hq1 hs2 hg
 simp [eXr] at G
 cases hon:y'.on
 all_goals
  simp [hon] at f1 f2
  rw [hon] at hs2 hg
  simp [F_c_law16_Both_Does,eAct,i64_255,hk,w17,hq,hq1,hC,G,↓cp_zo hK1,↓cp_zo hK2,↓cp_zo hK3,↓cp_zo hK4,← hs2,hg,f1,f2,f3,f4,f5,f6,hon,hmin]
  simp [hl2,htk]
omit hq1 hll in
set_option maxRecDepth 8000 in
set_option maxHeartbeats 4000000 in
theorem does_start (hk : (a.k % 256).tmod 21 = 19) (sg1 : K → K → List (List D)) (lo : K → K → Nat) (hru : ∀ K3 K4, zo K3 → zo K4 → LL.call n_scan_Runner_Start [.p ru 0, .i .i64 a.p] (sg.set q (eBx ru .z .z K3 K4 k p ps gs cl (startX y a.p).1)) sg.length = some (.i .i64 (startX y a.p).2, sg1 K3 K4, lo K3 K4))
    (hq1:∀ K3 K4,zo K3 → zo K4 → (sg1 K3 K4)[q]? = some (eBx ru .z .z K3 K4 k p ps gs cl (startX y a.p).1)) (hl1:∀ K3 K4,zo K3 → zo K4 → sg.length ≤ (sg1 K3 K4).length) (hT:∀ K3 K4,zo K3 → zo K4 → sg.length ≤ lo K3 K4 → (sg1 K3 K4).length=sg.length) (hlt:q < sg.length)
    (F:∀ K3 K4,zo K3 → zo K4 → Fin er rc ru (sg1 K3 K4) cl (startX y a.p).1) :
    ∃ K3 K4,zo K3 ∧ zo K4 ∧ LL.call n_c_law16_Both_Does [.p q 0,eAct a] sg sg.length=some (.b true,sg1 K3 K4,min sg.length (lo K3 K4)):=by
 obtain ⟨C3,C4,c3,c4,G⟩:=c_ref16_Start k p ps gs cl y sg a.p
 have F:=F C3 C4 c3 c4
 have hru:=hru C3 C4 c3 c4
 have hg:=hq1 C3 C4 c3 c4
 have hl1:=hl1 C3 C4 c3 c4
 have hT:=hT C3 C4 c3 c4
 refine ⟨C3,C4,c3,c4,?_⟩
 generalize sg1 C3 C4=s2 at *
 generalize lo C3 C4=lo at *
 generalize startX y a.p=T at *
 obtain ⟨y',e⟩:=T
 simp only at G F hru hg ⊢
 obtain ⟨f1,f2,f3,f4,⟨z1,z2,z3,f5⟩,⟨zl,f6⟩⟩:=F
 have w17:IntKind.i64.wrap 19=19:=by decide
 obtain ⟨s1,hs1⟩:∃ s1,s1=sg.set q (eBx ru .z .z C3 C4 k p ps gs cl y'):=⟨_,rfl⟩
 have hg1:s1[q]? = some (eBx ru .z .z C3 C4 k p ps gs cl y'):=by rw [hs1]; exact List.getElem?_set_self (by omega)
 have hls1:s1.length=sg.length:=by rw [hs1]; simp
 rw [← hs1] at hru
 refine wp_call e_c_law16_Both_Does rfl ?_
 simp [eBx] at hq hs1 hg hg1
 simp [eXr] at G
 obtain ⟨m,hmin⟩:∃ m,min sg.length lo=m:=⟨_,rfl⟩
 rw [hmin]
 have htk:sg.length ≤ m → List.take sg.length s2=s2:=fun h=>List.take_of_length_le (by have:=hT (by omega); omega)
 rcases c3 with rfl | rfl <;> rcases c4 with rfl | rfl
 all_goals
  cases hon:y'.on
  all_goals
   simp [hon] at f1 f2 G
   rw [hon] at hs1 hg hg1
   simp [F_c_law16_Both_Does,eAct,i64_255,hk,w17,hq,G,hru,↓cp_zo hK1,↓cp_zo hK2,↓cp_zo hK3,↓cp_zo hK4,← hs1,hg,hg1,f1,f2,f3,f4,f5,f6,hon,hmin,hls1]
   have hm2:min m s2.length=m:=by omega
   rw [hm2]
   refine ⟨by omega,by omega,?_⟩
   by_cases hb:sg.length ≤ m
   ·rw [if_pos hb,htk hb]
   ·rw [if_neg hb]
end
end Go.AM

namespace Go.AM
section
variable (er rc ru q:Nat) (K1 K2 K3 K4:K) (hK1:zo K1) (hK2:zo K2) (hK3:zo K3) (hK4:zo K4) (k:Int) (p:Nat) (ps:List Pt) (gs:List FrR) (cl:Bool) (y:Xr) (sg sg1:List (List D)) (a:Act) (lo:Nat)
include hK1 hK2 hK3 hK4
set_option maxRecDepth 8000 in
set_option maxHeartbeats 4000000 in
theorem does_pick (hr : 3 ≤ (a.k % 256).tmod 21 ∧ (a.k % 256).tmod 21 < 17) (hP : LL.call n_c_law16_Both_pick [.p q 0, .i .i64 a.p] sg sg.length = some (.b true, sg1, lo)) (hq1 : sg1[q]? = some (eBx ru K1 K2 K3 K4 k p ps gs cl y))
    (hl1:sg.length ≤ sg1.length) (hT:sg.length ≤ lo → sg1.length=sg.length) (F:Fin er rc ru sg1 cl y) :
    LL.call n_c_law16_Both_Does [.p q 0,eAct a] sg sg.length=some (.b true,sg1,min sg.length lo):=by
 obtain ⟨f1,f2,f3,f4,⟨z1,z2,z3,f5⟩,⟨zl,f6⟩⟩:=F
 obtain ⟨j,hj⟩:∃ j,j=(a.k % 256).tmod 21:=⟨_,rfl⟩
 rw [← hj] at hr
 have wj:IntKind.i64.wrap j=j:=wrap64 (by omega)
 have h3:¬ j < 3:=by omega
 obtain ⟨m,hmin⟩:∃ m,min sg.length lo=m:=⟨_,rfl⟩
 rw [hmin]
 have hm2:min m sg1.length=m:=by omega
 refine wp_call e_c_law16_Both_Does rfl ?_
 simp [eBx] at hq1
 cases hon:y.on
 all_goals
  simp [hon] at f1 f2
  rw [hon] at hq1
  simp [F_c_law16_Both_Does,eAct,i64_255,← hj,wj,h3,hr.2,hP,hq1,f1,f2,f3,f4,f5,f6,hon,hmin]
  rw [hm2]
  refine ⟨by omega,by omega,?_⟩
  by_cases hb:sg.length ≤ m
  ·rw [if_pos hb,List.take_of_length_le (by have:=hT (by omega); omega)]
  ·rw [if_neg hb]
set_option maxRecDepth 8000 in
set_option maxHeartbeats 4000000 in
theorem does_take_none (hk : (a.k % 256).tmod 21 = 20) (hq : sg[q]? = some (eBx ru K1 K2 K3 K4 k p ps gs cl y)) (hh : y.has = false) (K : AM.K) (hT : LL.call n_scan_Runner_Take [.p ru 0] sg sg.length = some (.t [.a [.i .i64 0, .i .i64 0, .l K 4 [], .i .i64 0, .b false], .b false], sg, sg.length))
    (hKz:zo K) (F:Fin er rc ru sg cl y) :
    LL.call n_c_law16_Both_Does [.p q 0,eAct a] sg sg.length=some (.b true,sg,sg.length):=by
 obtain ⟨f1,f2,f3,f4,⟨z1,z2,z3,f5⟩,⟨zl,f6⟩⟩:=F
 have w20:IntKind.i64.wrap 20=20:=by decide
 have hlt:=get_lt hq
 refine wp_call e_c_law16_Both_Does rfl ?_
 simp [eBx] at hq
 rw [hh] at hq
 have hset:sg.set q [.p ru 0,.i .i64 k,.i .i64 p,.l K1 3 (ps.map ePt),.l K2 17 (gs.map eFr),.b cl,.b y.on,.b y.tw,.b y.qu,.b y.af,.i .i64 y.tries,.i .i64 y.left,.i .i64 y.at_,.i .i64 y.tick,.l K3 4 (y.l.map eSx),.b false,.l K4 4 (y.sl.map eSx),.i .i64 y.st,.b y.sq] = sg:=by
  obtain ⟨h1,h2⟩:=List.getElem?_eq_some_iff.1 hq
  rw [← h2]; exact List.set_getElem_self h1
 rcases hKz with rfl | rfl
 all_goals
  cases hon:y.on
  all_goals
   simp [hon] at f1 f2
   rw [hon] at hq hset
   simp [F_c_law16_Both_Does,eAct,i64_255,hk,w20,hT,hq,hset,f1,f2,f3,f4,f5,f6,hon]
set_option maxRecDepth 8000 in
set_option maxHeartbeats 4000000 in
theorem does_take (hk : (a.k % 256).tmod 21 = 20) (s : Sht) (hT : LL.call n_scan_Runner_Take [.p ru 0] sg sg.length = some (.t [.a (eSht s), .b true], sg1, sg.length)) (hl1 : sg1.length = sg.length)
    (hq:sg[q]? = some (eBx ru K1 K2 K3 K4 k p ps gs cl y)) (hq1:sg1[q]? = some (eBx ru K1 K2 K3 K4 k p ps gs cl y)) (hh:y.has=true) (e1:s.k=k) (e2:s.p=p) (e3:y.sl=s.l) (e4:y.st=s.tries) (e5:y.sq=s.quiet)
    (hn:s.l.length ≤ 100000) (hl:∀ z ∈ s.l,z.c.l.length ≤ 1000000 ∧ z.c.v < 9223372036854775808)
    (F:Fin er rc ru (sg1.set q (eBx ru K1 K2 K3 K4 k p ps gs cl { y with has:=false })) cl { y with has:=false }) :
    LL.call n_c_law16_Both_Does [.p q 0,eAct a] sg sg.length=some (.b true,sg1.set q (eBx ru K1 K2 K3 K4 k p ps gs cl { y with has:=false }),sg.length):=by
 obtain ⟨f1,f2,f3,f4,⟨z1,z2,z3,f5⟩,⟨zl,f6⟩⟩:=F
 have w20:IntKind.i64.wrap 20=20:=by decide
 have hlt:=get_lt hq1
 have I:=c_law16_IsShot s.k s.p s.tries s.quiet s.l hn hl sg1
 obtain ⟨s2,hs2⟩:∃ s2,s2=sg1.set q (eBx ru K1 K2 K3 K4 k p ps gs cl { y with has:=false }):=⟨_,rfl⟩
 have hg:s2[q]? = some (eBx ru K1 K2 K3 K4 k p ps gs cl { y with has:=false }):=by rw [hs2]; exact List.getElem?_set_self hlt
 have hl2:s2.length=sg.length:=by rw [hs2]; simp [hl1]
 have htk:List.take sg.length s2=s2:=List.take_of_length_le (by omega)
 have hmin:min sg.length sg1.length=sg.length:=by omega
 rw [← hs2] at f1 f2 f3 f4 f5 f6 ⊢
 refine wp_call e_c_law16_Both_Does rfl ?_
 rw [e1,e2] at I
 simp [eBx] at hq hq1 hs2 hg
 simp [eSht] at hT
 rw [e1,e2] at hT
 rw [hh] at hq1
 rw [e3,e4,e5] at hq1 hs2 hg
 cases hon:y.on
 all_goals
  simp [hon] at f1 f2
  rw [hon] at hq1 hs2 hg
  simp [F_c_law16_Both_Does,eAct,i64_255,hk,w20,hT,hq,hq1,I,↓cp_zo hK1,↓cp_zo hK2,↓cp_zo hK3,↓cp_zo hK4,← hs2,hg,f1,f2,f3,f4,f5,f6,hon,hmin]
  simp [hl2,htk]
set_option maxRecDepth 8000 in
set_option maxHeartbeats 4000000 in
theorem does_begin (hk : 1 ≤ k ∧ k ≤ 4) (hr : 0 ≤ (a.k % 256).tmod 21 ∧ (a.k % 256).tmod 21 < 3) (h6 : gs.length = 6) (hao : a.o.ok) (hru0 : ∃ z1 z2 z3, sg[ru]? = some [.p rc 0, z1, z2, z3])
    (hB:LL.call n_history_Recorder_Begin [.p rc 0,.i .i64 a.t,eOp (ownO k a.o)] sg sg.length=some (.i .i64 (begR k cl gs a.t (newF (ownO k a.o))),sg1,lo))
    (hq:sg[q]? = some (eBx ru K1 K2 K3 K4 k p ps gs cl y)) (hq1:sg1[q]? = some (eBx ru K1 K2 K3 K4 k p ps gs cl y)) (hl1:sg.length ≤ sg1.length) (hT:sg.length ≤ lo → sg1.length=sg.length)
    (gs':List FrR) (hgs:gs'=if begR k cl gs a.t (newF (ownO k a.o))=0 then gs.set a.t.toNat (newF (ownO k a.o)) else gs)
    (F:∀ K1 K2,Fin er rc ru (sg1.set q (eBx ru K1 K2 K3 K4 k p ps gs' cl y)) cl y) :
    ∃ K1 K2,zo K1 ∧ zo K2 ∧ LL.call n_c_law16_Both_Does [.p q 0,eAct a] sg sg.length=some (.b true,sg1.set q (eBx ru K1 K2 K3 K4 k p ps gs' cl y),min sg.length lo):=by
 obtain ⟨y1,y2,y3,hru⟩:=hru0
 have O1:=c_law06_Own k hk a.o sg
 have T1:=c_law06_Told k hk a.o hao sg1
 have R1:=c_ref13_Begin k p ps gs h6 cl a.t (newF (ownO k a.o)) sg1
 have hlt:=get_lt hq1
 rw [← hgs] at R1
 generalize begR k cl gs a.t (newF (ownO k a.o))=f at *
 obtain ⟨g,hg0⟩:∃ g,g=newF (ownO k a.o):=⟨_,rfl⟩
 rw [← hg0] at T1 R1
 obtain ⟨C2,hC2,c2⟩:∃ C2:AM.K,C2=(if f=0 then .o else .z) ∧ zo C2:=⟨_,rfl,by split; exact .inr rfl; exact .inl rfl⟩
 obtain ⟨f1,f2,f3,f4,⟨z1,z2,z3,f5⟩,⟨zl,f6⟩⟩:=F .z C2
 obtain ⟨s2,hs2⟩:∃ s2,s2=sg1.set q (eBx ru .z C2 K3 K4 k p ps gs' cl y):=⟨_,rfl⟩
 have hg:s2[q]? = some (eBx ru .z C2 K3 K4 k p ps gs' cl y):=by rw [hs2]; exact List.getElem?_set_self hlt
 have hl2:s2.length=sg1.length:=by rw [hs2]; simp
 obtain ⟨m,hmin⟩:∃ m,min sg.length lo=m:=⟨_,rfl⟩
 rw [hmin]
 have hm2:min m s2.length=m:=by omega
 rw [← hs2] at f1 f2 f3 f4 f5 f6
 refine ⟨.z,C2,.inl rfl,c2,?_⟩
 rw [← hs2]
 obtain ⟨j,hj⟩:∃ j,j=(a.k % 256).tmod 21:=⟨_,rfl⟩
 rw [← hj] at hr
 have wj:IntKind.i64.wrap j=j:=wrap64 (by omega)
 refine wp_call e_c_law16_Both_Does rfl ?_
 simp [eBx] at hq hq1 hs2 hg
 simp [eRw,eOp] at O1 T1 hB
 simp [eEr,eFr,eFrK] at R1
 simp [eFrK] at T1
 have fz:D.fzs (List.map (eFrK .z .z) gs)=List.map (eFrK .z .z) gs:=fzs_flat eFr gs
 have fz':D.fzs (List.map (eFrK .z .z) gs')=List.map (eFrK .z .z) gs':=fzs_flat eFr gs'
 have eFz:eFr=eFrK .z .z:=rfl
 have nr:D.nrs 0 (List.map (eFrK .z .z) gs')=true:=nrs_flat eFr 0 gs'
 by_cases h0:f=0
 ·simp [h0] at R1 hC2
  subst hC2
  rw [eFz] at hs2 hg
  cases hon:y.on
  all_goals
   simp [hon] at f1 f2
   rw [hon] at hs2 hg
   have hm3:m ≤ sg1.length:=by omega
   simp [F_c_law16_Both_Does,eAct,i64_255,← hj,wj,hr.2,hq,hq1,hru,O1,hB,T1,R1,↓cp_zo hK1,↓cp_zo hK2,↓cp_zo hK3,↓cp_zo hK4,eFr,eFrK,fz,fz',f1,f2,f3,f4,f5,f6,hon,hmin,h0,← hs2,hg,hm3,nr]
   rw [hm2]
   refine ⟨by omega,by omega,?_⟩
   by_cases hb:sg.length ≤ m
   ·rw [if_pos hb,List.take_of_length_le (by have:=hT (by omega); omega)]
   ·rw [if_neg hb]
 ·simp [h0] at R1 hC2
  subst hC2
  rw [eFz] at hs2 hg
  cases hon:y.on
  all_goals
   simp [hon] at f1 f2
   rw [hon] at hs2 hg
   have hm3:m ≤ sg1.length:=by omega
   simp [F_c_law16_Both_Does,eAct,i64_255,← hj,wj,hr.2,hq,hq1,hru,O1,hB,T1,R1,↓cp_zo hK1,↓cp_zo hK2,↓cp_zo hK3,↓cp_zo hK4,eFr,eFrK,fz,fz',f1,f2,f3,f4,f5,f6,hon,hmin,← hs2,hg,hm3,nr]
   rw [hm2]
   refine ⟨by omega,by omega,?_⟩
   by_cases hb:sg.length ≤ m
   ·rw [if_pos hb,List.take_of_length_le (by have:=hT (by omega); omega)]
   ·rw [if_neg hb]
end
end Go.AM

namespace Go.AM
structure Tri (i:Nat) (sg:List (List D)) (x:RnS) (e:Eng) (sp hp:Option Nat) (ps:List Pt) (y:Xr) (K1 K2 K3 K4:K):Prop where
 rr:RR 1 2 3 sg x e sp hp
 ri:RI i x
 gt:∀ s,x.sc=some s → s.quiet=true → x.cl=true
 hq:sg[4]? = some (eBx 3 K1 K2 K3 K4 x.k x.p ps (gsOf x.k x.fs) x.cl y)
 z1:zo K1
 z2:zo K2
 z3:zo K3
 z4:zo K4
 nq:¬ ownN 1 2 3 e sp 4
 nh:hp ≠ some 4
 mm:x.M=memOf ps
 pi:PI x.k ps
 ki:∀ (j:Nat) f,x.fs[j]? = some (some f) → KI x.k x.p f
 xr:XR x y
 os:∀ z,((∃ s,x.sc=some s ∧ z ∈ s.l) ∨ (∃ s,x.sh=some s ∧ z ∈ s.l)) → z.c.l.length ≤ 62 ∧ z.c.v < 4611686018427387904
 ol:∀ s,x.sh=some s → s.l.length ≤ 1001
theorem RR.put {sg x e sp hp} (h:RR 1 2 3 sg x e sp hp) (nq:¬ ownN 1 2 3 e sp 4) (nh:hp ≠ some 4) (l:List D):RR 1 2 3 (sg.set 4 l) x e sp hp:=by
 have G:∀ y,y ≠ 4 → (sg.set 4 l)[y]? = sg[y]? := fun y hy=>List.getElem?_set_ne (Ne.symm hy)
 refine ⟨h.R.keep (fun y hy=>G y (fun hh=>nq (.inl (by rw [← hh]; exact hy)))),h.ek,h.ep,h.ecl,h.est,by rw [G 2 (by omega)]; exact h.hrc,by rw [G 3 (by omega)]; exact h.hru,h.dc,h.du,h.dcu,h.sp0,fun q hq=>?_,h.hp0,fun q hq=>?_⟩
 ·obtain ⟨s,a,b,c⟩:=h.sp1 q hq
  exact ⟨s,a,by rw [G q (fun hh=>nq (.inr (.inr (.inr (by rw [hq,hh])))))]; exact b,c⟩
 ·obtain ⟨s,a,b,c⟩:=h.hp1 q hq
  exact ⟨s,a,by rw [G q (fun hh=>nh (by rw [hq,hh]))]; exact b,c⟩
theorem Tri.l4 {i sg x e sp hp ps y K1 K2 K3 K4} (h:Tri i sg x e sp hp ps y K1 K2 K3 K4):4 < sg.length:=get_lt h.hq
theorem gatN_same (x:RnS) (b:Bool):(gatN x b).k=x.k ∧ (gatN x b).p=x.p ∧ (gatN x b).fs=x.fs ∧ (gatN x b).M=x.M:=by
 unfold gatN
 split
 ·exact ⟨rfl,rfl,rfl,rfl⟩
 ·split <;> exact ⟨rfl,rfl,rfl,rfl⟩
theorem gatN_gt {x:RnS} (h:∀ s,x.sc=some s → s.quiet=true → x.cl=true) (b:Bool):∀ s,(gatN x b).sc=some s → s.quiet=true → (gatN x b).cl=true:=by
 cases hs:x.sc with
 | none=>rw [gatN_none hs]; intro s e; simp [hs] at e
 | some s =>
  cases hq:s.quiet with
  | true=>rw [gatN_q hs hq]; intro s' e _; exact h s hs hq
  | false=>rw [gatN_n hs hq]; intro s' e hq'; simp [hs] at e; subst e; rw [hq] at hq'; cases hq'
theorem gatN_ls (x:RnS) (b:Bool):(∀ z,(∃ s,(gatN x b).sc=some s ∧ z ∈ s.l) → ∃ s,x.sc=some s ∧ z ∈ s.l) ∧ (gatN x b).sh=x.sh:=by
 cases hs:x.sc with
 | none=>rw [gatN_none hs]; exact ⟨fun z hz=>by simp [hs] at hz,rfl⟩
 | some s =>
  cases hq:s.quiet with
  | true =>
   rw [gatN_q hs hq]
   refine ⟨fun z hz=>?_,rfl⟩
   obtain ⟨s',e,hm⟩:=hz
   injection e with e; subst e
   exact ⟨s,rfl,hm⟩
  | false =>
   rw [gatN_n hs hq]
   exact ⟨fun z hz=>by simpa [hs] using hz,rfl⟩
theorem Tri.gate {i sg x e sp hp ps y K1 K2 K3 K4} (h : Tri i sg x e sp hp ps y K1 K2 K3 K4) (c : Bool) (a : Act) (hk : (a.k % 256).tmod 21 = if c then 17 else 18) :
    ∃ sg' x' e' sp' hp' ps' y' C1 C2 C3 C4,LL.call n_c_law16_Both_Does [.p 4 0,eAct a] sg sg.length=some (.b true,sg',sg.length) ∧ Tri (i + 1) sg' x' e' sp' hp' ps' y' C1 C2 C3 C4 ∧ x'.k=x.k ∧ x'.p=x.p ∧ sg'.length=sg.length:=by
 have hl4:=h.l4
 obtain ⟨X1,X2⟩:=h.xr.gate c
 obtain ⟨g1,g2,g3,g4⟩:=gatN_same x c
 have key : ∀ (sg1 : List (List D)) (e' : Eng), RR 1 2 3 sg1 (gatN x c) e' sp hp → Fr (ownN 1 2 3 e sp) (ownN 1 2 3 e' sp) sg sg1 → sg1.length = sg.length →
     sg1[4]? = some (eBx 3 K1 K2 K3 K4 x.k x.p ps (gsOf x.k x.fs) x.cl y) ∧ ¬ ownN 1 2 3 e' sp 4 ∧
     Fin 1 2 3 (sg1.set 4 (eBx 3 .z .z .z .z x.k x.p ps (gsOf x.k x.fs) (gateX y x.cl c).2 (gateX y x.cl c).1)) (gateX y x.cl c).2 (gateX y x.cl c).1 ∧
     Tri (i + 1) (sg1.set 4 (eBx 3 .z .z .z .z x.k x.p ps (gsOf x.k x.fs) (gateX y x.cl c).2 (gateX y x.cl c).1)) (gatN x c) e' sp hp ps (gateX y x.cl c).1 .z .z .z .z:=by
  intro sg1 e' T1 F1 L1
  have n1:¬ ownN 1 2 3 e' sp 4:=fun hh=>h.nq (F1.own 4 hl4 hh)
  have P:=T1.put n1 h.nh (eBx 3 .z .z .z .z x.k x.p ps (gsOf x.k x.fs) (gateX y x.cl c).2 (gateX y x.cl c).1)
  have Fn:=Fin.of P X1
  rw [← X2] at Fn
  refine ⟨by rw [F1.same 4 hl4 h.nq]; exact h.hq,n1,Fn,⟨P,h.ri.gate c,gatN_gt h.gt c,?_,.inl rfl,.inl rfl,.inl rfl,.inl rfl,n1,h.nh,by rw [g4]; exact h.mm,by rw [g1]; exact h.pi,by rw [g1,g2,g3]; exact h.ki,X1,fun z hz=>h.os z (by
   obtain ⟨q1,q2⟩:=gatN_ls x c
   rcases hz with hz | hz
   ·exact .inl (q1 z hz)
   ·rw [q2] at hz; exact .inr hz),by rw [(gatN_ls x c).2]; exact h.ol⟩⟩
  rw [g1,g2,g3,← X2]
  exact List.getElem?_set_self (by omega)
 cases c with
 | true =>
  obtain ⟨sg1,e',P1,T1,F1,L1⟩:=rr_close h.rr
  obtain ⟨k1,k2,k3,k4⟩:=key sg1 e' T1 F1 L1
  exact ⟨_,_,_,_,_,_,_,_,_,_,_,does_close 1 2 3 4 K1 K2 K3 K4 h.z1 h.z2 h.z3 h.z4 x.k x.p ps (gsOf x.k x.fs) x.cl y sg sg1 h.hq k1 a L1 (by simpa using hk) P1 k3,k4,g1,g2,by simp [L1]⟩
 | false =>
  obtain ⟨sg1,e',P1,T1,F1,L1⟩:=rr_open h.rr
  obtain ⟨k1,k2,k3,k4⟩:=key sg1 e' T1 F1 L1
  exact ⟨_,_,_,_,_,_,_,_,_,_,_,does_open 1 2 3 4 K1 K2 K3 K4 h.z1 h.z2 h.z3 h.z4 x.k x.p ps (gsOf x.k x.fs) x.cl y sg sg1 h.hq k1 a L1 (by simpa using hk) P1 k3,k4,g1,g2,by simp [L1]⟩
theorem startN_same (x:RnS) (n:Int):(startN x n).1.k=x.k ∧ (startN x n).1.p=x.p ∧ (startN x n).1.fs=x.fs ∧ (startN x n).1.M=x.M:=by
 unfold startN
 split
 ·exact ⟨rfl,rfl,rfl,rfl⟩
 ·split <;> exact ⟨rfl,rfl,rfl,rfl⟩
theorem startN_gt {x:RnS} (h:∀ s,x.sc=some s → s.quiet=true → x.cl=true) (n:Int):∀ s,(startN x n).1.sc=some s → s.quiet=true → (startN x n).1.cl=true:=by
 unfold startN
 split
 ·exact h
 ·split
  ·exact h
  ·intro s e hq; injection e with e; subst e; cases hq
theorem startN_ls (x:RnS) (n:Int):(∀ z,(∃ s,(startN x n).1.sc=some s ∧ z ∈ s.l) → ∃ s,x.sc=some s ∧ z ∈ s.l) ∧ (startN x n).1.sh=x.sh:=by
 unfold startN
 split
 ·exact ⟨fun z hz=>hz,rfl⟩
 ·split
  ·exact ⟨fun z hz=>hz,rfl⟩
  ·refine ⟨fun z hz=>?_,rfl⟩
   obtain ⟨s',e,hm⟩:=hz
   injection e with e; subst e
   cases hm
theorem Tri.start {i sg x e sp hp ps y K1 K2 K3 K4} (h : Tri i sg x e sp hp ps y K1 K2 K3 K4) (a : Act) (hk : (a.k % 256).tmod 21 = 19) :
    ∃ sg' x' e' sp' hp' ps' y' C1 C2 C3 C4 lo,LL.call n_c_law16_Both_Does [.p 4 0,eAct a] sg sg.length=some (.b true,sg',lo) ∧ Tri (i + 1) sg' x' e' sp' hp' ps' y' C1 C2 C3 C4 ∧ x'.k=x.k ∧ x'.p=x.p ∧ lo ≤ sg.length ∧ sg.length ≤ sg'.length ∧ (sg.length ≤ lo → sg'.length=sg.length):=by
 have hl4:=h.l4
 obtain ⟨X1,X2,X3⟩:=h.xr.start a.p
 obtain ⟨g1,g2,g3,g4⟩:=startN_same x a.p
 have ch : ∀ KK : K × K, ∃ r : List (List D) × Option Nat × Nat, LL.call n_scan_Runner_Start [.p 3 0, .i .i64 a.p] (sg.set 4 (eBx 3 .z .z KK.1 KK.2 x.k x.p ps (gsOf x.k x.fs) x.cl (startX y a.p).1)) sg.length = some (.i .i64 (startN x a.p).2, r.1, r.2.2) ∧
     RR 1 2 3 r.1 (startN x a.p).1 e r.2.1 hp ∧ Fr (ownN 1 2 3 e sp) (ownN 1 2 3 e r.2.1) (sg.set 4 (eBx 3 .z .z KK.1 KK.2 x.k x.p ps (gsOf x.k x.fs) x.cl (startX y a.p).1)) r.1 ∧ Tkn (sg.set 4 (eBx 3 .z .z KK.1 KK.2 x.k x.p ps (gsOf x.k x.fs) x.cl (startX y a.p).1)) r.1 r.2.2:=by
  intro KK
  obtain ⟨sg',sp',lo,A,B,C,D⟩:=rr_start (h.rr.put h.nq h.nh (eBx 3 .z .z KK.1 KK.2 x.k x.p ps (gsOf x.k x.fs) x.cl (startX y a.p).1)) a.p
  rw [List.length_set] at A
  exact ⟨(sg',sp',lo),A,B,C,D⟩
 obtain ⟨f,hf⟩:=Classical.axiomOfChoice ch
 have h4:∀ KK:K × K,(f KK).1[4]? = some (eBx 3 .z .z KK.1 KK.2 x.k x.p ps (gsOf x.k x.fs) x.cl (startX y a.p).1):=by
  intro KK
  rw [(hf KK).2.2.1.same 4 (by simpa using hl4) h.nq]
  exact List.getElem?_set_self hl4
 have hle:∀ KK:K × K,sg.length ≤ (f KK).1.length:=fun KK=>by have:=(hf KK).2.2.1.len; simpa using this
 have hT:∀ KK:K × K,sg.length ≤ (f KK).2.2 → (f KK).1.length=sg.length:=fun KK hh=>by
  rcases (hf KK).2.2.2 with h1 | h1
  ·simp at h1; omega
  ·simpa using h1
 obtain ⟨C3,C4,c3,c4,P⟩:=does_start 1 2 3 4 K1 K2 K3 K4 h.z1 h.z2 h.z3 h.z4 x.k x.p ps (gsOf x.k x.fs) x.cl y sg h.hq a hk (fun A B=>(f (A,B)).1) (fun A B=>(f (A,B)).2.2)
  (fun A B _ _=>by rw [X2]; exact (hf (A,B)).1) (fun A B _ _=>h4 (A,B)) (fun A B _ _=>hle (A,B)) (fun A B _ _=>hT (A,B)) hl4 (fun A B _ _=>by
   have:=Fin.of (hf (A,B)).2.1 X1
   rw [X3] at this
   exact this)
 have n1:¬ ownN 1 2 3 e (f (C3,C4)).2.1 4:=fun hh=>h.nq ((hf (C3,C4)).2.2.1.own 4 (by simpa using hl4) hh)
 refine ⟨_,_,e,_,hp,ps,_,.z,.z,C3,C4,_,P,⟨(hf (C3,C4)).2.1,h.ri.start a.p,startN_gt h.gt a.p,?_,.inl rfl,.inl rfl,c3,c4,n1,h.nh,by rw [g4]; exact h.mm,by rw [g1]; exact h.pi,by rw [g1,g2,g3]; exact h.ki,X1,fun z hz=>h.os z (by
  obtain ⟨q1,q2⟩:=startN_ls x a.p
  rcases hz with hz | hz
  ·exact .inl (q1 z hz)
  ·rw [q2] at hz; exact .inr hz),by rw [(startN_ls x a.p).2]; exact h.ol⟩,g1,g2,by omega,hle (C3,C4),fun hh=>hT (C3,C4) (by omega)⟩
 rw [g1,g2,g3,X3]
 exact h4 (C3,C4)
theorem Tri.take {i sg x e sp hp ps y K1 K2 K3 K4} (h : Tri i sg x e sp hp ps y K1 K2 K3 K4) (a : Act) (hk : (a.k % 256).tmod 21 = 20) :
    ∃ sg' x' e' sp' hp' ps' y' C1 C2 C3 C4,LL.call n_c_law16_Both_Does [.p 4 0,eAct a] sg sg.length=some (.b true,sg',sg.length) ∧ Tri (i + 1) sg' x' e' sp' hp' ps' y' C1 C2 C3 C4 ∧ x'.k=x.k ∧ x'.p=x.p ∧ sg'.length=sg.length:=by
 have hl4:=h.l4
 cases hs:x.sh with
 | none =>
  obtain ⟨K,zK,P⟩:=rr_take_none h.rr hs
  have D:=does_take_none 1 2 3 4 K1 K2 K3 K4 h.z1 h.z2 h.z3 h.z4 x.k x.p ps (gsOf x.k x.fs) x.cl y sg a hk h.hq (by rw [h.xr.has,hs]; rfl) K P zK (Fin.of h.rr h.xr)
  exact ⟨_,_,_,_,_,_,_,_,_,_,_,D,{ h with ri:=h.ri.mono },rfl,rfl,rfl⟩
 | some s =>
  obtain ⟨sg1,P1,T1,F1,L1⟩:=rr_take h.rr hs
  obtain ⟨k1,k2,k3,k4,k5⟩:=h.xr.sh s hs
  have q1:sg1[4]? = some (eBx 3 K1 K2 K3 K4 x.k x.p ps (gsOf x.k x.fs) x.cl y):=by rw [F1.same 4 hl4 h.nq]; exact h.hq
  have P:=T1.put h.nq (by simp) (eBx 3 K1 K2 K3 K4 x.k x.p ps (gsOf x.k x.fs) x.cl { y with has:=false })
  have X:=h.xr.take
  have hol:=h.ol s hs
  have Fn:=Fin.of P X
  have D:=does_take 1 2 3 4 K1 K2 K3 K4 h.z1 h.z2 h.z3 h.z4 x.k x.p ps (gsOf x.k x.fs) x.cl y sg sg1 a hk s P1 L1 h.hq q1 (by rw [h.xr.has,hs]; rfl) k1 (by rw [k2]) k3 k4 k5 (by omega) (fun z hz=>by have:=h.os z (.inr ⟨s,hs,hz⟩); omega) Fn
  exact ⟨_,_,_,_,_,_,_,_,_,_,_,D,⟨P,h.ri.take,h.gt,List.getElem?_set_self (by omega),h.z1,h.z2,h.z3,h.z4,h.nq,by simp,h.mm,h.pi,h.ki,X,fun z hz=>h.os z (by
   rcases hz with hz | ⟨s',e,_⟩
   ·exact .inl hz
   ·cases e),fun s' e=>(nomatch e)⟩,rfl,rfl,by simp [L1]⟩
end Go.AM

namespace Go.AM
theorem Tri.nz {i sg x e sp hp ps y K1 K2 K3 K4} (h:Tri i sg x e sp hp ps y K1 K2 K3 K4):∀ f,some f ∈ x.fs → f.o.k ≠ 0:=by
 intro f hf
 obtain ⟨j,hj⟩:=List.mem_iff_getElem?.1 hf
 have:=(h.ri.fi j f hj).kd
 omega
theorem Tri.bz {i sg x e sp hp ps y K1 K2 K3 K4} (h:Tri i sg x e sp hp ps y K1 K2 K3 K4):busyR (gsOf x.k x.fs) 0=busyO x.fs 0:=busyR_O x.k x.fs 0 h.nz
theorem Tri.pl {i sg x e sp hp ps y K1 K2 K3 K4} (h:Tri i sg x e sp hp ps y K1 K2 K3 K4):ps.length ≤ i:=by
 have:=h.ri.mi.ck
 rw [h.mm,memOf_ck] at this
 exact this
theorem Tri.g6 {i sg x e sp hp ps y K1 K2 K3 K4} (h:Tri i sg x e sp hp ps y K1 K2 K3 K4):(gsOf x.k x.fs).length=6:=by rw [gsOf_len,h.rr.R.f6]
theorem Tkn.eqN {sg sg':List (List D)} {lo:Nat} (h:Tkn sg sg' lo):sg.length ≤ lo → sg'.length=sg.length:=fun hh=>by
 rcases h with h1 | h1
 ·omega
 ·exact h1
theorem begN_same (x : RnS) (t : Int) (o : Rw) : (begN x t o).1.k = x.k ∧ (begN x t o).1.p = x.p ∧ (begN x t o).1.cl = x.cl ∧ (begN x t o).1.M = x.M ∧ (begN x t o).1.sc = x.sc ∧ (begN x t o).1.sh = x.sh ∧ (begN x t o).2 = begO x.k x.cl x.fs t o ∧
    (begN x t o).1.fs=if begO x.k x.cl x.fs t o=0 then x.fs.set t.toNat (some (begF o)) else x.fs:=by
 unfold begN
 split
 ·rename_i h; exact ⟨rfl,rfl,rfl,rfl,rfl,rfl,h.symm,rfl⟩
 ·exact ⟨rfl,rfl,rfl,rfl,rfl,rfl,rfl,rfl⟩
theorem Tri.beg {i sg x e sp hp ps y K1 K2 K3 K4} (h : Tri i sg x e sp hp ps y K1 K2 K3 K4) (hi : i ≤ 900) (a : Act) (hk0 : 0 ≤ (a.k % 256).tmod 21) (hk : (a.k % 256).tmod 21 < 3) (hao : a.o.ok) :
    ∃ sg' x' e' sp' hp' ps' y' C1 C2 C3 C4 lo,LL.call n_c_law16_Both_Does [.p 4 0,eAct a] sg sg.length=some (.b true,sg',lo) ∧ Tri (i + 1) sg' x' e' sp' hp' ps' y' C1 C2 C3 C4 ∧ x'.k=x.k ∧ x'.p=x.p ∧ lo ≤ sg.length ∧ sg.length ≤ sg'.length ∧ (sg.length ≤ lo → sg'.length=sg.length):=by
 have hl4:=h.l4
 have hkr:1 ≤ x.k ∧ x.k ≤ 4:=legal_k h.ri.leg
 have hpr:=legal_p h.ri.leg
 obtain ⟨sg1,e1,lo,B,T1,F1,Tk⟩:=rr_beg h.rr h.ri (by omega) a.t (ownO x.k a.o)
 obtain ⟨g1,g2,g3,g4,g5,g6,g7,g8⟩:=begN_same x a.t (ownO x.k a.o)
 have n1:¬ ownN 1 2 3 e1 sp 4:=fun hh=>h.nq (F1.own 4 hl4 hh)
 have hb:=begR_O x.k x.cl x.fs a.t (ownO x.k a.o) h.nz
 have hq1:sg1[4]? = some (eBx 3 K1 K2 K3 K4 x.k x.p ps (gsOf x.k x.fs) x.cl y):=by rw [F1.same 4 hl4 h.nq]; exact h.hq
 rw [g7,← hb] at B
 have hll:sg.length ≤ sg1.length:=F1.len
 have hT:=Tk.eqN
 have hgs:gsOf x.k (begN x a.t (ownO x.k a.o)).1.fs=if begR x.k x.cl (gsOf x.k x.fs) a.t (newF (ownO x.k a.o))=0 then (gsOf x.k x.fs).set a.t.toNat (newF (ownO x.k a.o)) else gsOf x.k x.fs:=by
  rw [g8,hb,newF_g x.k]
  split
  ·rw [gsOf_set]
  ·rfl
 have X:=h.xr.beg a.t (ownO x.k a.o)
 obtain ⟨C1,C2,c1,c2,P⟩:=does_begin 1 2 3 4 K1 K2 K3 K4 h.z1 h.z2 h.z3 h.z4 x.k x.p ps (gsOf x.k x.fs) x.cl y sg sg1 a lo hkr ⟨hk0,hk⟩ h.g6 hao ⟨_,_,_,h.rr.hru⟩ B h.hq hq1 hll hT _ hgs (fun K1 K2=>by
  have:=Fin.of (T1.put n1 h.nh (eBx 3 K1 K2 K3 K4 x.k x.p ps (gsOf x.k (begN x a.t (ownO x.k a.o)).1.fs) x.cl y)) X
  rw [g3] at this
  exact this)
 refine ⟨_,_,e1,sp,hp,ps,y,C1,C2,K3,K4,_,P,⟨T1.put n1 h.nh _,h.ri.beg _ _ (fi_begin hkr _ hao),by rw [g5,g3]; exact h.gt,?_,c1,c2,h.z3,h.z4,n1,h.nh,by rw [g4]; exact h.mm,by rw [g1]; exact h.pi,?_,X,by rw [g5,g6]; exact h.os,by rw [g6]; exact h.ol⟩,g1,g2,Nat.min_le_left _ _,by rw [List.length_set]; exact hll,fun hh=>by rw [List.length_set]; exact hT (by omega)⟩
 ·rw [g1,g2,g3]; exact List.getElem?_set_self (by omega)
 ·rw [g1,g2,g8]
  split
  ·exact setD (k:=x.k) (i:=i) (P:=fun f=>KI x.k x.p f) h.ki (fun f hf=>by injection hf with hf; subst hf; exact ki_begin x.k (by omega) _)
  ·exact h.ki
theorem rr_pick_no {i er rc ru sg x e sp hp} (h : RR er rc ru sg x e sp hp) (hI : RI i x) (hi : i ≤ 990) (pick : Int) (hs : x.sc = none) (hb : busyO x.fs 0 = []) :
    LL.call n_scan_Runner_Pick [.p ru 0,.i .i64 pick] sg sg.length=some (.t [eEv 0 ⟨0,⟨0,0⟩,0,0⟩ ⟨false,⟨0,0⟩,0⟩ false,.b false],sg,sg.length):=by
 have B:=c_engine_Busy e h.R.h6 sg er h.R.hr
 rw [h.R.busy] at B
 have hcs:x.cs.length ≤ 1000:=by have:=hI.cs; omega
 have hru:=h.hru
 have hrc:=h.hrc
 have:=h.sc_none hs
 subst this
 have P:=c_history_Pick_none er rc e x.M x.fs x.cs x.ats sg h.R h.hrc h.dc hI.a6 hcs pick hb
 simp [eRun,eFp] at hru
 simp [eRec] at hrc
 simp [eEv] at P
 refine wp_call e_scan_Runner_Pick rfl ?_
 simp [F_scan_Runner_Pick,hru,hrc,B,P,eEv]
theorem who_cases (x : RnS) (pick : Int) : (whoN x pick = none ∧ x.sc = none ∧ busyO x.fs 0 = []) ∨ (∃ s, whoN x pick = none ∧ x.sc = some s ∧ ¬ into pick ((busyO x.fs 0).length + 1) < (busyO x.fs 0).length) ∨
    (∃ n f,whoN x pick=some (n,f) ∧ x.fs[n]? = some (some f) ∧ ((x.sc=none ∧ pickL (busyO x.fs 0) pick=some n) ∨ (x.sc.isSome=true ∧ into pick ((busyO x.fs 0).length + 1) < (busyO x.fs 0).length ∧ pickL (busyO x.fs 0) (into pick ((busyO x.fs 0).length + 1))=some n))):=by
 cases hs:x.sc with
 | none =>
  by_cases hb:busyO x.fs 0=[]
  ·exact .inl ⟨by unfold whoN; simp only [hs,hb,pickL_nil],rfl,hb⟩
  ·obtain ⟨n,f,hn,hf⟩:=pick_some hb pick
   exact .inr (.inr ⟨n,f,who_one hs hn hf,hf,.inl ⟨rfl,hn⟩⟩)
 | some s =>
  by_cases hk:into pick ((busyO x.fs 0).length + 1) < (busyO x.fs 0).length
  ·have hb:busyO x.fs 0 ≠ [] := fun hh=>by
    rw [hh] at hk
    have:=into_rng pick (n:=1) (by omega)
    simp at hk; omega
   obtain ⟨n,f,hn,hf⟩:=pick_some hb (into pick ((busyO x.fs 0).length + 1))
   exact .inr (.inr ⟨n,f,who_some hs hk hn hf,hf,.inr ⟨rfl,hk,hn⟩⟩)
  ·exact .inr (.inl ⟨s,who_none hs hk,rfl,hk⟩)
theorem stepS_ls {k:Int} {p:Nat} {M:Mem} {s:Scn} {P:Sn → Prop} (h:∀ z ∈ s.l,P z) (hr:∀ a j,P ⟨a,rdM M j⟩) (b:Int):(∀ z ∈ (stepS k p M s b).1.l,P z) ∧ (stepS k p M s b).1.l.length ≤ s.l.length + 1 ∧ (stepS k p M s b).1.quiet=s.quiet:=by
 have ha:∀ z ∈ s.l ++ [⟨(cellsS k p s.l s.l.length).1,rdM M (cellsS k p s.l s.l.length).1⟩],P z:=by
  intro z hz
  rcases List.mem_append.1 hz with hz | hz
  ·exact h z hz
  ·simp at hz; subst hz; exact hr _ _
 unfold stepS
 split
 ·exact ⟨h,by simp,rfl⟩
 ·split
  ·split
   ·exact ⟨ha,by simp,rfl⟩
   ·exact ⟨ha,by simp,rfl⟩
  ·split
   ·exact ⟨h,by simp,rfl⟩
   ·split
    ·exact ⟨h,by simp,rfl⟩
    ·exact ⟨h,by simp,rfl⟩
theorem stepN_same (x:RnS) (s:Scn) (b:Nat):(stepN x s b).k=x.k ∧ (stepN x s b).p=x.p ∧ (stepN x s b).M=x.M ∧ (stepN x s b).fs=x.fs:=by
 unfold stepN
 split
 ·exact ⟨rfl,rfl,rfl,rfl⟩
 ·split <;> exact ⟨rfl,rfl,rfl,rfl⟩
theorem stepN_ls {x:RnS} {s:Scn} {P:Sn → Prop} (h:∀ z ∈ s.l,P z) (hr:∀ a j,P ⟨a,rdM x.M j⟩) (hsh:x.sh=none) (b:Nat):(∀ s',(stepN x s b).sc=some s' → ∀ z ∈ s'.l,P z) ∧ (∀ s',(stepN x s b).sh=some s' → (∀ z ∈ s'.l,P z) ∧ s'.l.length ≤ s.l.length + 1):=by
 obtain ⟨a1,a2,a3⟩:=stepS_ls (k:=x.k) (p:=x.p) (M:=x.M) h hr b
 unfold stepN
 split
 ·exact ⟨fun s' e=>by injection e with e; subst e; exact a1,fun s' e=>by simp only [hsh] at e; cases e⟩
 ·split
  ·exact ⟨fun s' e=>(nomatch e),fun s' e=>by injection e with e; subst e; exact ⟨a1,a2⟩⟩
  ·refine ⟨fun s' e=>?_,fun s' e=>by simp only [hsh] at e; cases e⟩
   injection e with e; subst e
   unfold failS
   split
   ·intro z hz; cases hz
   ·intro z hz; cases hz
theorem stepN_gt {x:RnS} {s:Scn} (hs:x.sc=some s) (h:∀ s,x.sc=some s → s.quiet=true → x.cl=true) (b:Nat):∀ s',(stepN x s b).sc=some s' → s'.quiet=true → (stepN x s b).cl=true:=by
 obtain ⟨a1,a2,a3⟩:=stepS_ls (k:=x.k) (p:=x.p) (M:=x.M) (s:=s) (P:=fun _=>True) (fun _ _=>trivial) (fun _ _=>trivial) b
 unfold stepN
 split
 ·intro s' e hq; injection e with e; subst e; rw [a3] at hq; exact h s hs hq
 ·split
  ·intro s' e; cases e
  ·intro s' e hq
   injection e with e; subst e
   unfold failS at hq
   by_cases h1:s.left=1
   ·simp only [h1,if_true]
   ·simp only [h1,if_false] at hq ⊢
    exact h s hs hq
set_option maxHeartbeats 4000000 in
theorem Tri.pick {i sg x e sp hp ps y K1 K2 K3 K4} (h : Tri i sg x e sp hp ps y K1 K2 K3 K4) (hi : i ≤ 900) (pick : Int) :
    ∃ sg' e' sp' hp' ps' y' C1 C2 C3 C4 lo,LL.call n_c_law16_Both_pick [.p 4 0,.i .i64 pick] sg sg.length=some (.b true,sg',lo) ∧ Tri (i + 1) sg' (pickN x pick) e' sp' hp' ps' y' C1 C2 C3 C4 ∧ sg.length ≤ sg'.length ∧ (sg.length ≤ lo → sg'.length=sg.length):=by
 have hl4:=h.l4
 have hl:=h.ri.leg
 have hkr:1 ≤ x.k ∧ x.k ≤ 4:=legal_k hl
 have hpr:=legal_p hl
 have hpl:=h.pl
 have htk:=h.ri.tk
 have hytk:0 ≤ y.tick ∧ y.tick ≤ 1000000:=by rw [h.xr.tk]; omega
 have hbl:(busyO x.fs 0).length ≤ 6:=by rw [← h.rr.R.f6]; exact busyO_len _ _
 have hbz:=h.bz
 have hM:∀ j:Int,rdM x.M j=rdP ps 0 j zC:=fun j=>by rw [h.mm,memOf_rd _ _ h.pi.ok]
 have hI1:=h.ri.pick (by omega) pick
 rcases who_cases x pick with ⟨hw,hs,hb⟩ | ⟨s,hw,hs,hk⟩ | ⟨n,f,hw,hf,hc⟩
 ·have P:=rr_pick_no h.rr h.ri (by omega) pick hs hb
  have R:=c_ref16_Pick_no x.k x.p ps (gsOf x.k x.fs) x.cl y sg h.g6 hytk (by rw [hbz]; exact hb) (by rw [h.xr.on,hs]; rfl) pick
  obtain ⟨C1,C2,C3,C4,c1,c2,c3,c4,Q⟩:=c_law16_pick_no 4 3 K1 K2 K3 K4 h.z1 h.z2 h.z3 h.z4 x.k x.p ps (gsOf x.k x.fs) x.cl y sg h.hq pick P R
  have hx:pickN x pick=x:=by unfold pickN; simp only [hw,hs]
  rw [hx] at hI1 ⊢
  exact ⟨_,e,sp,hp,ps,y,C1,C2,C3,C4,_,Q,{ h with rr:=h.rr.put h.nq h.nh _,ri:=hI1,hq:=List.getElem?_set_self hl4,z1:=c1,z2:=c2,z3:=c3,z4:=c4 },by simp,by simp⟩
 ·obtain ⟨sg1,e1,sp1,hp1,lo,P,T1,F1,Tk⟩:=rr_pick h.rr h.ri (by omega) pick
  have he:evN x pick=(.a [.i .i64 (-1),.i .i64 0,.f .f64 0,.i .i64 0,.i .i64 0,.i .i64 0,.b false,.b false,.f .f64 0,.i .i64 0,.i .i64 0],true):=by unfold evN; simp only [hw,hs]
  have hx:pickN x pick={ stepN x s (busyO x.fs 0).length with tk:=x.tk + 1 }:=by unfold pickN; simp only [hw,hs]
  have hq1:sg1[4]? = some (eBx 3 K1 K2 K3 K4 x.k x.p ps (gsOf x.k x.fs) x.cl y):=by rw [F1.same 4 hl4 h.nq]; exact h.hq
  have n1:¬ ownN 1 2 3 e1 sp1 4:=fun hh=>h.nq (F1.own 4 hl4 hh)
  have h1:hp1 ≠ some 4:=fun hh=>by
   obtain ⟨s',a,b,_⟩:=T1.hp1 4 hh
   rw [hq1] at b
   simp [eSht,eBx] at b
  rw [he] at P
  have S:=h.ri.sc s hs
  have s1:=S.tr
  have s2:=S.lf
  have s3:=S.ln
  obtain ⟨a1,a2,a3,a4,a5,a6,a7⟩:=h.xr.sc s hs
  have hon:y.on=true:=by rw [h.xr.on,hs]; rfl
  have hok2:∀ j:Int,x.k=2 → 0 ≤ (rdP ps 0 j zC).n ∧ (rdP ps 0 j zC).n ≤ 1000000:=fun j hk2=>by
   have:=rdM_ok2 h.ri.mi (by omega) hk2 j
   rw [hM] at this
   exact this
  have RS:=c_ref16_step x.k x.p ps (gsOf x.k x.fs) x.cl { y with tick:=y.tick + 1 } sg1 hl (by omega) (by simp only [a7]; omega) (by simp only [a5]; omega) (by simp only [a6]; omega)
   (fun htw=>by
    simp only [a1,decide_eq_true_eq] at htw
    simp only [a7,a2 htw]
    exact ⟨htw,(S.pos htw).1⟩) (by simp only [a7]; exact S.two) (fun htw hk2 hl2=>by
    simp only [a7] at hl2 ⊢
    exact two2_app S.two _ (hok2 _ hk2) S.nn hk2 hl2) (busyO x.fs 0).length
  obtain ⟨C1,C2,c1,c2,R⟩:=c_ref16_Pick_scan x.k x.p ps (gsOf x.k x.fs) x.cl y sg1 h.g6 hytk hon pick (by rw [hbz]; exact hk) (by rw [hbz]; exact hbl) _ (by rw [hbz]; exact RS)
  obtain ⟨X1,X2⟩:=h.xr.step h.ri (by omega) hM hs (h.gt s hs) (busyO x.fs 0).length
  generalize stepX x.k x.p ps { y with tick:=y.tick + 1 } x.cl (busyO x.fs 0).length=T at *
  obtain ⟨y',cl'⟩:=T
  simp only at X1 X2 R
  have hsh:x.sh=none:=by rcases h.ri.one with e | e; rw [hs] at e; cases e; exact e
  obtain ⟨l1,l2⟩:=stepN_ls (x:=x) (s:=s) (P:=fun z=>z.c.l.length ≤ 62 ∧ z.c.v < 4611686018427387904) (fun z hz=>h.os z (.inl ⟨s,hs,hz⟩)) (fun a j=>by
   have g1:=h.ri.mi.good.rd j
   have g2:=h.ri.mi.ck
   exact ⟨g1.1,by simp only; omega⟩) hsh (busyO x.fs 0).length
  have gt1:=stepN_gt hs h.gt (busyO x.fs 0).length
  obtain ⟨m1,m2,m3,m4⟩:=stepN_same x s (busyO x.fs 0).length
  obtain ⟨D1,D2,D3,D4,d1,d2,d3,d4,Q⟩:=c_law16_pick 4 3 K1 K2 K3 K4 h.z1 h.z2 h.z3 h.z4 x.k x.p ps ps (gsOf x.k x.fs) (gsOf x.k x.fs) x.cl cl' y y' sg sg1 lo h.hq hq1 pick (-1) ⟨0,⟨0,0⟩,0,0⟩ noA false (by omega) P C1 C2 c1 c2 R F1.len Tk.eqN
  have hl41:4 < sg1.length:=get_lt hq1
  rw [hx] at hI1 T1 ⊢
  generalize stepN x s (busyO x.fs 0).length=x' at *
  refine ⟨_,e1,sp1,hp1,ps,y',D1,D2,D3,D4,_,Q,⟨T1.put n1 h1 _,hI1,gt1,?_,d1,d2,d3,d4,n1,h1,m3.trans h.mm,by simp only [m1]; exact h.pi,by simp only [m1,m2,m4]; exact h.ki,X1,fun z hz=>?_,fun s' e=>?_⟩,by rw [List.length_set]; exact F1.len,fun hh=>by rw [List.length_set]; exact Tk.eqN (by omega)⟩
  ·simp only [m1,m2,m4,← X2]
   exact List.getElem?_set_self hl41
  ·rcases hz with ⟨s',e,hz⟩ | ⟨s',e,hz⟩
   ·exact l1 s' e z hz
   ·exact (l2 s' e).1 z hz
  ·have:=(l2 s' e).2
   omega
 ·obtain ⟨sg1,e1,sp1,hp1,lo,P,T1,F1,Tk⟩:=rr_pick h.rr h.ri (by omega) pick
  have he:evN x pick=(eEv n f.o (stepP x.k x.p x.M f).a (stepP x.k x.p x.M f).d,true):=by unfold evN; simp only [hw]
  have hx:pickN x pick={ pickE x n f with tk:=x.tk + 1 }:=by unfold pickN; simp only [hw]
  have hq1:sg1[4]? = some (eBx 3 K1 K2 K3 K4 x.k x.p ps (gsOf x.k x.fs) x.cl y):=by rw [F1.same 4 hl4 h.nq]; exact h.hq
  have n1:¬ ownN 1 2 3 e1 sp1 4:=fun hh=>h.nq (F1.own 4 hl4 hh)
  have h1:hp1 ≠ some 4:=fun hh=>by
   obtain ⟨s',a,b,_⟩:=T1.hp1 4 hh
   rw [hq1] at b
   simp [eSht,eBx] at b
  rw [he] at P
  have hF:=h.ri.fi n f hf
  have hG:=gi_of (p:=x.p) hF (by omega)
  have hmi:MI x.k i (memOf ps):=by rw [← h.mm]; exact h.ri.mi
  obtain ⟨r1,r2,r3,r4,r5,r6⟩:=rel_step hl hmi hF h.pi (h.ki n f hf)
  have S:=c_ref12_Step x.k x.p i hl (by omega) ps (by omega) (gOf x.k f) hG (fun j=>by
   have h1:=h.ri.mi.num j
   have h2:=(h.ri.mi.good.rd j).1
   rw [hM] at h1 h2
   exact ⟨h1.1,h1.2,h2⟩) sg1
  have hon:y.on=x.sc.isSome:=h.xr.on
  have R : LL.call n_c_ref16_Pick [eXr .z .z .z .z x.k x.p ps ((gsOf x.k x.fs).map eFr) x.cl y, .i .i64 pick] sg1 sg1.length =
      some (.t [eXr .z .z .z .z x.k x.p (rStep x.k x.p ps (gOf x.k f)).ps (((gsOf x.k x.fs).set n (if (rStep x.k x.p ps (gOf x.k f)).d then zF else (rStep x.k x.p ps (gOf x.k f)).f)).map eFr) x.cl { y with tick:=y.tick + 1 },.i .i64 n,eAr (rStep x.k x.p ps (gOf x.k f)).a,.b (rStep x.k x.p ps (gOf x.k f)).d],sg1,sg1.length):=by
   rcases hc with ⟨hs,hn⟩ | ⟨hs,hk,hn⟩
   ·exact c_ref16_Pick_off x.k x.p ps (gsOf x.k x.fs) x.cl y sg1 h.g6 hytk (by rw [hon,hs]; rfl) pick n (by rw [hbz]; exact hn) (by rw [hbz]; exact hbl) (gOf x.k f) (gsOf_get hf) _ S
   ·exact c_ref16_Pick_thr x.k x.p ps (gsOf x.k x.fs) x.cl y sg1 h.g6 hytk (by rw [hon,hs]) pick (by rw [hbz]; exact hk) n (by rw [hbz]; exact hn) (by rw [hbz]; exact hbl) (gOf x.k f) (gsOf_get hf) _ S
  have X1:=h.xr.pickE n f
  rw [hx] at hI1 T1 ⊢
  have e1k:(pickE x n f).k=x.k:=rfl
  have e2k:(pickE x n f).p=x.p:=rfl
  have e3k:(pickE x n f).sc=x.sc:=rfl
  have e4k:(pickE x n f).sh=x.sh:=rfl
  have e5k:(pickE x n f).cl=x.cl:=rfl
  have e6k:(pickE x n f).M=(stepP x.k x.p x.M f).m:=rfl
  have e7k:(pickE x n f).fs=x.fs.set n (if (stepP x.k x.p x.M f).d then none else some (stepP x.k x.p x.M f).f):=rfl
  rw [← h.mm] at r1 r3 r4 r5 r6
  generalize stepP x.k x.p x.M f=so at *
  generalize rStep x.k x.p ps (gOf x.k f)=ro at *
  have hgs:(gsOf x.k x.fs).set n (if ro.d then zF else ro.f)=gsOf x.k (x.fs.set n (if so.d then none else some so.f)):=by
   rw [gsOf_set,r4]
   cases hd:ro.d with
   | true=>simp
   | false=>simp [r5 (by rw [r4]; exact hd)]
  rw [hgs,← r3,← r4] at R
  obtain ⟨D1,D2,D3,D4,d1,d2,d3,d4,Q⟩:=c_law16_pick 4 3 K1 K2 K3 K4 h.z1 h.z2 h.z3 h.z4 x.k x.p ps ro.ps (gsOf x.k x.fs) (gsOf x.k (x.fs.set n (if so.d then none else some so.f))) x.cl x.cl y { y with tick:=y.tick + 1 } sg sg1 lo h.hq hq1 pick n f.o so.a so.d (by omega) P .z .z (.inl rfl) (.inl rfl) R F1.len Tk.eqN
  have hl41:4 < sg1.length:=get_lt hq1
  generalize pickE x n f=x' at *
  refine ⟨_,e1,sp1,hp1,ro.ps,_,D1,D2,D3,D4,_,Q,⟨T1.put n1 h1 _,hI1,by simp only [e3k,e5k]; exact h.gt,?_,d1,d2,d3,d4,n1,h1,e6k.trans r1,by simp only [e1k]; exact r2,?_,X1,by simp only [e3k,e4k]; exact h.os,by simp only [e4k]; exact h.ol⟩,by rw [List.length_set]; exact F1.len,fun hh=>by rw [List.length_set]; exact Tk.eqN (by omega)⟩
  ·simp only [e1k,e2k,e5k,e7k]
   exact List.getElem?_set_self hl41
  ·simp only [e1k,e2k,e7k]
   refine setD (k:=x.k) (i:=i) (P:=fun f=>KI x.k x.p f) h.ki (fun g hg=>?_)
   split at hg
   ·cases hg
   ·rename_i hd
    injection hg with hg
    subst hg
    exact r6 (by simpa using hd)
theorem pickN_kp (x:RnS) (pick:Int):(pickN x pick).k=x.k ∧ (pickN x pick).p=x.p:=by
 unfold pickN
 split
 ·exact ⟨rfl,rfl⟩
 ·split
  ·exact ⟨rfl,rfl⟩
  ·rename_i s hs
   obtain ⟨m1,m2,_⟩:=stepN_same x s (busyO x.fs 0).length
   exact ⟨m1,m2⟩
theorem Tri.does {i sg x e sp hp ps y K1 K2 K3 K4} (h : Tri i sg x e sp hp ps y K1 K2 K3 K4) (hi : i ≤ 900) (a : Act) (hao : a.o.ok) :
    ∃ sg' x' e' sp' hp' ps' y' C1 C2 C3 C4 lo,LL.call n_c_law16_Both_Does [.p 4 0,eAct a] sg sg.length=some (.b true,sg',lo) ∧ Tri (i + 1) sg' x' e' sp' hp' ps' y' C1 C2 C3 C4 ∧ x'.k=x.k ∧ x'.p=x.p:=by
 have e1:(a.k % 256).tmod 21=a.k % 256 % 21:=tmod_nn _ _ (by omega)
 by_cases c3:(a.k % 256).tmod 21 < 3
 ·obtain ⟨sg',x',e',sp',hp',ps',y',C1,C2,C3,C4,lo,B,T,k1,k2,_⟩:=h.beg hi a (by omega) c3 hao
  exact ⟨sg',x',e',sp',hp',ps',y',C1,C2,C3,C4,lo,B,T,k1,k2⟩
 ·by_cases c17:(a.k % 256).tmod 21 < 17
  ·obtain ⟨sg',e',sp',hp',ps',y',C1,C2,C3,C4,lo,B,T,l1,l2⟩:=h.pick hi a.p
   obtain ⟨k1,k2⟩:=pickN_kp x a.p
   exact ⟨sg',_,e',sp',hp',ps',y',C1,C2,C3,C4,_,does_pick 1 2 3 4 C1 C2 C3 C4 T.z1 T.z2 T.z3 T.z4 _ _ ps' _ _ y' sg sg' a lo ⟨by omega,c17⟩ B T.hq l1 l2 (Fin.of T.rr T.xr),T,k1,k2⟩
  ·by_cases cc:(a.k % 256).tmod 21=17
   ·obtain ⟨sg',x',e',sp',hp',ps',y',C1,C2,C3,C4,B,T,k1,k2,_⟩:=h.gate true a (by simpa using cc)
    exact ⟨sg',x',e',sp',hp',ps',y',C1,C2,C3,C4,_,B,T,k1,k2⟩
   ·by_cases cd:(a.k % 256).tmod 21=18
    ·obtain ⟨sg',x',e',sp',hp',ps',y',C1,C2,C3,C4,B,T,k1,k2,_⟩:=h.gate false a (by simpa using cd)
     exact ⟨sg',x',e',sp',hp',ps',y',C1,C2,C3,C4,_,B,T,k1,k2⟩
    ·by_cases ce:(a.k % 256).tmod 21=19
     ·obtain ⟨sg',x',e',sp',hp',ps',y',C1,C2,C3,C4,lo,B,T,k1,k2,_⟩:=h.start a ce
      exact ⟨sg',x',e',sp',hp',ps',y',C1,C2,C3,C4,lo,B,T,k1,k2⟩
     ·obtain ⟨sg',x',e',sp',hp',ps',y',C1,C2,C3,C4,B,T,k1,k2,_⟩:=h.take a (by omega)
      exact ⟨sg',x',e',sp',hp',ps',y',C1,C2,C3,C4,_,B,T,k1,k2⟩
end Go.AM

namespace Go.AM
def x0:Xr:=⟨false,false,false,false,0,0,0,0,[],false,[],0,false⟩
def bx0 (r:Nat) (k:Int) (p:Nat):List D :=
 [.p r 0,.i .i64 k,.i .i64 p,.l .o 3 [],.l .x 17 (List.replicate 6 (eFrK .o .o zF)),.b false,.b false,.b false,.b false,.b false,.i .i64 0,.i .i64 0,.i .i64 0,.i .i64 0,.l .o 4 [],.b false,.l .o 4 [],.i .i64 0,.b false]
theorem c_law16_Make (k : Int) (p : Nat) (hl : legal k p = 0) (sg : List (List D)) :
    LL.call n_c_law16_Make [.i .i64 k,.i .i64 p] sg sg.length=some (.t [.a (bx0 (sg.length + 3) k p),.b true],sg ++ [eMem ⟨[],0⟩,eEng (newE k p sg.length),eRec (sg.length + 1) [] [0,0,0,0,0,0],eRun (sg.length + 2) none none 0],sg.length):=by
 have N:=c_scan_New k p sg
 rw [if_pos hl] at N
 have ht:((p:Int)).toNat=p:=by omega
 rw [ht] at N
 obtain ⟨l,hl4⟩:∃ l,l=[eMem ⟨[],0⟩,eEng (newE k p sg.length),eRec (sg.length + 1) [] [0,0,0,0,0,0],eRun (sg.length + 2) none none 0] := ⟨_,rfl⟩
 rw [← hl4] at N ⊢
 have R:=c_ref13_New k p (sg ++ l)
 refine wp_call e_c_law16_Make rfl ?_
 simp [eEr] at R
 simp [F_c_law16_Make,N,R,bx0]
 intro h
 omega
theorem RR.app0 {er rc ru sg x e} (h:RR er rc ru sg x e none none) (l:List D):RR er rc ru (sg ++ [l]) x e none none:=by
 have G:∀ y,y < sg.length → (sg ++ [l])[y]? = sg[y]? := fun y hy=>List.getElem?_append_left hy
 have hlt:∀ y,own er e y → y < sg.length:=fun y hy=>h.R.lt hy
 exact ⟨h.R.keep (fun y hy=>G y (hlt y hy)),h.ek,h.ep,h.ecl,h.est,by rw [G _ h.lc]; exact h.hrc,by rw [G _ h.lu]; exact h.hru,h.dc,h.du,h.dcu,h.sp0,fun q hq=>(nomatch hq),h.hp0,fun q hq=>(nomatch hq)⟩
theorem tri0 {k : Int} {p : Nat} (hl : legal k p = 0) :
    Tri 0 [eMem ⟨[],0⟩,eEng (newE k p 0),eRec 1 [] [0,0,0,0,0,0],eRun 2 none none 0,eBx 3 .o .o .o .o k p [] (List.replicate 6 zF) false x0] (rn0 k p) (newE k p 0) none none [] x0 .o .o .o .o:=by
 have R0:=(rr0 k p []).app0 (eBx 3 .o .o .o .o k p [] (List.replicate 6 zF) false x0)
 simp only [List.length_nil,List.nil_append,Nat.zero_add] at R0
 refine ⟨R0,ri0 hl,fun s e=>by simp [rn0] at e,rfl,.inr rfl,.inr rfl,.inr rfl,.inr rfl,?_,by simp,rfl,⟨by simp,fun i=>kept_nil k,fun _ i _ h=>by simp [rdP,zC] at h⟩,fun j f h=>absurd h (nf6 j f),⟨rfl,fun s e=>(nomatch e),rfl,fun s e=>(nomatch e),rfl⟩,fun z hz=>?_,fun s e=>(nomatch e)⟩
 ·rintro ((h | h | ⟨j,h⟩) | h | h | h)
  ·omega
  ·simp [newE] at h
  ·exact nn6 j _ h
  ·omega
  ·omega
  ·cases h
 ·rcases hz with ⟨s,e,_⟩ | ⟨s,e,_⟩ <;> cases e
end Go.AM

namespace Go.AM
def chkM (P:Program) (t:TypeId) (nm:String) (f:FuncId):Bool:=match P.info? t with
 | some i=>match i.methods.find? (·.name == nm) with
  | some m=>m.path.toList.isEmpty && (match m.func with
   | some (g,true)=>(match P.underlying t with | some (.pointer _)=>g == f && decide (f < Q0) | _=>false)
   | some (g,false)=>(match P.underlying t with
    | some (.pointer e)=>decide (Q0 ≤ f) && g == f - Q0 && aggT P e == some false && szT P e == some 1
    | some _=>g == f && decide (f < Q0)
    | none=>false)
   | none=>false)
  | none=>false
 | none=>false
theorem wrap_ok (ts:Array TypeId) (t:TypeId) (a:Addr) (s1 s2:String):Builtin.ssaWrapNilChk_ ts t #[.pointer (some a),strVal s1,strVal s2] = pure (.pointer (some a)):=rfl
theorem meth_one {P : Program} {t nm f} (h : chkM P t nm f = true) :
    (f < Q0 → ∀ v w,(method (P.types.size + Made.depth) t v nm).run P w=.ok (f,v) w) ∧
    (Q0 ≤ f → ∀ b off u w,World.cell? w ⟨b,off,none⟩=some u → (method (P.types.size + Made.depth) t (.pointer (some ⟨b,off,none⟩)) nm).run P w=.ok (f - Q0,u) w):=by
 unfold chkM at h
 split at h
 ·rename_i i hi
  split at h
  ·rename_i m hm
   simp only [Bool.and_eq_true] at h
   obtain ⟨hp,h⟩:=h
   have hp':m.path.toList=[] := List.isEmpty_iff.1 hp
   obtain ⟨n,hn⟩:∃ n,P.types.size + Made.depth=n + 1:=⟨P.types.size + 99,rfl⟩
   rw [hn]
   split at h
   ·rename_i g hg
    split at h
    ·rename_i e hu
     simp only [Bool.and_eq_true,beq_iff_eq,decide_eq_true_eq] at h
     obtain ⟨rfl,hf⟩:=h
     refine ⟨fun _ v w=>?_,fun hq=>absurd hf (Nat.not_lt.2 hq)⟩
     simp [method,typeInfo,hi,hm,hp',follow,hg,receiverAt,underlying,hu,Place.get]
    ·cases h
   ·rename_i g hg
    split at h
    ·rename_i e hu
     simp only [Bool.and_eq_true,beq_iff_eq,decide_eq_true_eq] at h
     obtain ⟨⟨⟨hf,hgf⟩,ha⟩,hs⟩:=h
     refine ⟨fun hq=>absurd hq (Nat.not_lt.2 hf),fun _ b off u w hc=>?_⟩
     have hrun:=run_load' (P:=P) (w:=w) (t:=e) (b:=b) (off:=off) (us:=[u]) ha hs (.inr rfl) rfl (fun j v hj=>by
      cases j with
      | zero=>simp at hj; subst hj; simpa using hc
      | succ j=>simp at hj)
     simp only [Instr.loadAt,Instr.sureAddr] at hrun
     have hpe:m.path=#[] := by simpa using hp
     simp at hrun
     simp [method,typeInfo,hi,hm,hp',hpe,follow,hg,receiverAt,underlying,hu,Place.get,wrap_ok,asAddr,hrun,hgf]
    ·rename_i d hne hu
     simp only [Bool.and_eq_true,beq_iff_eq,decide_eq_true_eq] at h
     obtain ⟨rfl,hf⟩:=h
     refine ⟨fun _ v w=>?_,fun hq=>absurd hf (Nat.not_lt.2 hq)⟩
     simp [method,typeInfo,hi,hm,hp',follow,hg,receiverAt,underlying,hu,Place.get]
    ·cases h
   ·cases h
  ·cases h
 ·cases h
theorem nil_one {P:Program} {t nm f} (h:chkM P t nm f=true):NilOK P t nm f:=by
 intro hf v w
 unfold chkM at h
 split at h
 ·rename_i i hi
  split at h
  ·rename_i m hm
   simp only [Bool.and_eq_true] at h
   obtain ⟨hp,h⟩:=h
   have hp':m.path.toList=[] := List.isEmpty_iff.1 hp
   obtain ⟨n,hn⟩:∃ n,P.types.size + Made.depth=n + 1:=⟨P.types.size + 99,rfl⟩
   rw [hn]
   split at h
   ·rename_i g hg
    simp [nilAhead,typeInfo,hi,hm,hp',followBlind,hg]
   ·rename_i g hg
    split at h
    ·rename_i e hu
     simp only [Bool.and_eq_true,beq_iff_eq,decide_eq_true_eq] at h
     exact absurd hf (Nat.not_lt.2 h.1.1.1)
    ·rename_i d hne hu
     simp [nilAhead,typeInfo,hi,hm,hp',followBlind,hg,underlying,hu]
     cases d <;> first | (exfalso; exact hne _ rfl) | rfl
    ·cases h
   ·cases h
  ·cases h
 ·cases h
theorem meth_all {P : Program} {T : List (TypeId × String × FuncId)} (h : T.all (fun p => chkM P p.1 p.2.1 p.2.2) = true) :
    MethOK P (fun t nm=>(T.find? fun p=>p.1 == t && p.2.1 == nm).map (·.2.2)):=by
 intro t nm f hf
 simp only [Option.map_eq_some_iff] at hf
 obtain ⟨⟨t',nm',f'⟩,h1,rfl⟩:=hf
 have h2:=List.find?_some h1
 simp only [Bool.and_eq_true,beq_iff_eq] at h2
 obtain ⟨rfl,rfl⟩:=h2
 have h3:=List.all_eq_true.1 h _ (List.mem_of_find?_eq_some h1)
 exact ⟨(meth_one h3).1,(meth_one h3).2,nil_one h3⟩
end Go.AM

namespace Go.AM
open Go.Proofs
set_option maxRecDepth 100000
theorem fol:Tryz.prog.follows .mixedOrders=true:=by kernel_rfl
theorem tab_ok:tab.all (fun p=>chkFn Tryz.prog EE.fbits EE.frb (rid p.1) p.2)=true:=by kernel_rfl
theorem look_in {α : Type} {k:Nat} {x:α}:∀ {l:List (Nat × α)},look k l=some x → (k,x) ∈ l
 | (j,y) :: r,h=>by
  simp only [look] at h
  split at h
  ·rename_i e; cases h; subst e; simp
  ·exact List.mem_cons_of_mem _ (look_in h)
theorem libF:LibF Tryz.prog EE:=fun _ _ _ h=>nomatch h
theorem env_ok:EnvOK Tryz.prog EE:=⟨fun f af h=>List.all_eq_true.1 tab_ok (f,af) (look_in h),libF,fun _ _ _ _ _ h=>nomatch h⟩
theorem meth_ok:methL.all (fun p=>chkM Tryz.prog p.1 p.2.1 p.2.2)=true:=by kernel_rfl
theorem lib_ok:Lib Tryz.prog EE.fbits EE.frb EE.meth where
 bits:=fun f h n w=>by cases h; rfl
 frb:=fun f h n w=>by cases h; rfl
 meth:=meth_all meth_ok
end Go.AM

namespace Go.AM
open Go.Proofs
set_option maxRecDepth 100000 in
theorem c_law16_awake:LL.call n_c_law16_awake [] [] 0=some (.b true,[],0):=lim_call.2 ⟨100,by kernel_rfl⟩
set_option maxRecDepth 20000 in
set_option maxHeartbeats 8000000 in
theorem scanPlays (kind param:Int) (acts:List Act) (hact:∀ a ∈ acts,a.o.ok):LL.call n_c_law16_ScanPlays [.i .i64 kind,.i .i64 param,.l .z 8 (acts.map eAct)] [] 0=some (.b true,[],0):=by
 have hA:=c_law16_awake
 have K:=c_law12_Kind kind param []
 have hleg:=legal_kind kind param
 have hkr:=kindOf_le kind
 have hpr:=paramOf_le kind param
 obtain ⟨k,hk⟩:∃ k,k=kindOf kind:=⟨_,rfl⟩
 obtain ⟨p,hp⟩:∃ p:Nat,paramOf kind param=p:=⟨(paramOf kind param).toNat,by omega⟩
 rw [← hk] at K hleg hkr
 rw [hp] at K hleg
 have MK:=c_law16_Make k p hleg []
 have T0:=tri0 hleg
 obtain ⟨fr0,hfr0⟩:∃ fr0,fr0=List.replicate 6 (eFrK .o .o zF):=⟨_,rfl⟩
 have hfz2:D.fzs fr0=(List.replicate 6 zF).map eFr:=by rw [hfr0]; rfl
 obtain ⟨s0,hs0⟩:∃ s0,s0=eMem ⟨[],0⟩:=⟨_,rfl⟩
 obtain ⟨s1,hs1⟩:∃ s1,s1=eEng (newE k p 0):=⟨_,rfl⟩
 obtain ⟨s2,hs2⟩:∃ s2,s2=eRec 1 [] [0,0,0,0,0,0] := ⟨_,rfl⟩
 obtain ⟨s3,hs3⟩:∃ s3,s3=eRun 2 none none 0:=⟨_,rfl⟩
 simp only [List.length_nil,List.nil_append,Nat.zero_add] at MK
 rw [← hs0,← hs1,← hs2,← hs3] at MK T0
 simp only [bx0] at MK
 rw [← hfr0] at MK
 obtain ⟨sg0,hsg0⟩:∃ sg0,sg0=[s0,s1,s2,s3,eBx 3 .o .o .o .o k p [] (List.replicate 6 zF) false x0] := ⟨_,rfl⟩
 rw [← hsg0] at T0
 have hzz:∀ l:List Act,D.zzs (l.map eAct)=l.map eAct:=fun l=>zzs_flat eAct l
 simp at K
 refine wp_call e_c_law16_ScanPlays rfl ?_
 simp [F_c_law16_ScanPlays,hA,K,MK,hzz]
 refine wc_lst (acts.take 150) (fun i (b:List (List D))=>⟨[(2,.v (.l .z 8 (acts.map eAct))),(7,.v (.p 4 0)),(8,.v (.b true)),(9,.v (.i .i64 i))],[],b,0⟩) (fun i rest b=>∃ x e sp hp ps y K1 K2 K3 K4,Tri i b x e sp hp ps y K1 K2 K3 K4 ∧ x.k=k ∧ x.p=p) sg0 (by simp; rw [hsg0,hfz2]; simp [eBx,x0]) ⟨_,_,_,_,_,_,_,_,_,_,T0,rfl,rfl⟩ ?_ ?_
 ·rintro i a rest sg hi hx ⟨x,e,sp,hp',ps,y,K1,K2,K3,K4,T,hxk,hxp⟩ ih
  have hi150:i < 150:=by simp at hi; omega
  have hia:i < acts.length:=by simp at hi; omega
  have hx':acts[i] = a:=by rw [← hx]; simp
  have hao:=hact a (by rw [← hx']; exact List.getElem_mem hia)
  have hii:(i:Int) < acts.length:=by omega
  have hi6:(i:Int) < 150:=by omega
  have w1:IntKind.i64.wrap ((i:Int) + 1)=i + 1:=wrap64 (by omega)
  obtain ⟨sg',x',e',sp',hp2,ps',y',C1,C2,C3,C4,lo,B,T',k1,k2⟩:=T.does (by omega) a hao
  have ih:=ih sg' ⟨_,_,_,_,_,_,_,_,_,_,T',k1.trans hxk,k2.trans hxp⟩
  simp [eAct] at B
  simp at ih
  simp [hii,hi6,hia,hx',eAct,B,w1]
  simpa using ih
 ·rintro sg ⟨x,e,sp,hp',ps,y,K1,K2,K3,K4,T,hxk,hxp⟩
  obtain ⟨i1,hi1⟩:∃ i1,i1=(acts.take 150).length:=⟨_,rfl⟩
  have hi150:i1 ≤ 150:=by rw [hi1]; simp; omega
  rw [← hi1] at T
  have hpl:=T.pl
  have hM:=c_engine_Memory e sg 1 T.rr.R.hr
  have hru:=T.rr.hru
  have hrc:=T.rr.hrc
  have hRm:=T.rr.R.hm
  rw [T.mm] at hRm
  have RS:=fun kk cs n'=>c_law06_Run_Same ps T.pi.ok (by omega) kk cs n' sg e.m hRm
  have hb:=T.hq
  have z1:=T.z1
  have z2:=T.z2
  have z3:=T.z3
  have z4:=T.z4
  simp [eBx] at hb
  simp [eRun] at hru
  simp [eRec] at hrc
  by_cases h150:acts.length ≤ 150
  ·have e1:((min 150 acts.length:Nat):Int)=acts.length:=by omega
   simp [e1,hb,hru,hrc,hM,↓cp_zo z1,↓cp_zo z2,↓cp_zo z3,↓cp_zo z4,RS]
   done
  ·have e1:((min 150 acts.length:Nat):Int)=150:=by omega
   have e2:(150:Int) < acts.length:=by omega
   simp [e1,e2,hb,hru,hrc,hM,↓cp_zo z1,↓cp_zo z2,↓cp_zo z3,↓cp_zo z4,RS]
   done
def args_ScanPlays:List (Bool × Ty):=[(false,.i .i64),(false,.i .i64),(false,.l 8 true tAct)]
theorem args_ScanPlays_ok:tyA Tryz.prog [3,3,22] = some args_ScanPlays:=by kernel_rfl
theorem law_ScanPlays (ds:List D) (h:FitA args_ScanPlays ds):∃ sg lo,(lim EE).call n_c_law16_ScanPlays ds [] 0=some (.b true,sg,lo):=by
 cases h with
 | c h1 k =>
 obtain ⟨n1,rfl,w1⟩:=fits_i h1
 cases k with
 | c h2 k =>
 obtain ⟨n2,rfl,w2⟩:=fits_i h2
 cases k with
 | c h3 k =>
 cases h3 with
 | l sz agg e xs hl hx ha =>
 obtain ⟨is,rfl,hi⟩:=fits_acts xs hx (by simpa using ha)
 cases k
 exact ⟨[],0,scanPlays n1 n2 is hi⟩
end Go.AM
