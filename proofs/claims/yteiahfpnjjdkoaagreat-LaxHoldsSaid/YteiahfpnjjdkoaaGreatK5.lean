/- Lemmas: an abstract machine over the loaded program, proved sound against the model once; what the program's functions compute. -/
import Derived.Test.YteiahfpnjjdkoaaGreatK4
import Derived.Test.YteiahfpnjjdkoaaGreatK2
import Derived.Test.YteiahfpnjjdkoaaGreatK1
import Derived.Test.YteiahfpnjjdkoaaGreatK3
import Derived.Test.YteiahfpnjjdkoaaGreatProg
set_option linter.all false
namespace Go.AM
def slotI (M:Mem) (i:Int):List It:=if (rdM M i).n=1 then (rdM M i).l else []
def fillI (M:Mem) (a:Int):Nat → List It
 | 0=>[]
 | n + 1=>fillI M a n ++ slotI M (a + n)
theorem fillI_add (M:Mem) (a:Int) (m:Nat):∀ n,fillI M a (m + n)=fillI M a m ++ fillI M (a + m) n
 | 0=>by simp [fillI]
 | n + 1=>by
  rw [← Nat.add_assoc,fillI,fillI,fillI_add M a m n,List.append_assoc]
  congr 3
  push_cast
  omega
theorem fillI_congr {M M':Mem} {a:Int}:∀ {n:Nat},(∀ j:Nat,j < n → slotI M' (a + j)=slotI M (a + j)) → fillI M' a n=fillI M a n
 | 0,_=>rfl
 | n + 1,h=>by rw [fillI,fillI,fillI_congr (fun j hj=>h j (by omega)),h n (by omega)]
theorem fillI_nil {M:Mem} {a:Int}:∀ {n:Nat},(∀ j:Nat,j < n → (rdM M (a + j)).n ≠ 1) → fillI M a n=[]
 | 0,_=>rfl
 | n + 1,h=>by
  rw [fillI,fillI_nil (fun j hj=>h j (by omega))]
  unfold slotI
  rw [if_neg (h n (by omega))]
  rfl
theorem fillI_one {M M':Mem} {a i:Int}:∀ {n:Nat},a ≤ i → i < a + n → (∀ j:Int,j ≠ i → slotI M' j=slotI M j) → ∃ r,(fillI M a n).Perm (slotI M i ++ r) ∧ (fillI M' a n).Perm (slotI M' i ++ r)
 | 0,h1,h2,_=>by omega
 | n + 1,h1,h2,h=>by
  by_cases e:i=a + n
  ·subst e
   refine ⟨fillI M a n,?_,?_⟩
   ·rw [fillI]; exact List.perm_append_comm
   ·rw [fillI,fillI_congr (M:=M) (M':=M') (fun j hj=>h _ (by omega))]; exact List.perm_append_comm
  ·obtain ⟨r,r1,r2⟩:=fillI_one (n:=n) h1 (by push_cast at h2; omega) h
   refine ⟨r ++ slotI M (a + n),?_,?_⟩
   ·rw [fillI,← List.append_assoc]; exact r1.append_right _
   ·rw [fillI,h _ (Ne.symm e),← List.append_assoc]; exact r2.append_right _
theorem slotI_put {M:Mem} {i:Nat} {n:Int} {l:List It} {j:Int}:slotI (putM M i n l) j=if (i:Int)=j then (if n=1 then l else []) else slotI M j:=by
 unfold slotI
 rw [rdM_putM]
 by_cases h:(i:Int)=j
 ·rw [if_pos h,if_pos h]
 ·rw [if_neg h,if_neg h]
structure Trq (M M':Mem):Prop where
 t:(rdM M 1).n ≤ (rdM M' 1).n
 h:(rdM M 0).n ≤ (rdM M' 0).n
 nz:∀ i,2 ≤ i → (rdM M i).n ≠ 0 → (rdM M' i).n ≠ 0
 tk:∀ i,2 ≤ i → (rdM M i).n=2 → (rdM M' i).n=2
 ck:M.ck ≤ M'.ck
 old:∀ i,rdM M' i=rdM M i ∨ M.ck < (rdM M' i).v
theorem Trq.rfl' (M:Mem):Trq M M:=⟨Int.le_refl _,Int.le_refl _,fun _ _ h=>h,fun _ _ h=>h,Nat.le_refl _,fun _=>.inl rfl⟩
theorem Trq.put (M:Mem) (i:Nat) (n:Int) (l:List It) (h0:i=0 → (rdM M 0).n ≤ n) (h1:i=1 → (rdM M 1).n ≤ n) (h2:2 ≤ i → n ≠ 0 ∧ (rdM M i).n ≠ 2):Trq M (putM M i n l):=by
 refine ⟨?_,?_,fun j hj hn=>?_,fun j hj hn=>?_,by simp [putM],fun j=>?_⟩
 ·rw [rdM_putM]; split
  ·rename_i e; exact h1 (by omega)
  ·exact Int.le_refl _
 ·rw [rdM_putM]; split
  ·rename_i e; exact h0 (by omega)
  ·exact Int.le_refl _
 ·rw [rdM_putM]; split
  ·rename_i e; exact (h2 (by omega)).1
  ·exact hn
 ·rw [rdM_putM]; split
  ·rename_i e; rw [← e] at hn; exact absurd hn (h2 (by omega)).2
  ·exact hn
 ·rw [rdM_putM]; split
  ·right; simp
  ·left; rfl
structure KV (p:Nat) (M:Mem):Prop where
 h0:0 ≤ (rdM M 0).n
 ht:(rdM M 0).n ≤ (rdM M 1).n
 st:∀ i,2 ≤ i → (rdM M i).n=0 ∨ (rdM M i).n=1 ∨ (rdM M i).n=2
 up:∀ i,s0 p ((rdM M 1).n + 1) ≤ i → (rdM M i).n=0
 mid:∀ i,2 ≤ i → i < s0 p (rdM M 1).n → (rdM M i).n ≠ 0
 lo:∀ i,2 ≤ i → i < s0 p (rdM M 0).n → (rdM M i).n=2
 one:∀ i,2 ≤ i → (rdM M i).n=1 → ∃ y,(rdM M i).l=[y] ∧ y.canon=y
 vck:∀ i,(rdM M i).v ≤ M.ck
structure QF (p:Nat) (M:Mem) (f:FrR):Prop where
 enq:f.o.k=3 → f.pc ≠ 0 → fitsK p f.seg=true ∧ 0 ≤ f.seg ∧ f.seg ≤ (rdM M 1).n ∧ f.v0 ≤ M.ck ∧ (f.v0=(rdM M 1).v → (rdM M 1).n=f.seg)
 enq1:f.o.k=3 → f.pc=1 → 0 ≤ f.seen ∧ f.seen < p ∧ ∀ j,0 ≤ j → j < f.seen → (rdM M (s0 p f.seg + (f.at_ + j) % p)).n ≠ 0
 enq2:f.o.k=3 → f.pc=2 → f.v1 ≤ M.ck ∧ (f.v1=(rdM M (slotK p f)).v → (rdM M (slotK p f)).n=0)
 enq3:f.o.k=3 → f.pc=3 → ∀ j:Int,0 ≤ j → j < p → (rdM M (s0 p f.seg + j)).n ≠ 0
 deq:f.o.k=4 → f.pc ≠ 0 → 0 ≤ f.seg ∧ f.seg ≤ (rdM M 0).n ∧ f.v0 ≤ M.ck ∧ (f.v0=(rdM M 0).v → (rdM M 0).n=f.seg)
 deq2:f.o.k=4 → f.pc=2 → 0 ≤ f.seen ∧ f.seen < p ∧ (f.em=false → ∀ j,0 ≤ j → j < f.seen → (rdM M (s0 p f.seg + (f.at_ + j) % p)).n=2)
 deqt:f.o.k=4 → (f.pc=2 ∨ f.pc=4 ∨ f.pc=5) → f.v1 ≤ M.ck ∧ f.seg ≤ f.n1 ∧ f.n1 ≤ (rdM M 1).n ∧ (f.v1=(rdM M 1).v → (rdM M 1).n=f.n1)
 deq3:f.o.k=4 → f.pc=3 → f.v1 ≤ M.ck ∧ (f.v1=(rdM M (slotK p f)).v → (rdM M (slotK p f)).n=1 ∧ (rdM M (slotK p f)).l=f.l1)
 deq4:f.o.k=4 → (f.pc=4 ∨ f.pc=5) → ∀ j:Int,0 ≤ j → j < p → (rdM M (s0 p f.seg + j)).n=2
 deq5:f.o.k=4 → (f.pc=4 → f.n1=f.seg) ∧ (f.pc=5 → f.n1 ≠ f.seg)
theorem QF.zero {p:Nat} {M:Mem} {f:FrR} (h:f.pc=0):QF p M f :=
 ⟨fun _ e=>absurd h e,fun _ e=>by omega,fun _ e=>by omega,fun _ e=>by omega,fun _ e=>absurd h e,fun _ e=>by omega,fun _ e=>by omega,fun _ e=>by omega,fun _ e=>by omega,fun _=>⟨fun e=>by omega,fun e=>by omega⟩⟩
theorem s0_in {p:Nat} (hp:1 ≤ p) {s:Int} (h:0 ≤ s) (j:Int):2 ≤ s0 p s + j % p:=by
 have h1:=s0_ge p h
 have h2:=Int.emod_nonneg j (show (p:Int) ≠ 0 by omega)
 omega
theorem QF.keep {p M M' f} (hp:1 ≤ p) (h:QF p M f) (T:Trq M M'):QF p M' f:=by
 have ht:=T.t
 have hh:=T.h
 have hc:=T.ck
 have fresh:∀ (v:Nat) (i:Int),v ≤ M.ck → v=(rdM M' i).v → rdM M' i=rdM M i:=by
  intro v i h1 h2
  rcases T.old i with e | e
  ·exact e
  ·omega
 refine ⟨fun a b=>?_,fun a b=>?_,fun a b=>?_,fun a b=>?_,fun a b=>?_,fun a b=>?_,fun a b=>?_,fun a b=>?_,fun a b=>?_,h.deq5⟩
 ·obtain ⟨h1,h2,h3,h4,h5⟩:=h.enq a b
  refine ⟨h1,h2,by omega,by omega,fun e=>?_⟩
  have:=fresh _ _ h4 e
  rw [this] at e ⊢
  exact h5 e
 ·obtain ⟨h1,h2,h3⟩:=h.enq1 a b
  have h0:=(h.enq a (by omega)).2.1
  exact ⟨h1,h2,fun j j1 j2=>T.nz _ (s0_in hp h0 _) (h3 j j1 j2)⟩
 ·obtain ⟨h1,h2⟩:=h.enq2 a b
  refine ⟨by omega,fun e=>?_⟩
  have:=fresh _ _ h1 e
  rw [this] at e ⊢
  exact h2 e
 ·have h0:=(h.enq a (by omega)).2.1
  have h1:=s0_ge p h0
  exact fun j j1 j2=>T.nz _ (by omega) (h.enq3 a b j j1 j2)
 ·obtain ⟨h2,h3,h4,h5⟩:=h.deq a b
  refine ⟨h2,by omega,by omega,fun e=>?_⟩
  have:=fresh _ _ h4 e
  rw [this] at e ⊢
  exact h5 e
 ·obtain ⟨h1,h2,h3⟩:=h.deq2 a b
  have h0:=(h.deq a (by omega)).1
  exact ⟨h1,h2,fun em j j1 j2=>T.tk _ (s0_in hp h0 _) (h3 em j j1 j2)⟩
 ·obtain ⟨h1,h2,h3,h4⟩:=h.deqt a b
  refine ⟨by omega,h2,by omega,fun e=>?_⟩
  have:=fresh _ _ h1 e
  rw [this] at e ⊢
  exact h4 e
 ·obtain ⟨h1,h2⟩:=h.deq3 a b
  refine ⟨by omega,fun e=>?_⟩
  have:=fresh _ _ h1 e
  rw [this] at e ⊢
  exact h2 e
 ·have h0:=(h.deq a (by omega)).1
  have h1:=s0_ge p h0
  exact fun j j1 j2=>T.tk _ (by omega) (h.deq4 a b j j1 j2)
structure LQ (p:Nat) (M:Mem) (Ls:List (List It)):Prop where
 len:(Ls.length:Int)=(rdM M 1).n - (rdM M 0).n + 1
 at_:∀ (j:Nat) l,Ls[j]? = some l → l.Perm (fillI M (s0 p ((rdM M 0).n + j)) p)
structure QS (p:Nat) (M:Mem) (f:FrR) (so:So):Prop where
 kv:KV p so.m
 tr:Trq M so.m
 qf:so.d=false → QF p so.m so.f
 no:so.d=true → so.a.ok=false → so.m=M
 ls:∀ Ls,LQ p M Ls → ∃ Ls',LQ p so.m Ls' ∧ (so.d=false → Ls'.flatten=Ls.flatten) ∧ (so.d=true → so.a.ok=true → f.o.k=3 → Ls'.flatten=Ls.flatten ++ [f.o.x.canon]) ∧
  (so.d=true → so.a.ok=true → f.o.k=4 → outI so.a.x Ls.flatten p=some Ls'.flatten)
theorem QS.same {p:Nat} {M:Mem} {f f':FrR} {a:An} {d:Bool} (kv:KV p M) (hq:d=false → QF p M f') (ha:a.ok=false):QS p M f ⟨M,f',a,d⟩ :=
 ⟨kv,.rfl' M,hq,fun _ _=>rfl,fun Ls h=>⟨Ls,h,fun _=>rfl,fun _ e=>by simp [ha] at e,fun _ e=>by simp [ha] at e⟩⟩
theorem s0_add (p:Nat) (s t:Int):s0 p (s + t)=s0 p s + t * p:=by unfold s0; rw [Int.add_mul]; omega
theorem s0_mono {p:Nat} {s t:Int} (h:s ≤ t):s0 p s ≤ s0 p t:=by
 have:=Int.mul_le_mul_of_nonneg_right h (show (0:Int) ≤ p by omega)
 unfold s0; omega
theorem s0_1 (p:Nat) (s:Int):s0 p (s + 1)=s0 p s + p:=by rw [s0_add]; omega
theorem slotK_in {p:Nat} (hp:1 ≤ p) (f:FrR):s0 p f.seg ≤ slotK p f ∧ slotK p f < s0 p (f.seg + 1):=by
 have h1:=slot_rng (f:=f) hp
 rw [s0_1]
 unfold slotK s0
 omega
theorem mod_all {p:Nat} (hp:1 ≤ p) (a j:Int) (h:0 ≤ j ∧ j < p):∃ i:Int,0 ≤ i ∧ i < p ∧ (a + i) % p=j:=by
 refine ⟨(j - a) % p,Int.emod_nonneg _ (by omega),Int.emod_lt_of_pos _ (by omega),?_⟩
 rw [Int.add_emod,Int.emod_emod_of_dvd _ (Int.dvd_refl _),← Int.add_emod,show a + (j - a)=j by omega]
 exact Int.emod_eq_of_lt h.1 h.2
theorem kv_tail {p : Nat} {M : Mem} (hp : 1 ≤ p) (kv : KV p M) (hall : ∀ j, 0 ≤ j → j < (p : Int) → (rdM M (s0 p (rdM M 1).n + j)).n ≠ 0) :
    KV p (putM M 1 ((rdM M 1).n + 1) []) ∧ Trq M (putM M 1 ((rdM M 1).n + 1) []) ∧ ∀ Ls,LQ p M Ls → LQ p (putM M 1 ((rdM M 1).n + 1) []) (Ls ++ [[]]):=by
 have h0:=kv.h0
 have ht:=kv.ht
 have r:∀ i:Int,i ≠ 1 → rdM (putM M 1 ((rdM M 1).n + 1) []) i=rdM M i:=fun i hi=>by rw [rdM_putM,if_neg (by omega)]
 have r1:(rdM (putM M 1 ((rdM M 1).n + 1) []) 1).n=(rdM M 1).n + 1:=by rw [rdM_putM,if_pos (by omega)]
 refine ⟨⟨by rw [r 0 (by omega)]; exact h0,by rw [r 0 (by omega),r1]; omega,fun i hi=>by rw [r i (by omega)]; exact kv.st i hi,fun i hi=>?_,fun i hi h2=>?_,fun i hi h2=>?_,fun i hi h2=>?_,fun i=>?_⟩,?_,fun Ls h=>⟨?_,fun j l hj=>?_⟩⟩
 ·rw [r1] at hi
  have h2:=s0_ge p (s:=(rdM M 1).n + 1 + 1) (by omega)
  have h3:=s0_mono (p:=p) (show (rdM M 1).n + 1 ≤ (rdM M 1).n + 1 + 1 by omega)
  rw [r i (by omega)]
  exact kv.up i (by omega)
 ·rw [r1,s0_1] at h2
  rw [r i (by omega)]
  by_cases e:i < s0 p (rdM M 1).n
  ·exact kv.mid i hi e
  ·have:=hall (i - s0 p (rdM M 1).n) (by omega) (by omega)
   rwa [show s0 p (rdM M 1).n + (i - s0 p (rdM M 1).n)=i by omega] at this
 ·rw [r 0 (by omega)] at h2
  rw [r i (by omega)]
  exact kv.lo i hi h2
 ·rw [r i (by omega)] at h2 ⊢
  exact kv.one i hi h2
 ·rw [rdM_putM]
  split
  ·simp [putM]
  ·have:=kv.vck i; simp only [putM]; omega
 ·exact Trq.put M 1 _ _ (fun e=>by omega) (fun _=>by omega) (fun e=>by omega)
 ·rw [r1,r 0 (by omega)]
  have:=h.len
  simp only [List.length_append,List.length_singleton]
  push_cast
  omega
 ·rw [r 0 (by omega)]
  have hs:∀ i:Int,2 ≤ i → slotI (putM M 1 ((rdM M 1).n + 1) []) i=slotI M i:=fun i hi=>by unfold slotI; rw [r i (by omega)]
  have hge:=s0_ge p (s:=(rdM M 0).n + j) (by omega)
  by_cases e:j < Ls.length
  ·rw [List.getElem?_append_left e] at hj
   rw [fillI_congr (M:=M) (fun i _=>hs _ (by omega))]
   exact h.at_ j l hj
  ·have hlen:=h.len
   have hjl:=(List.getElem?_eq_some_iff.1 hj).1
   simp at hjl
   have:j=Ls.length:=by omega
   subst this
   simp at hj
   subst hj
   rw [fillI_nil]
   intro i hi
   have e1:(rdM M 0).n + (Ls.length:Int)=(rdM M 1).n + 1:=by omega
   rw [e1] at hge ⊢
   rw [r _ (by omega),kv.up _ (by omega)]
   omega
theorem kv_head {p : Nat} {M : Mem} (hp : 1 ≤ p) (kv : KV p M) (hlt : (rdM M 0).n < (rdM M 1).n) (hall : ∀ j, 0 ≤ j → j < (p : Int) → (rdM M (s0 p (rdM M 0).n + j)).n = 2) :
    KV p (putM M 0 ((rdM M 0).n + 1) []) ∧ Trq M (putM M 0 ((rdM M 0).n + 1) []) ∧ ∀ Ls,LQ p M Ls → ∃ Ls',LQ p (putM M 0 ((rdM M 0).n + 1) []) Ls' ∧ Ls'.flatten=Ls.flatten:=by
 have h0:=kv.h0
 have ht:=kv.ht
 have r:∀ i:Int,i ≠ 0 → rdM (putM M 0 ((rdM M 0).n + 1) []) i=rdM M i:=fun i hi=>by rw [rdM_putM,if_neg (by omega)]
 have r1:(rdM (putM M 0 ((rdM M 0).n + 1) []) 0).n=(rdM M 0).n + 1:=by rw [rdM_putM,if_pos (by omega)]
 refine ⟨⟨by rw [r1]; omega,by rw [r 1 (by omega),r1]; omega,fun i hi=>by rw [r i (by omega)]; exact kv.st i hi,fun i hi=>?_,fun i hi h2=>?_,fun i hi h2=>?_,fun i hi h2=>?_,fun i=>?_⟩,?_,fun Ls h=>?_⟩
 ·rw [r 1 (by omega)] at hi
  have h2:=s0_ge p (s:=(rdM M 1).n + 1) (by omega)
  rw [r i (by omega)]
  exact kv.up i (by omega)
 ·rw [r 1 (by omega)] at h2
  rw [r i (by omega)]
  exact kv.mid i hi h2
 ·rw [r1,s0_1] at h2
  rw [r i (by omega)]
  by_cases e:i < s0 p (rdM M 0).n
  ·exact kv.lo i hi e
  ·have:=hall (i - s0 p (rdM M 0).n) (by omega) (by omega)
   rwa [show s0 p (rdM M 0).n + (i - s0 p (rdM M 0).n)=i by omega] at this
 ·rw [r i (by omega)] at h2 ⊢
  exact kv.one i hi h2
 ·rw [rdM_putM]
  split
  ·simp [putM]
  ·have:=kv.vck i; simp only [putM]; omega
 ·exact Trq.put M 0 _ _ (fun _=>by omega) (fun e=>by omega) (fun e=>by omega)
 ·have hlen:=h.len
  match Ls,h,hlen with
  | [],h,hlen=>simp at hlen; omega
  | A :: rest,h,hlen =>
   simp at hlen
   have hA:=h.at_ 0 A rfl
   rw [fillI_nil] at hA
   ·have hA:=List.Perm.eq_nil hA
    subst hA
    refine ⟨rest,⟨by rw [r1,r 1 (by omega)]; omega,fun j l hj=>?_⟩,by simp⟩
    have:=h.at_ (j + 1) l (by simpa using hj)
    rw [r1]
    have e1:(rdM M 0).n + ((j + 1:Nat):Int)=(rdM M 0).n + 1 + j:=by push_cast; omega
    rw [e1] at this
    have hge:=s0_ge p (s:=(rdM M 0).n + 1 + j) (by omega)
    rw [fillI_congr (M:=M)]
    ·exact this
    ·intro i _
     unfold slotI
     rw [r _ (by omega)]
   ·intro i hi
    have e1:(rdM M 0).n + ((0:Nat):Int)=(rdM M 0).n:=by omega
    rw [e1,hall i (by omega) (by omega)]
    omega
theorem kv_slot {p : Nat} {M : Mem} (hp : 1 ≤ p) (kv : KV p M) {i : Nat} {n : Int} {l : List It} {s : Int} (hs : s0 p s ≤ i ∧ (i : Int) < s0 p (s + 1)) (hsr : (rdM M 0).n ≤ s ∧ s ≤ (rdM M 1).n) (hn : n = 1 ∨ n = 2) (h1 : n = 1 → ∃ y, l = [y] ∧ y.canon = y) (h2 : (rdM M i).n ≠ 2) :
    KV p (putM M i n l) ∧ Trq M (putM M i n l):=by
 have h0:=kv.h0
 have ht:=kv.ht
 have hi2:=s0_ge p (s:=s) (by omega)
 have r:∀ j:Int,j ≠ i → rdM (putM M i n l) j=rdM M j:=fun j hj=>by rw [rdM_putM,if_neg (fun e=>hj e.symm)]
 have ri:rdM (putM M i n l) i=⟨M.ck + 1,n,l⟩:=by rw [rdM_putM,if_pos rfl]
 have r0:=r 0 (by omega)
 have r1:=r 1 (by omega)
 refine ⟨⟨by rw [r0]; exact h0,by rw [r0,r1]; exact ht,fun j hj=>?_,fun j hj=>?_,fun j hj h3=>?_,fun j hj h3=>?_,fun j hj h3=>?_,fun j=>?_⟩,Trq.put M i _ _ (fun e=>by omega) (fun e=>by omega) (fun _=>⟨by omega,h2⟩)⟩
 ·by_cases e:j=i
  ·subst e; rw [ri]; simp only; omega
  ·rw [r j e]; exact kv.st j hj
 ·rw [r1] at hj
  have h3:=s0_mono (p:=p) (show s + 1 ≤ (rdM M 1).n + 1 by omega)
  rw [r j (by omega)]
  exact kv.up j hj
 ·rw [r1] at h3
  by_cases e:j=i
  ·subst e; rw [ri]; simp only; omega
  ·rw [r j e]; exact kv.mid j hj h3
 ·rw [r0] at h3
  have h4:=s0_mono (p:=p) hsr.1
  rw [r j (by omega)]
  exact kv.lo j hj h3
 ·by_cases e:j=i
  ·subst e
   rw [ri] at h3 ⊢
   exact h1 h3
  ·rw [r j e] at h3 ⊢
   exact kv.one j hj h3
 ·rw [rdM_putM]
  split
  ·simp [putM]
  ·have:=kv.vck j; simp only [putM]; omega
theorem fill_len {p:Nat} {M:Mem} (kv:KV p M) {a:Int} (ha:2 ≤ a):∀ n:Nat,(fillI M a n).length ≤ n ∧ ∀ y ∈ fillI M a n,y.canon=y
 | 0=>by simp [fillI]
 | n + 1=>by
  obtain ⟨h1,h2⟩:=fill_len kv ha n
  rw [fillI]
  unfold slotI
  split
  ·rename_i h
   obtain ⟨y,e1,e2⟩:=kv.one (a + n) (by omega) h
   rw [e1]
   refine ⟨by simp; omega,fun z hz=>?_⟩
   rcases List.mem_append.1 hz with hz | hz
   ·exact h2 z hz
   ·simp at hz; subst hz; exact e2
  ·refine ⟨by simp; omega,fun z hz=>h2 z (by simpa using hz)⟩
theorem findI_app {x:It}:∀ {A B:List It} {i:Nat},(∃ y ∈ A,x.canon=y.canon) → ∃ j:Nat,∃ y,findI x (A ++ B) i=((i + j:Nat):Int) ∧ A[j]? = some y ∧ x.canon=y.canon
 | [],B,i,h=>by obtain ⟨y,hy,_⟩:=h; cases hy
 | z :: A,B,i,h=>by
  rw [List.cons_append,findI]
  by_cases e:x.canon=z.canon
  ·exact ⟨0,z,by rw [if_pos e]; rfl,rfl,e⟩
  ·rw [if_neg e]
   obtain ⟨y,hy,hxy⟩:=h
   rcases List.mem_cons.1 hy with rfl | hy
   ·exact absurd hxy e
   ·obtain ⟨j,y',h1,h2,h3⟩:=findI_app (B:=B) (i:=i + 1) ⟨y,hy,hxy⟩
    exact ⟨j + 1,y',by rw [h1]; congr 1; omega,by simpa using h2,h3⟩
theorem erase_perm {A:List It} {j:Nat} {y:It} (h:A[j]? = some y):A.Perm (y :: A.eraseIdx j):=by
 induction A generalizing j with
 | nil=>simp at h
 | cons z A ih =>
  cases j with
  | zero=>simp at h; subst h; exact List.Perm.refl _
  | succ j =>
   simp at h
   rw [List.eraseIdx_cons_succ]
   exact (List.Perm.cons z (ih h)).trans (List.Perm.swap _ _ _)
theorem qs_enq {p:Nat} {M:Mem} {f:FrR} (hp:1 ≤ p) (kv:KV p M) (qf:QF p M f) (hpc:f.pc=0 ∨ f.pc=1 ∨ f.pc=2 ∨ f.pc=3) (h3:f.o.k=3):QS p M f (enqP p M f):=by
 have h4:¬ f.o.k=4:=by omega
 unfold enqP
 by_cases c0:f.pc=0
 ·rw [if_pos c0]
  refine QS.same kv (fun hd=>?_) rfl
  have hfit:fitsK p (rdM M 1).n=true:=by simpa using hd
  have h0:=kv.h0
  have ht:=kv.ht
  refine ⟨fun _ _=>⟨hfit,by simp only [begK]; omega,by simp [begK],by simp only [begK,FrR.c0]; exact kv.vck 1,fun _=>rfl⟩,fun _ _=>⟨by simp [begK],by simp [begK]; omega,fun j j1 j2=>by simp [begK] at j2; omega⟩,fun _ e=>by simp [begK,FrR.c0,c0] at e,fun _ e=>by simp [begK,FrR.c0,c0] at e,fun e=>?_,fun e=>?_,fun e=>?_,fun e=>?_,fun e=>?_,fun e=>?_⟩
  all_goals exact absurd e h4
 ·rw [if_neg c0]
  obtain ⟨g1,g2,g3,g4,g5⟩:=qf.enq h3 c0
  have hin:=slotK_in hp f
  have hge:=s0_ge p g2
  by_cases c1:f.pc=1
  ·rw [if_pos c1]
   obtain ⟨s1,s2,s3⟩:=qf.enq1 h3 c1
   split
   ·rename_i hz
    refine QS.same kv (fun _=>?_) rfl
    refine ⟨fun _ _=>⟨g1,g2,g3,g4,g5⟩,fun _ e=>by simp at e,fun _ _=>⟨kv.vck _,fun _=>hz⟩,fun _ e=>by simp at e,fun e=>?_,fun e=>?_,fun e=>?_,fun e=>?_,fun e=>?_,fun e=>?_⟩
    all_goals exact absurd e h4
   ·rename_i hz
    have hall:∀ j,0 ≤ j → j < f.seen + 1 → (rdM M (s0 p f.seg + (f.at_ + j) % p)).n ≠ 0:=by
     intro j j1 j2
     by_cases e:j=f.seen
     ·subst e; exact hz
     ·exact s3 j j1 (by omega)
    refine QS.same kv (fun _=>?_) rfl
    refine ⟨fun _ _=>⟨g1,g2,g3,g4,g5⟩,fun _ e=>?_,fun _ e=>?_,fun _ e=>?_,fun e=>?_,fun e=>?_,fun e=>?_,fun e=>?_,fun e=>?_,fun e=>?_⟩
    ·simp only [FrR.c1] at e ⊢
     split at e
     ·omega
     ·exact ⟨by omega,by omega,hall⟩
    ·simp only [FrR.c1] at e
     split at e <;> omega
    ·simp only [FrR.c1] at e ⊢
     split at e
     ·rename_i hsp
      intro j j1 j2
      obtain ⟨i,i1,i2,i3⟩:=mod_all hp f.at_ j ⟨j1,j2⟩
      rw [← i3]
      exact hall i i1 (by omega)
     ·omega
    all_goals exact absurd e h4
  ·rw [if_neg c1]
   by_cases c2:f.pc=2
   ·rw [if_pos c2]
    obtain ⟨v1,v2⟩:=qf.enq2 h3 c2
    split
    ·rename_i hw
     obtain ⟨w1,w2⟩:=wr_fresh hw
     have hz:=v2 w2
     rw [wrM_t hw]
     obtain ⟨i,hi⟩:∃ i:Nat,slotK p f=i:=⟨(slotK p f).toNat,by omega⟩
     rw [hi] at hz hin ⊢
     rw [Int.toNat_natCast]
     have hseg:f.seg=(rdM M 1).n:=by
      by_cases e:f.seg=(rdM M 1).n
      ·exact e
      ·have:=s0_mono (p:=p) (show f.seg + 1 ≤ (rdM M 1).n by omega)
       exact absurd hz (kv.mid i (by omega) (by omega))
     have hcn:f.o.x.canon.canon=f.o.x.canon:=by simp [It.canon,canon_canon]
     obtain ⟨k1,k2⟩:=kv_slot hp kv (i:=i) (n:=1) (l:=[f.o.x.canon]) hin ⟨by have:=kv.ht; omega,by omega⟩ (.inl rfl) (fun _=>⟨_,rfl,hcn⟩) (by omega)
     refine ⟨k1,k2,fun hd=>by simp at hd,fun _ e=>by simp at e,fun Ls h=>?_⟩
     have hlen:=h.len
     have ht:=kv.ht
     have h0:=kv.h0
     have hl1:0 < Ls.length:=by omega
     obtain ⟨m,hm⟩:∃ m,Ls.length=m + 1:=⟨Ls.length - 1,by omega⟩
     obtain ⟨A,hA⟩:∃ A,Ls[m]? = some A:=⟨_,List.getElem?_eq_getElem (by omega)⟩
     have hLs:Ls=Ls.take m ++ [A] := by
      have:=List.take_append_getElem (l:=Ls) (i:=m) (by omega)
      have e2:Ls[m] = A:=by rw [List.getElem?_eq_getElem (by omega)] at hA; exact Option.some.inj hA
      rw [e2] at this
      rw [this,← hm,List.take_length]
     have r0:rdM (putM M i 1 [f.o.x.canon]) 0=rdM M 0:=by rw [rdM_putM,if_neg (by omega)]
     have r1:rdM (putM M i 1 [f.o.x.canon]) 1=rdM M 1:=by rw [rdM_putM,if_neg (by omega)]
     refine ⟨Ls.take m ++ [A ++ [f.o.x.canon]],⟨?_,fun j l hj=>?_⟩,fun hd=>by simp at hd,fun _ _ _=>?_,fun _ _ e=>absurd e h4⟩
     ·rw [r0,r1]
      simp only [List.length_append,List.length_take,List.length_singleton]
      omega
     ·rw [r0]
      have hjm:(j < m ∧ Ls[j]? = some l) ∨ (j=m ∧ l=A ++ [f.o.x.canon]):=by
       by_cases e:j < m
       ·rw [List.getElem?_append_left (by simp; omega),List.getElem?_take,if_pos e] at hj
        exact .inl ⟨e,hj⟩
       ·have hjl:=(List.getElem?_eq_some_iff.1 hj).1
        simp at hjl
        have:j=m:=by omega
        subst this
        rw [List.getElem?_append_right (by simp; omega)] at hj
        simp at hj
        have e3:min j Ls.length=j:=by omega
        rw [e3] at hj
        simp at hj
        exact .inr ⟨rfl,hj.symm⟩
      have hs:∀ t:Int,t ≠ i → slotI (putM M i 1 [f.o.x.canon]) t=slotI M t:=fun t ht=>by rw [slotI_put,if_neg (fun e=>ht e.symm)]
      rcases hjm with ⟨e,hl⟩ | ⟨e,hl⟩
      ·rw [fillI_congr (M:=M)]
       ·exact h.at_ j l hl
       ·intro t ht2
        have e1:=s0_mono (p:=p) (show (rdM M 0).n + j + 1 ≤ f.seg by omega)
        rw [s0_1] at e1
        exact hs _ (by omega)
      ·subst hl
       have e1:(rdM M 0).n + (j:Int)=f.seg:=by omega
       have hAt:=h.at_ m A hA
       rw [← e,e1] at hAt
       rw [e1]
       rw [s0_1] at hin
       obtain ⟨rr,p1,p2⟩:=fillI_one (M:=M) (M':=putM M i 1 [f.o.x.canon]) (a:=s0 p f.seg) (i:=i) (n:=p) hin.1 (by omega) hs
       have z1:slotI M i=[] := by unfold slotI; rw [if_neg (by omega)]
       have z2:slotI (putM M i 1 [f.o.x.canon]) i=[f.o.x.canon] := by rw [slotI_put,if_pos rfl,if_pos rfl]
       rw [z1] at p1
       rw [z2] at p2
       refine List.Perm.trans ?_ p2.symm
       refine List.perm_append_comm.trans (List.Perm.append_left _ ?_)
       exact hAt.trans p1
     ·conv=>rhs; rw [hLs]
      simp
    ·refine ⟨kv,.rfl' M,fun _=>QF.zero rfl,fun e=>by simp at e,fun Ls h=>⟨Ls,h,fun _=>rfl,fun e=>by simp at e,fun e=>by simp at e⟩⟩
   ·rw [if_neg c2]
    have c3:f.pc=3:=by omega
    have hall:=qf.enq3 h3 c3
    by_cases hw:wrB M 1 f.v0=true
    ·obtain ⟨w1,w2⟩:=wr_fresh hw
     have hseg:=g5 w2
     rw [← hseg] at hall ⊢
     rw [wrM_t hw]
     obtain ⟨k1,k2,k3⟩:=kv_tail hp kv hall
     exact ⟨k1,k2,fun _=>QF.zero rfl,fun e=>by simp at e,fun Ls h=>⟨Ls ++ [[]],k3 Ls h,fun _=>by simp,fun e=>by simp at e,fun e=>by simp at e⟩⟩
    ·rw [wrM_f hw]
     exact ⟨kv,.rfl' M,fun _=>QF.zero rfl,fun e=>by simp at e,fun Ls h=>⟨Ls,h,fun _=>rfl,fun e=>by simp at e,fun e=>by simp at e⟩⟩
theorem qs_deq {p:Nat} {M:Mem} {f:FrR} (hp:1 ≤ p) (kv:KV p M) (qf:QF p M f) (hpc:f.pc=0 ∨ f.pc=1 ∨ f.pc=2 ∨ f.pc=3 ∨ f.pc=4 ∨ f.pc=5) (h4:f.o.k=4):QS p M f (deqP p M f):=by
 have h3:¬ f.o.k=3:=by omega
 have h0:=kv.h0
 have ht:=kv.ht
 unfold deqP
 by_cases c0:f.pc=0
 ·rw [if_pos c0]
  refine QS.same kv (fun hd=>?_) rfl
  refine ⟨fun e=>absurd e h3,fun e=>absurd e h3,fun e=>absurd e h3,fun e=>absurd e h3,fun _ _=>⟨h0,Int.le_refl _,kv.vck 0,fun _=>rfl⟩,fun _ e=>by simp at e,fun _ e=>by simp at e,fun _ e=>by simp at e,fun _ e=>by simp at e,fun _=>⟨fun e=>by simp at e,fun e=>by simp at e⟩⟩
 ·rw [if_neg c0]
  obtain ⟨g2,g3,g4,g5⟩:=qf.deq h4 c0
  have hin:=slotK_in hp f
  have hge:=s0_ge p g2
  by_cases c1:f.pc=1
  ·rw [if_pos c1]
   refine QS.same kv (fun _=>?_) rfl
   refine ⟨fun e=>absurd e h3,fun e=>absurd e h3,fun e=>absurd e h3,fun e=>absurd e h3,fun _ _=>⟨g2,g3,g4,g5⟩,fun _ _=>⟨by simp [begK],by simp [begK]; omega,fun _ j j1 j2=>by simp [begK] at j2; omega⟩,fun _ _=>⟨kv.vck 1,by simp only [begK,FrR.c1]; omega,Int.le_refl _,fun _=>rfl⟩,fun _ e=>by simp [begK,FrR.c1,c1] at e,fun _ e=>by simp [begK,FrR.c1,c1] at e,fun _=>⟨fun e=>by simp [begK,FrR.c1,c1] at e,fun e=>by simp [begK,FrR.c1,c1] at e⟩⟩
  ·rw [if_neg c1]
   by_cases c2:f.pc=2
   ·rw [if_pos c2]
    obtain ⟨s1,s2,s3⟩:=qf.deq2 h4 c2
    obtain ⟨t1,t2,t3,t4⟩:=qf.deqt h4 (.inl c2)
    unfold lookP
    split
    ·rename_i hf1
     refine QS.same kv (fun _=>?_) rfl
     refine ⟨fun e=>absurd e h3,fun e=>absurd e h3,fun e=>absurd e h3,fun e=>absurd e h3,fun _ _=>⟨g2,g3,g4,g5⟩,fun _ e=>by simp at e,fun _ e=>by simp at e,fun _ _=>⟨kv.vck _,fun _=>⟨hf1,rfl⟩⟩,fun _ e=>by simp at e,fun _=>⟨fun e=>by simp at e,fun e=>by simp at e⟩⟩
    ·rename_i hf1
     have hall:(f.em || (rdM M (slotK p f)).n == 0)=false → ∀ j,0 ≤ j → j < f.seen + 1 → (rdM M (s0 p f.seg + (f.at_ + j) % p)).n=2:=by
      intro hem j j1 j2
      simp only [Bool.or_eq_false_iff] at hem
      by_cases e:j=f.seen
      ·subst e
       have h5:=kv.st (slotK p f) (by omega)
       have h6:(rdM M (slotK p f)).n ≠ 0:=by simpa using hem.2
       have h7:(rdM M (slotK p f)).n=2:=by omega
       exact h7
      ·exact s3 hem.1 j j1 (by omega)
     split
     ·refine QS.same kv (fun _=>?_) rfl
      refine ⟨fun e=>absurd e h3,fun e=>absurd e h3,fun e=>absurd e h3,fun e=>absurd e h3,fun _ _=>⟨g2,g3,g4,g5⟩,fun _ _=>⟨by simp only; omega,by simp only; omega,hall⟩,fun _ _=>⟨t1,t2,t3,t4⟩,fun _ e=>by simp only at e; omega,fun _ e=>by simp only at e; omega,fun _=>⟨fun e=>by simp only at e; omega,fun e=>by simp only at e; omega⟩⟩
     ·rename_i hsn
      refine QS.same kv (fun hem=>?_) rfl
      have hall2:∀ j,0 ≤ j → j < (p:Int) → (rdM M (s0 p f.seg + j)).n=2:=by
       intro j j1 j2
       obtain ⟨i,i1,i2,i3⟩:=mod_all hp f.at_ j ⟨j1,j2⟩
       rw [← i3]
       exact hall hem i i1 (by omega)
      refine ⟨fun e=>absurd e h3,fun e=>absurd e h3,fun e=>absurd e h3,fun e=>absurd e h3,fun _ _=>⟨g2,g3,g4,g5⟩,fun _ e=>by simp only at e; split at e <;> omega,fun _ _=>⟨t1,t2,t3,t4⟩,fun _ e=>by simp only at e; split at e <;> omega,fun _ _=>hall2,fun _=>⟨fun e=>?_,fun e=>?_⟩⟩
      ·simp only at e ⊢
       split at e
       ·assumption
       ·omega
      ·simp only at e ⊢
       split at e
       ·omega
       ·assumption
   ·rw [if_neg c2]
    by_cases c3:f.pc=3
    ·rw [if_pos c3]
     obtain ⟨v1,v2⟩:=qf.deq3 h4 c3
     split
     ·rename_i hw
      obtain ⟨w1,w2⟩:=wr_fresh hw
      obtain ⟨hz,hl1⟩:=v2 w2
      rw [wrM_t hw]
      obtain ⟨i,hi⟩:∃ i:Nat,slotK p f=i:=⟨(slotK p f).toNat,by omega⟩
      rw [hi] at hz hin hl1 ⊢
      rw [Int.toNat_natCast]
      have hseg:f.seg=(rdM M 0).n:=by
       by_cases e:f.seg=(rdM M 0).n
       ·exact e
       ·have:=s0_mono (p:=p) (show f.seg + 1 ≤ (rdM M 0).n by omega)
        have:=kv.lo i (by omega) (by omega)
        omega
      obtain ⟨y,y1,y2⟩:=kv.one i (by omega) hz
      obtain ⟨k1,k2⟩:=kv_slot hp kv (i:=i) (n:=2) (l:=[]) hin ⟨by omega,by omega⟩ (.inr rfl) (fun e=>by omega) (by omega)
      refine ⟨k1,k2,fun hd=>by simp at hd,fun _ e=>by simp at e,fun Ls h=>?_⟩
      have hlen:=h.len
      have hax:f.l1.headD ⟨0,0⟩=y:=by rw [← hl1,y1]; rfl
      rw [hax]
      have r0:rdM (putM M i 2 []) 0=rdM M 0:=by rw [rdM_putM,if_neg (by omega)]
      have r1:rdM (putM M i 2 []) 1=rdM M 1:=by rw [rdM_putM,if_neg (by omega)]
      have hs:∀ t:Int,t ≠ i → slotI (putM M i 2 []) t=slotI M t:=fun t ht=>by rw [slotI_put,if_neg (fun e=>ht e.symm)]
      match Ls,h,hlen with
      | [],h,hlen=>simp at hlen; omega
      | A :: rest,h,hlen =>
       have hA:=h.at_ 0 A rfl
       have e1:(rdM M 0).n + ((0:Nat):Int)=f.seg:=by omega
       rw [e1] at hA
       rw [s0_1] at hin
       obtain ⟨rr,p1,p2⟩:=fillI_one (M:=M) (M':=putM M i 2 []) (a:=s0 p f.seg) (i:=i) (n:=p) hin.1 (by omega) hs
       have z1:slotI M i=[y] := by unfold slotI; rw [if_pos hz,y1]
       have z2:slotI (putM M i 2 []) i=[] := by rw [slotI_put,if_pos rfl,if_neg (by omega)]
       rw [z1] at p1
       rw [z2] at p2
       obtain ⟨fl1,fl2⟩:=fill_len kv hge p
       have hAl:A.length ≤ p:=by rw [hA.length_eq]; exact fl1
       have hAy:y ∈ A:=(hA.trans p1).mem_iff.2 (by simp)
       obtain ⟨j,z,q1,q2,q3⟩:=findI_app (x:=y) (A:=A) (B:=rest.flatten) (i:=0) ⟨y,hAy,rfl⟩
       have hzc:z.canon=z:=fl2 z (hA.mem_iff.1 (List.mem_of_getElem? q2))
       have hzy:z=y:=by rw [← hzc,← q3,y2]
       subst hzy
       have hjA:=(List.getElem?_eq_some_iff.1 q2).1
       have hout:outI z (A ++ rest.flatten) p=some (A.eraseIdx j ++ rest.flatten):=by
        unfold outI
        rw [q1,if_neg (by omega)]
        congr 1
        have e4:(((0 + j:Nat):Int)).toNat=j:=by omega
        rw [e4]
        exact List.eraseIdx_append_of_lt_length hjA _
       refine ⟨A.eraseIdx j :: rest,⟨by rw [r0,r1]; simpa using hlen,fun t l ht2=>?_⟩,fun hd=>by simp at hd,fun _ _ e=>absurd e h3,fun _ _ _=>by simpa using hout⟩
       rw [r0]
       cases t with
       | zero =>
        simp at ht2
        subst ht2
        rw [e1]
        refine List.Perm.trans ?_ p2.symm
        have:=((erase_perm q2).symm.trans (hA.trans p1))
        exact List.Perm.cons_inv this
       | succ t =>
        simp at ht2
        have:=h.at_ (t + 1) l (by simpa using ht2)
        rw [fillI_congr (M:=M)]
        ·exact this
        ·intro u hu
         have e5:=s0_mono (p:=p) (show f.seg + 1 ≤ (rdM M 0).n + ((t + 1:Nat):Int) by push_cast; omega)
         rw [s0_1] at e5
         exact hs _ (by omega)
     ·refine ⟨kv,.rfl' M,fun _=>QF.zero rfl,fun e=>by simp at e,fun Ls h=>⟨Ls,h,fun _=>rfl,fun e=>by simp at e,fun e=>by simp at e⟩⟩
    ·rw [if_neg c3]
     by_cases c4:f.pc=4
     ·rw [if_pos c4]
      obtain ⟨t1,t2,t3,t4⟩:=qf.deqt h4 (.inr (.inl c4))
      have hall:=qf.deq4 h4 (.inl c4)
      have hn1:=(qf.deq5 h4).1 c4
      by_cases hw:wrB M 1 f.v1=true
      ·obtain ⟨w1,w2⟩:=wr_fresh hw
       have hseg:=t4 w2
       rw [hn1] at hseg
       rw [← hseg] at hall ⊢
       rw [wrM_t hw]
       obtain ⟨k1,k2,k3⟩:=kv_tail hp kv (fun j j1 j2=>by rw [hall j j1 j2]; omega)
       exact ⟨k1,k2,fun _=>QF.zero rfl,fun e=>by simp at e,fun Ls h=>⟨Ls ++ [[]],k3 Ls h,fun _=>by simp,fun e=>by simp at e,fun e=>by simp at e⟩⟩
      ·rw [wrM_f hw]
       exact ⟨kv,.rfl' M,fun _=>QF.zero rfl,fun e=>by simp at e,fun Ls h=>⟨Ls,h,fun _=>rfl,fun e=>by simp at e,fun e=>by simp at e⟩⟩
     ·rw [if_neg c4]
      have c5:f.pc=5:=by omega
      obtain ⟨t1,t2,t3,t4⟩:=qf.deqt h4 (.inr (.inr c5))
      have hall:=qf.deq4 h4 (.inr c5)
      have hn1:=(qf.deq5 h4).2 c5
      by_cases hw:wrB M 0 f.v0=true
      ·obtain ⟨w1,w2⟩:=wr_fresh hw
       have hseg:=g5 w2
       rw [← hseg] at hall ⊢
       rw [wrM_t hw]
       obtain ⟨k1,k2,k3⟩:=kv_head hp kv (by omega) hall
       refine ⟨k1,k2,fun _=>QF.zero rfl,fun e=>by simp at e,fun Ls h=>?_⟩
       obtain ⟨Ls',l1,l2⟩:=k3 Ls h
       exact ⟨Ls',l1,fun _=>l2,fun e=>by simp at e,fun e=>by simp at e⟩
      ·rw [wrM_f hw]
       exact ⟨kv,.rfl' M,fun _=>QF.zero rfl,fun e=>by simp at e,fun Ls h=>⟨Ls,h,fun _=>rfl,fun e=>by simp at e,fun e=>by simp at e⟩⟩
theorem fill_cs (M:Mem):∀ n:Nat,n ≤ (M.cs.drop 2).length → fillI M 2 n=(((M.cs.drop 2).take n).filter (fun c=>c.n == 1)).flatMap (·.l)
 | 0,_=>by simp [fillI]
 | n + 1,h=>by
  have hl:2 + n < M.cs.length:=by simp at h; omega
  have hg:(M.cs.drop 2)[n]? = some M.cs[2 + n] := by rw [List.getElem?_drop]; exact List.getElem?_eq_getElem hl
  rw [fillI,fill_cs M n (by omega),List.take_add_one,hg]
  have hr:rdM M (2 + (n:Int))=M.cs[2 + n] := by
   unfold rdM
   rw [if_pos (by omega),show (2 + (n:Int)).toNat=2 + n by omega,List.getElem?_eq_getElem hl]
   rfl
  unfold slotI
  rw [hr,List.filter_append,List.flatMap_append]
  congr 1
  by_cases e:M.cs[2 + n].n=1
  ·simp [e]
  ·simp [e]
theorem fill_more {M:Mem} {a:Int} {n:Nat}:∀ m:Nat,(∀ j:Nat,n ≤ j → (rdM M (a + j)).n ≠ 1) → fillI M a (n + m)=fillI M a n:=fun m h=>by
 have e:fillI M (a + n) m=[] := fillI_nil (fun j _=>by
  have:=h (n + j) (by omega)
  rwa [show a + ((n + j:Nat):Int)=a + n + j by push_cast; omega] at this)
 rw [fillI_add,e,List.append_nil]
theorem fill_segs {p:Nat} {M:Mem} {Ls:List (List It)} (h:LQ p M Ls):∀ n:Nat,n ≤ Ls.length → (fillI M (s0 p (rdM M 0).n) (n * p)).Perm (Ls.take n).flatten
 | 0,_=>by simp [fillI]
 | n + 1,hn=>by
  obtain ⟨l,hl⟩:∃ l,Ls[n]? = some l:=⟨_,List.getElem?_eq_getElem (by omega)⟩
  rw [Nat.add_mul,Nat.one_mul,fillI_add,List.take_add_one,hl]
  simp only [Option.toList,List.flatten_append,List.flatten_cons,List.flatten_nil,List.append_nil]
  refine (fill_segs h n (by omega)).append ?_
  have:=(h.at_ n l hl).symm
  rw [s0_add] at this
  have e:s0 p (rdM M 0).n + ((n * p:Nat):Int)=s0 p (rdM M 0).n + (n:Int) * p:=by push_cast; rfl
  rw [e]
  exact this
theorem LQ.line {p:Nat} {M:Mem} {Ls:List (List It)} (h:LQ p M Ls) (kv:KV p M):Ls.flatten.Perm (lineM M):=by
 have h0:=kv.h0
 have ht:=kv.ht
 obtain ⟨hd,hhd⟩:∃ hd:Nat,(rdM M 0).n=hd:=⟨(rdM M 0).n.toNat,by omega⟩
 have hlen:=h.len
 have p1:=fill_segs h Ls.length (Nat.le_refl _)
 rw [List.take_length] at p1
 have e1:fillI M 2 (hd * p + Ls.length * p)=fillI M (s0 p (rdM M 0).n) (Ls.length * p):=by
  rw [fillI_add,fillI_nil,List.nil_append]
  ·congr 1
   unfold s0
   rw [hhd]
   push_cast
   rfl
  ·intro j hj
   have hj2:(j:Int) < ((hd * p:Nat):Int):=by omega
   push_cast at hj2
   have:(rdM M (2 + (j:Int))).n=2:=kv.lo _ (by omega) (by unfold s0; rw [hhd]; omega)
   omega
 rw [← e1] at p1
 obtain ⟨N,hN⟩:∃ N,N=hd * p + Ls.length * p:=⟨_,rfl⟩
 have hNe:(N:Int)=((rdM M 1).n + 1) * p:=by
  rw [hN]
  push_cast
  rw [hlen,hhd,← Int.add_mul]
  congr 1
  omega
 rw [← hN] at p1
 obtain ⟨m,hm⟩:∃ m,m=(M.cs.drop 2).length:=⟨_,rfl⟩
 have q1:fillI M 2 (N + m)=fillI M 2 N:=fill_more m (fun j hj=>by
  have:(rdM M (2 + (j:Int))).n=0:=kv.up _ (by unfold s0; omega)
  omega)
 have q2:fillI M 2 (m + N)=fillI M 2 m:=fill_more N (fun j hj=>by
  have:(rdM M (2 + (j:Int))).n=0:=by
   unfold rdM
   rw [if_pos (by omega),List.getElem?_eq_none (by simp at hm; omega)]
   rfl
  omega)
 rw [← q1,Nat.add_comm,q2,fill_cs M m (by omega),hm,List.take_length] at p1
 refine p1.symm.trans ?_
 unfold lineM
 exact List.Perm.flatMap_right _ (List.mergeSort_perm _ _).symm
end Go.AM

namespace Go.AM
def gateC (g:Nat × Nat) (n:Int) (c:Nat → Int):Nat → Int:=fun w=>if w=g.1 then n - n / 2 else if w=g.2 then n / 2 else c w
def flowG:List (Nat × Nat) → (Nat → Int) → (Nat → Int)
 | [],c=>c
 | g :: r,c=>flowG r (gateC g (c g.1 + c g.2) c)
theorem flowG_app:∀ (a b:List (Nat × Nat)) (c:Nat → Int),flowG (a ++ b) c=flowG b (flowG a c)
 | [],_,_=>rfl
 | g :: r,b,c=>by
  simp only [List.cons_append,flowG]
  exact flowG_app r b _
theorem flowG_out:∀ (gs:List (Nat × Nat)) (c:Nat → Int) (w:Nat),(∀ g ∈ gs,w ≠ g.1 ∧ w ≠ g.2) → flowG gs c w=c w
 | [],_,_,_=>rfl
 | g :: r,c,w,h=>by
  obtain ⟨h1,h2⟩:=h g (by simp)
  rw [flowG,flowG_out r _ w (fun g hg=>h g (by simp [hg]))]
  unfold gateC
  rw [if_neg h1,if_neg h2]
def stq (n:Nat) (T:Int) (i:Nat):Int:=(T + n - 1 - i) / n
def StQ (c:Nat → Int) (l:List Nat) (T:Int):Prop:=∀ (i w:Nat),l[i]? = some w → c w=stq l.length T i
theorem stq_ev {n:Nat} (hn:0 < n) (T:Int) (j:Nat):stq (2 * n) T (2 * j)=stq n ((T + 1) / 2) j:=by
 unfold stq
 have h1:((2 * n:Nat):Int)=2 * (n:Int):=by omega
 have h2:((2 * j:Nat):Int)=2 * (j:Int):=by omega
 rw [h1,h2,← Int.ediv_ediv_of_nonneg (by omega)]
 congr 1
 omega
theorem stq_od {n:Nat} (hn:0 < n) (T:Int) (j:Nat):stq (2 * n) T (2 * j + 1)=stq n (T / 2) j:=by
 unfold stq
 have h1:((2 * n:Nat):Int)=2 * (n:Int):=by omega
 have h2:((2 * j + 1:Nat):Int)=2 * (j:Int) + 1:=by omega
 rw [h1,h2,← Int.ediv_ediv_of_nonneg (by omega)]
 congr 1
 omega
theorem stq_mono {n:Nat} (hn:0 < n) {S T:Int} (h:S ≤ T) (i:Nat):stq n S i ≤ stq n T i:=Int.ediv_le_ediv (by omega) (by omega)
theorem stq_succ {n:Nat} (hn:0 < n) (T:Int) (i:Nat):stq n (T + 1) i ≤ stq n T i + 1:=by
 unfold stq
 have h:T + 1 + (n:Int) - 1 - i ≤ (T + n - 1 - i) + n * 1:=by omega
 have h2:=Int.ediv_le_ediv (show (0:Int) < n by omega) h
 rw [Int.add_mul_ediv_left _ _ (by omega)] at h2
 exact h2
theorem evL_get:∀ (l:List Nat) (j:Nat),(evL l)[j]? = l[2 * j]?
 | [],j=>by simp [evL]
 | [x],j=>by
  cases j with
  | zero=>rfl
  | succ j=>simp [evL]
 | x :: y :: r,j=>by
  cases j with
  | zero=>rfl
  | succ j =>
   have e:2 * (j + 1)=2 * j + 1 + 1:=by omega
   rw [evL,List.getElem?_cons_succ,e,List.getElem?_cons_succ,List.getElem?_cons_succ]
   exact evL_get r j
theorem odL_get:∀ (l:List Nat) (j:Nat),(odL l)[j]? = l[2 * j + 1]?
 | [],j=>by simp [odL]
 | [x],j=>by simp [odL]
 | x :: y :: r,j=>by
  cases j with
  | zero=>rfl
  | succ j =>
   have e:2 * (j + 1) + 1=2 * j + 1 + 1 + 1:=by omega
   rw [odL,List.getElem?_cons_succ,e,List.getElem?_cons_succ,List.getElem?_cons_succ]
   exact odL_get r j
theorem evL_len:∀ (l:List Nat) (n:Nat),l.length=2 * n → (evL l).length=n ∧ (odL l).length=n
 | [],n,h=>by
  have:n=0:=by simp at h; omega
  subst this; exact ⟨rfl,rfl⟩
 | [x],n,h=>by simp at h; omega
 | x :: y :: r,n,h=>by
  simp at h
  obtain ⟨m,hm⟩:∃ m,n=m + 1:=⟨n - 1,by omega⟩
  obtain ⟨a,b⟩:=evL_len r m (by omega)
  simp only [evL,odL,List.length_cons]
  omega
theorem evL_perm:∀ (l:List Nat),(evL l ++ odL l).Perm l
 | [] => by simp [evL,odL]
 | [x] => by simp [evL,odL]
 | x :: y :: r=>by
  simp only [evL,odL,List.cons_append]
  refine List.Perm.cons x ?_
  exact List.perm_middle.trans (List.Perm.cons y (evL_perm r))
theorem mixL_get:∀ (x y:List Nat),x.length=y.length → ∀ j,(mixL x y)[2 * j]? = x[j]? ∧ (mixL x y)[2 * j + 1]? = y[j]?
 | [],[],_,j=>by simp [mixL]
 | x :: xs,y :: ys,h,j=>by
  simp at h
  cases j with
  | zero=>exact ⟨rfl,rfl⟩
  | succ j =>
   obtain ⟨a,b⟩:=mixL_get xs ys h j
   have e:2 * (j + 1)=2 * j + 1 + 1:=by omega
   rw [mixL,e]
   simp only [List.getElem?_cons_succ]
   exact ⟨a,b⟩
theorem mixL_perm:∀ (x y:List Nat),x.length=y.length → (mixL x y).Perm (x ++ y)
 | [],[],_=>by simp [mixL]
 | x :: xs,y :: ys,h=>by
  simp at h
  simp only [mixL,List.cons_append]
  refine List.Perm.cons x ?_
  exact (List.Perm.cons y (mixL_perm xs ys h)).trans List.perm_middle.symm
theorem flow_zip : ∀ (a b : List Nat) (c : Nat → Int), a.length = b.length → (a ++ b).Nodup → ∀ (i u v : Nat), a[i]? = some u → b[i]? = some v →
    flowG (a.zip b) c u=(c u + c v) - (c u + c v) / 2 ∧ flowG (a.zip b) c v=(c u + c v) / 2
 | [],[],_,_,_,i,u,v,hu,_=>by simp at hu
 | x :: a,y :: b,c,hl,hn,i,u,v,hu,hv=>by
  simp at hl
  have hn':(x :: (a ++ y :: b)).Nodup:=hn
  rw [List.nodup_cons] at hn'
  obtain ⟨hx,hn2⟩:=hn'
  have hp:(a ++ y :: b).Perm (y :: (a ++ b)):=List.perm_middle
  rw [hp.nodup_iff,List.nodup_cons] at hn2
  obtain ⟨hy,hn3⟩:=hn2
  have hx2:x ≠ y ∧ x ∉ a ∧ x ∉ b:=⟨fun e=>hx (by simp [e]),fun e=>hx (by simp [e]),fun e=>hx (by simp [e])⟩
  have hy2:y ∉ a ∧ y ∉ b:=⟨fun e=>hy (by simp [e]),fun e=>hy (by simp [e])⟩
  have hz:∀ g ∈ a.zip b,g.1 ∈ a ∧ g.2 ∈ b:=fun g hg=>by
   obtain ⟨g1,g2⟩:=g
   exact ⟨(List.of_mem_zip hg).1,(List.of_mem_zip hg).2⟩
  rw [List.zip_cons_cons,flowG]
  cases i with
  | zero =>
   simp at hu hv
   subst hu hv
   rw [flowG_out _ _ x (fun g hg=>⟨fun e=>hx2.2.1 (by rw [e]; exact (hz g hg).1),fun e=>hx2.2.2 (by rw [e]; exact (hz g hg).2)⟩),flowG_out _ _ y (fun g hg=>⟨fun e=>hy2.1 (by rw [e]; exact (hz g hg).1),fun e=>hy2.2 (by rw [e]; exact (hz g hg).2)⟩)]
   unfold gateC
   simp [Ne.symm hx2.1]
  | succ i =>
   simp at hu hv
   have hua:u ∈ a:=List.mem_of_getElem? hu
   have hvb:v ∈ b:=List.mem_of_getElem? hv
   have e1:∀ w,w ∈ a ∨ w ∈ b → gateC (x,y) (c x + c y) c w=c w:=by
    intro w hw
    unfold gateC
    have hwx:w ≠ x:=by rintro rfl; rcases hw with h | h; exact hx2.2.1 h; exact hx2.2.2 h
    have hwy:w ≠ y:=by rintro rfl; rcases hw with h | h; exact hy2.1 h; exact hy2.2 h
    simp [hwx,hwy]
   have ih:=flow_zip a b (gateC (x,y) (c x + c y) c) hl hn3 i u v hu hv
   rw [e1 u (.inl hua),e1 v (.inr hvb)] at ih
   exact ih
theorem StQ.congr {c c':Nat → Int} {l:List Nat} {T:Int} (h:StQ c l T) (e:∀ w ∈ l,c' w=c w):StQ c' l T:=fun i w hi=>by
 rw [e w (List.mem_of_getElem? hi)]; exact h i w hi
theorem merge_step : ∀ (k : Nat) (x y : List Nat) (c : Nat → Int) (X Y : Int), x.length = 2 ^ k → y.length = 2 ^ k → (x ++ y).Nodup → StQ c x X → StQ c y Y →
    StQ (flowG (mergeG k x y).1 c) (mergeG k x y).2 (X + Y) ∧ (mergeG k x y).2.Perm (x ++ y) ∧ ∀ g ∈ (mergeG k x y).1,g.1 ∈ x ++ y ∧ g.2 ∈ x ++ y
 | 0,x,y,c,X,Y,hx,hy,hn,sx,sy=>by
  match x,hx,y,hy with
  | [a],_,[b],_ =>
   have hab:a ≠ b:=by simpa using hn
   have h1:=sx 0 a rfl
   have h2:=sy 0 b rfl
   simp [stq] at h1 h2
   refine ⟨?_,List.Perm.refl _,by simp [mergeG]⟩
   intro i w hi
   simp only [mergeG,List.headD_cons,flowG] at hi ⊢
   have:i=0 ∨ i=1 ∨ 2 ≤ i:=by omega
   rcases this with rfl | rfl | h
   ·simp at hi
    subst hi
    simp [gateC,stq,h1,h2]
    omega
   ·simp at hi
    subst hi
    simp [gateC,stq,h1,h2,Ne.symm hab]
    omega
   ·rw [List.getElem?_eq_none (by simpa using h)] at hi
    cases hi
 | k + 1,x,y,c,X,Y,hx,hy,hn,sx,sy=>by
  obtain ⟨n,hnn⟩:∃ n,n=2 ^ k:=⟨_,rfl⟩
  have hn0:0 < n:=by rw [hnn]; exact Nat.two_pow_pos k
  have e2:2 ^ (k + 1)=2 * n:=by rw [hnn,Nat.pow_succ]; omega
  rw [e2] at hx hy
  obtain ⟨lx1,lx2⟩:=evL_len x n hx
  obtain ⟨ly1,ly2⟩:=evL_len y n hy
  have px:=evL_perm x
  have py:=evL_perm y
  rw [List.nodup_append] at hn
  obtain ⟨nx,ny,nxy⟩:=hn
  have nx':=px.nodup_iff.2 nx
  have ny':=py.nodup_iff.2 ny
  rw [List.nodup_append] at nx' ny'
  have mx:∀ w,w ∈ evL x ∨ w ∈ odL x → w ∈ x:=fun w hw=>px.mem_iff.1 (List.mem_append.2 hw)
  have my:∀ w,w ∈ evL y ∨ w ∈ odL y → w ∈ y:=fun w hw=>py.mem_iff.1 (List.mem_append.2 hw)
  have ev:∀ (l:List Nat) (T:Int),l.length=2 * n → StQ c l T → StQ c (evL l) ((T + 1) / 2) ∧ StQ c (odL l) (T / 2):=by
   intro l T hl hs
   obtain ⟨l1,l2⟩:=evL_len l n hl
   refine ⟨fun i w hi=>?_,fun i w hi=>?_⟩
   ·rw [evL_get] at hi
    rw [hs _ w hi,hl,l1,stq_ev hn0]
   ·rw [odL_get] at hi
    rw [hs _ w hi,hl,l2,stq_od hn0]
  obtain ⟨sx1,sx2⟩:=ev x X hx sx
  obtain ⟨sy1,sy2⟩:=ev y Y hy sy
  obtain ⟨a1,a2,a3⟩:=merge_step k (evL x) (odL y) c _ _ (by rw [lx1,hnn]) (by rw [ly2,hnn]) (List.nodup_append.2 ⟨nx'.1,ny'.2.1,fun u hu v hv=>nxy u (mx u (.inl hu)) v (my v (.inr hv))⟩) sx1 sy2
  obtain ⟨c1,hc1⟩:∃ c1,c1=flowG (mergeG k (evL x) (odL y)).1 c:=⟨_,rfl⟩
  have k1:∀ w,w ∈ odL x ∨ w ∈ evL y → c1 w=c w:=by
   intro w hw
   rw [hc1]
   refine flowG_out _ _ w (fun g hg=>?_)
   obtain ⟨g1,g2⟩:=a3 g hg
   have key:∀ u,u ∈ evL x ++ odL y → w ≠ u:=by
    rintro u hu rfl
    rcases List.mem_append.1 hu with hu | hu <;> rcases hw with hw | hw
    ·exact nx'.2.2 w hu w hw rfl
    ·exact nxy w (mx w (.inl hu)) w (my w (.inl hw)) rfl
    ·exact nxy w (mx w (.inr hw)) w (my w (.inr hu)) rfl
    ·exact ny'.2.2 w hw w hu rfl
   exact ⟨key _ g1,key _ g2⟩
  obtain ⟨b1,b2,b3⟩:=merge_step k (odL x) (evL y) c1 _ _ (by rw [lx2,hnn]) (by rw [ly1,hnn]) (List.nodup_append.2 ⟨nx'.2.1,ny'.1,fun u hu v hv=>nxy u (mx u (.inr hu)) v (my v (.inl hv))⟩) (sx2.congr fun w hw=>k1 w (.inl hw)) (sy1.congr fun w hw=>k1 w (.inr hw))
  rw [← hc1] at a1
  obtain ⟨c2,hc2⟩:∃ c2,c2=flowG (mergeG k (odL x) (evL y)).1 c1:=⟨_,rfl⟩
  rw [← hc2] at b1
  have dis:∀ u,u ∈ (mergeG k (evL x) (odL y)).2 → ∀ v,v ∈ odL x ++ evL y → u ≠ v:=by
   rintro u hu v hv rfl
   have hu:=a2.mem_iff.1 hu
   rcases List.mem_append.1 hu with hu | hu <;> rcases List.mem_append.1 hv with hv | hv
   ·exact nx'.2.2 u hu u hv rfl
   ·exact nxy u (mx u (.inl hu)) u (my u (.inl hv)) rfl
   ·exact nxy u (mx u (.inr hv)) u (my u (.inr hu)) rfl
   ·exact ny'.2.2 u hv u hu rfl
  have a1':StQ c2 (mergeG k (evL x) (odL y)).2 ((X + 1) / 2 + Y / 2):=a1.congr fun w hw=>by
   rw [hc2]
   refine flowG_out _ _ w (fun g hg=>?_)
   obtain ⟨g1,g2⟩:=b3 g hg
   exact ⟨dis w hw _ g1,dis w hw _ g2⟩
  have la:(mergeG k (evL x) (odL y)).2.length=2 * n:=by rw [a2.length_eq]; simp; omega
  have lb:(mergeG k (odL x) (evL y)).2.length=2 * n:=by rw [b2.length_eq]; simp; omega
  have nab:((mergeG k (evL x) (odL y)).2 ++ (mergeG k (odL x) (evL y)).2).Nodup:=by
   refine List.nodup_append.2 ⟨?_,?_,fun u hu v hv=>dis u hu v (b2.mem_iff.1 hv)⟩
   ·exact a2.nodup_iff.2 (List.nodup_append.2 ⟨nx'.1,ny'.2.1,fun u hu v hv=>nxy u (mx u (.inl hu)) v (my v (.inr hv))⟩)
   ·exact b2.nodup_iff.2 (List.nodup_append.2 ⟨nx'.2.1,ny'.1,fun u hu v hv=>nxy u (mx u (.inr hu)) v (my v (.inl hv))⟩)
  have fl:flowG (mergeG (k + 1) x y).1 c=flowG ((mergeG k (evL x) (odL y)).2.zip (mergeG k (odL x) (evL y)).2) c2:=by
   rw [mergeG,flowG_app,flowG_app,← hc1,← hc2]
  have g2:(mergeG (k + 1) x y).2=mixL (mergeG k (evL x) (odL y)).2 (mergeG k (odL x) (evL y)).2:=rfl
  have g1:(mergeG (k + 1) x y).1=(mergeG k (evL x) (odL y)).1 ++ (mergeG k (odL x) (evL y)).1 ++ (mergeG k (evL x) (odL y)).2.zip (mergeG k (odL x) (evL y)).2:=rfl
  rw [fl,g2,g1]
  have pm:=mixL_perm (mergeG k (evL x) (odL y)).2 (mergeG k (odL x) (evL y)).2 (by omega)
  have hz:=flow_zip (mergeG k (evL x) (odL y)).2 (mergeG k (odL x) (evL y)).2 c2 (by omega) nab
  have hmix:=mixL_get (mergeG k (evL x) (odL y)).2 (mergeG k (odL x) (evL y)).2 (by omega)
  have ma:∀ w,w ∈ evL x ++ odL y → w ∈ x ++ y:=fun w hw=>by
   rcases List.mem_append.1 hw with h | h
   ·exact List.mem_append.2 (.inl (mx w (.inl h)))
   ·exact List.mem_append.2 (.inr (my w (.inr h)))
  have mb:∀ w,w ∈ odL x ++ evL y → w ∈ x ++ y:=fun w hw=>by
   rcases List.mem_append.1 hw with h | h
   ·exact List.mem_append.2 (.inl (mx w (.inr h)))
   ·exact List.mem_append.2 (.inr (my w (.inl h)))
  generalize (mergeG k (evL x) (odL y)).2=za at *
  generalize (mergeG k (odL x) (evL y)).2=zb at *
  have lm:(mixL za zb).length=2 * (2 * n):=by rw [pm.length_eq]; simp; omega
  refine ⟨?_,?_,?_⟩
  ·intro i w hi
   rw [lm]
   obtain ⟨j,hj⟩:∃ j,i=2 * j ∨ i=2 * j + 1:=⟨i / 2,by omega⟩
   have hil:i < 2 * (2 * n):=by rw [← lm]; exact (List.getElem?_eq_some_iff.1 hi).1
   obtain ⟨u,hu⟩:∃ u,za[j]? = some u:=⟨_,List.getElem?_eq_getElem (by omega)⟩
   obtain ⟨v,hv⟩:∃ v,zb[j]? = some v:=⟨_,List.getElem?_eq_getElem (by omega)⟩
   obtain ⟨z1,z2⟩:=hz j u v hu hv
   have eu:=a1' j u hu
   have ev:=b1 j v hv
   rw [la] at eu
   rw [lb] at ev
   have hn2:0 < 2 * n:=by omega
   obtain ⟨A,hA⟩:∃ A,A=(X + 1) / 2 + Y / 2:=⟨_,rfl⟩
   obtain ⟨B,hB⟩:∃ B,B=X / 2 + (Y + 1) / 2:=⟨_,rfl⟩
   rw [← hA] at eu
   rw [← hB] at ev
   have hAB:A=B ∨ A=B + 1 ∨ B=A + 1:=by omega
   have hm1:A ≤ B → stq (2 * n) A j ≤ stq (2 * n) B j:=fun h=>stq_mono hn2 h j
   have hm2:B ≤ A → stq (2 * n) B j ≤ stq (2 * n) A j:=fun h=>stq_mono hn2 h j
   have hs1:=stq_succ hn2 A j
   have hs2:=stq_succ hn2 B j
   rcases hj with rfl | rfl
   ·have:u=w:=by rw [(hmix j).1,hu] at hi; exact Option.some.inj hi
    subst this
    rw [z1,eu,ev,stq_ev hn2]
    rcases hAB with h | h | h
    ·have e:(X + Y + 1) / 2=A:=by omega
     rw [e,← h]; omega
    ·have e:(X + Y + 1) / 2=A:=by omega
     rw [e]
     have:=hm2 (by omega)
     rw [h] at this ⊢
     omega
    ·have e:(X + Y + 1) / 2=B:=by omega
     rw [e]
     have:=hm1 (by omega)
     rw [h] at this ⊢
     omega
   ·have:v=w:=by rw [(hmix j).2,hv] at hi; exact Option.some.inj hi
    subst this
    rw [z2,eu,ev,stq_od hn2]
    rcases hAB with h | h | h
    ·have e:(X + Y) / 2=A:=by omega
     rw [e,← h]; omega
    ·have e:(X + Y) / 2=B:=by omega
     rw [e]
     have:=hm2 (by omega)
     rw [h] at this ⊢
     omega
    ·have e:(X + Y) / 2=A:=by omega
     rw [e]
     have:=hm1 (by omega)
     rw [h] at this ⊢
     omega
  ·refine pm.trans ((a2.append b2).trans ?_)
   have h1:(evL x ++ odL y ++ (odL x ++ evL y)).Perm (evL x ++ odL x ++ (evL y ++ odL y)):=by
    rw [List.append_assoc,List.append_assoc]
    refine List.Perm.append_left _ ?_
    refine (List.perm_append_comm_assoc _ _ _).trans ?_
    exact List.Perm.append_left _ List.perm_append_comm
   exact h1.trans (px.append py)
  ·intro g hg
   rcases List.mem_append.1 hg with hg | hg
   ·rcases List.mem_append.1 hg with hg | hg
    ·exact ⟨ma _ (a3 g hg).1,ma _ (a3 g hg).2⟩
    ·exact ⟨mb _ (b3 g hg).1,mb _ (b3 g hg).2⟩
   ·obtain ⟨g1,g2⟩:=g
    exact ⟨ma _ (a2.mem_iff.1 (List.of_mem_zip hg).1),mb _ (b2.mem_iff.1 (List.of_mem_zip hg).2)⟩
def sumF (c:Nat → Int) (a:Nat):Nat → Int
 | 0=>0
 | n + 1=>sumF c a n + c (a + n)
theorem sumF_add (c:Nat → Int) (a m:Nat):∀ n,sumF c a (m + n)=sumF c a m + sumF c (a + m) n
 | 0=>by simp [sumF]
 | n + 1=>by
  rw [← Nat.add_assoc,sumF,sumF,sumF_add c a m n,Nat.add_assoc a m n]
  omega
theorem sumF_congr {c c':Nat → Int} {a:Nat}:∀ {n:Nat},(∀ w,a ≤ w → w < a + n → c w=c' w) → sumF c a n=sumF c' a n
 | 0,_=>rfl
 | n + 1,h=>by
  rw [sumF,sumF,sumF_congr (fun w h1 h2=>h w h1 (by omega)),h (a + n) (by omega) (by omega)]
theorem count_step : ∀ (k a : Nat) (c : Nat → Int), StQ (flowG (countG k a).1 c) (countG k a).2 (sumF c a (2 ^ k)) ∧ (countG k a).2.length = 2 ^ k ∧ (countG k a).2.Nodup ∧ (∀ w, w ∈ (countG k a).2 ↔ a ≤ w ∧ w < a + 2 ^ k) ∧
    ∀ g ∈ (countG k a).1,(a ≤ g.1 ∧ g.1 < a + 2 ^ k) ∧ (a ≤ g.2 ∧ g.2 < a + 2 ^ k)
 | 0,a,c=>by
  refine ⟨?_,rfl,by simp [countG],fun w=>by simp [countG]; omega,by simp [countG]⟩
  intro i w hi
  simp only [countG] at hi ⊢
  cases i with
  | zero=>simp at hi; subst hi; simp [flowG,stq,sumF]
  | succ i=>simp at hi
 | k + 1,a,c=>by
  obtain ⟨n,hn⟩:∃ n,n=2 ^ k:=⟨_,rfl⟩
  have e2:2 ^ (k + 1)=n + n:=by rw [hn,Nat.pow_succ]; omega
  obtain ⟨a1,a2,a3,a4,a5⟩:=count_step k a c
  obtain ⟨b1,b2,b3,b4,b5⟩:=count_step k (a + 2 ^ k) (flowG (countG k a).1 c)
  rw [← hn] at a1 a2 a4 a5 b1 b2 b4 b5
  rw [← hn] at b3
  obtain ⟨c1,hc1⟩:∃ c1,c1=flowG (countG k a).1 c:=⟨_,rfl⟩
  rw [← hc1] at a1 b1
  obtain ⟨c2,hc2⟩:∃ c2,c2=flowG (countG k (a + n)).1 c1:=⟨_,rfl⟩
  rw [← hc2] at b1
  have o1:∀ w,a + n ≤ w → c1 w=c w:=fun w hw=>by
   rw [hc1]
   refine flowG_out _ _ w (fun g hg=>?_)
   have:=a5 g hg
   omega
  have o2:∀ w,w < a + n → c2 w=c1 w:=fun w hw=>by
   rw [hc2]
   refine flowG_out _ _ w (fun g hg=>?_)
   have:=b5 g hg
   omega
  have sB:sumF c1 (a + n) n=sumF c (a + n) n:=sumF_congr fun w h1 _=>o1 w h1
  rw [sB] at b1
  have a1':StQ c2 (countG k a).2 (sumF c a n):=a1.congr fun w hw=>o2 w ((a4 w).1 hw).2
  obtain ⟨m1,m2,m3⟩:=merge_step k (countG k a).2 (countG k (a + n)).2 c2 _ _ (by rw [a2,hn]) (by rw [b2,hn]) (List.nodup_append.2 ⟨a3,b3,fun u hu v hv=>by
   have:=(a4 u).1 hu
   have:=(b4 v).1 hv
   omega⟩) a1' b1
  have e1:(countG (k + 1) a).1=(countG k a).1 ++ (countG k (a + n)).1 ++ (mergeG k (countG k a).2 (countG k (a + n)).2).1:=by rw [hn]; rfl
  have e3:(countG (k + 1) a).2=(mergeG k (countG k a).2 (countG k (a + n)).2).2:=by rw [hn]; rfl
  rw [e2,e1,e3,flowG_app,flowG_app,← hc1,← hc2,sumF_add]
  have mm:∀ w,w ∈ (countG k a).2 ++ (countG k (a + n)).2 ↔ a ≤ w ∧ w < a + (n + n):=fun w=>by
   rw [List.mem_append,a4,b4]; omega
  refine ⟨m1,?_,?_,fun w=>?_,fun g hg=>?_⟩
  ·rw [m2.length_eq,List.length_append,a2,b2]
  ·exact m2.nodup_iff.2 (List.nodup_append.2 ⟨a3,b3,fun u hu v hv=>by
    have:=(a4 u).1 hu
    have:=(b4 v).1 hv
    omega⟩)
  ·rw [m2.mem_iff,mm]
  ·rcases List.mem_append.1 hg with hg | hg
   ·rcases List.mem_append.1 hg with hg | hg
    ·have:=a5 g hg; omega
    ·have:=b5 g hg; omega
   ·have h1:=(mm _).1 (m3 g hg).1
    have h2:=(mm _).1 (m3 g hg).2
    omega
theorem lgP_pow (p:Nat) (h:widthN p):2 ^ lgP p=p:=by rcases h with rfl | rfl | rfl | rfl | rfl <;> decide
theorem outs_step (p:Nat) (h:widthN p) (c:Nat → Int) {q w:Nat} (hq:(outsN p)[q]? = some w):flowG (gatesN p) c w=(sumF c 0 p + p - 1 - q) / p:=by
 obtain ⟨a1,a2,_⟩:=count_step (lgP p) 0 c
 have:=a1 q w hq
 rw [a2,lgP_pow p h] at this
 exact this
theorem outs_all (p:Nat) (h:widthN p):(outsN p).Nodup ∧ ∀ w,w < p → w ∈ outsN p:=by
 obtain ⟨_,_,a3,a4,_⟩:=count_step (lgP p) 0 (fun _=>0)
 refine ⟨a3,fun w hw=>(a4 w).2 ⟨by omega,?_⟩⟩
 rw [lgP_pow p h]; omega
end Go.AM

namespace Go.AM
theorem widthN_more (p:Nat) (h:widthN p):(∀ g ∈ gatesN p,g.1 ≠ g.2) ∧ (outsN p).isPerm (List.range p)=true:=by
 rcases h with rfl | rfl | rfl | rfl | rfl <;> decide
end Go.AM

namespace Go.AM
def ConsG (p L:Nat) (cell outc pend:Nat → Int):List (Nat × Nat) → Nat → (Nat → Int) → Prop
 | [],_,c=>∀ w,w < p → outc w + pend (L + w)=c w
 | g :: r,i,c=>cell i + pend i=c g.1 + c g.2 ∧ ConsG p L cell outc pend r (i + 1) (gateC g (cell i) c)
theorem ConsG.congr {p L : Nat} {cell outc pend cell' outc' pend' : Nat → Int} : ∀ {r : List (Nat × Nat)} {i : Nat} {c : Nat → Int}, ConsG p L cell outc pend r i c → (∀ j, i ≤ j → j < i + r.length → cell' j = cell j ∧ pend' j = pend j) →
    (∀ w,w < p → outc' w + pend' (L + w)=outc w + pend (L + w)) → ConsG p L cell' outc' pend' r i c
 | [],i,c,h,_,ho=>fun w hw=>by rw [ho w hw]; exact h w hw
 | g :: r,i,c,h,hc,ho=>by
  obtain ⟨h1,h2⟩:=h
  obtain ⟨e1,e2⟩:=hc i (by omega) (by simp)
  refine ⟨by rw [e1,e2]; exact h1,?_⟩
  rw [e1]
  exact h2.congr (fun j hj hl=>hc j (by omega) (by simp; omega)) ho
def nxtG (L:Nat) (w:Nat) (r:List (Nat × Nat)) (i:Nat):Nat:=match gateF (w:Int) r i with
 | some j=>j
 | none=>L + w
theorem nxtG_ge {L w:Nat} {r:List (Nat × Nat)} {i:Nat} (h:i + r.length ≤ L):i ≤ nxtG L w r i:=by
 unfold nxtG
 cases hg:gateF (w:Int) r i with
 | none=>simp only; omega
 | some j=>simp only; exact (gateF_rng _ _ _ _ hg).1
theorem ConsG.come {p L : Nat} {cell outc pend pend' : Nat → Int} {w : Nat} : ∀ {r : List (Nat × Nat)} {i : Nat} {c c' : Nat → Int}, ConsG p L cell outc pend r i c → i + r.length ≤ L → (∀ g ∈ r, g.1 ≠ g.2) →
    pend' (nxtG L w r i)=pend (nxtG L w r i) + 1 → (∀ j,i ≤ j → j ≠ nxtG L w r i → pend' j=pend j) → c' w=c w + 1 → (∀ u,u ≠ w → c' u=c u) → ConsG p L cell outc pend' r i c'
 | [],i,c,c',h,hl,hn,h1,h2,h3,h4=>fun u hu=>by
  have e:nxtG L w [] i=L + w:=rfl
  rw [e] at h1 h2
  have:=h u hu
  by_cases hw:u=w
  ·subst hw; rw [h1,h3]; omega
  ·rw [h2 (L + u) (by simp at hl; omega) (by omega),h4 u hw]; exact this
 | g :: r,i,c,c',h,hl,hn,h1,h2,h3,h4=>by
  obtain ⟨g1,g2⟩:=h
  have hne:=hn g (by simp)
  have hl2:i + (r.length + 1) ≤ L:=hl
  by_cases hw:(g.1:Int)=w ∨ (g.2:Int)=w
  ·have e:nxtG L w (g :: r) i=i:=by unfold nxtG; rw [gateF,if_pos hw]
   rw [e] at h1 h2
   have ec:gateC g (cell i) c'=gateC g (cell i) c:=by
    funext u
    unfold gateC
    split
    ·rfl
    ·split
     ·rfl
     ·exact h4 u (by omega)
   refine ⟨?_,?_⟩
   ·rw [h1]
    rcases hw with hw | hw
    ·have:g.1=w:=by omega
     rw [this] at hne g1 ⊢
     rw [h3,h4 g.2 (Ne.symm hne)]; omega
    ·have:g.2=w:=by omega
     rw [this] at hne g1 ⊢
     rw [h3,h4 g.1 hne]; omega
   ·rw [ec]
    exact g2.congr (fun j hj _=>⟨rfl,h2 j (by omega) (by omega)⟩) (fun u hu=>by rw [h2 (L + u) (by omega) (by omega)])
  ·have e:nxtG L w (g :: r) i=nxtG L w r (i + 1):=by unfold nxtG; rw [gateF,if_neg hw]
   rw [e] at h1 h2
   have hge:=nxtG_ge (L:=L) (w:=w) (r:=r) (i:=i + 1) (by omega)
   have w1:g.1 ≠ w:=by omega
   have w2:g.2 ≠ w:=by omega
   refine ⟨by rw [h2 i (by omega) (by omega),h4 _ w1,h4 _ w2]; exact g1,?_⟩
   refine g2.come (w:=w) (by omega) (fun g hg=>hn g (by simp [hg])) h1 (fun j hj=>h2 j (by omega)) ?_ ?_
   ·unfold gateC
    rw [if_neg (Ne.symm w1),if_neg (Ne.symm w2),if_neg (Ne.symm w1),if_neg (Ne.symm w2)]; exact h3
   ·intro u hu
    unfold gateC
    split
    ·rfl
    ·split
     ·rfl
     ·exact h4 u hu
theorem ConsG.pass {p L : Nat} {cell cell' outc pend pend' : Nat → Int} {j0 : Nat} {g : Nat × Nat} : ∀ {r : List (Nat × Nat)} {i : Nat} {c : Nat → Int}, ConsG p L cell outc pend r i c → i + r.length ≤ L → (∀ g ∈ r, g.1 ≠ g.2) → i ≤ j0 → r[j0 - i]? = some g →
    cell' j0=cell j0 + 1 → (∀ j,j ≠ j0 → cell' j=cell j) → ∀ w,(w=if cell j0 % 2=1 then g.2 else g.1) → ∀ j1,j1=nxtG L w (r.drop (j0 + 1 - i)) (j0 + 1) → pend' j0=pend j0 - 1 → pend' j1=pend j1 + 1 → (∀ j,j ≠ j0 → j ≠ j1 → pend' j=pend j) →
    ConsG p L cell' outc pend' r i c
 | [],i,c,h,hl,hn,hj,hg,_,_,_,_,_,_,_,_,_=>by simp at hg
 | g0 :: r,i,c,h,hl,hn,hj,hg,c1,c2,w,hw,j1,hj1,p1,p2,p3=>by
  obtain ⟨g1,g2⟩:=h
  have hne:=hn g0 (by simp)
  have hl2:i + (r.length + 1) ≤ L:=hl
  by_cases e:j0=i
  ·subst e
   rw [Nat.sub_self] at hg
   injection hg with hg
   subst hg
   have e1:j0 + 1 - j0=1:=by omega
   rw [e1,List.drop_succ_cons,List.drop_zero] at hj1
   have hge:=nxtG_ge (L:=L) (w:=w) (r:=r) (i:=j0 + 1) (by omega)
   refine ⟨by rw [c1,p1]; omega,?_⟩
   have h3:ConsG p L cell outc pend' r (j0 + 1) (gateC g0 (cell' j0) c):=by
    refine g2.come (w:=w) (by omega) (fun g hg=>hn g (by simp [hg])) (by rw [← hj1]; exact p2) (fun j hj hjn=>p3 j (by omega) (by rw [hj1]; exact hjn)) ?_ ?_
    ·rw [c1]
     unfold gateC
     by_cases ho:cell j0 % 2=1
     ·rw [if_pos ho] at hw
      subst hw
      rw [if_neg (Ne.symm hne),if_pos rfl,if_neg (Ne.symm hne),if_pos rfl]; omega
     ·rw [if_neg ho] at hw
      subst hw
      rw [if_pos rfl,if_pos rfl]; omega
    ·intro u hu
     rw [c1]
     unfold gateC
     by_cases ho:cell j0 % 2=1
     ·rw [if_pos ho] at hw
      subst hw
      split
      ·omega
      ·rfl
     ·rw [if_neg ho] at hw
      subst hw
      rw [if_neg hu,if_neg hu]
      split
      ·omega
      ·rfl
   exact h3.congr (fun j hj _=>⟨c2 j (by omega),rfl⟩) (fun _ _=>rfl)
  ·have e1:j0 - i=j0 - (i + 1) + 1:=by omega
   have e2:j0 + 1 - i=j0 + 1 - (i + 1) + 1:=by omega
   rw [e1,List.getElem?_cons_succ] at hg
   rw [e2,List.drop_succ_cons] at hj1
   have hjl:j0 - (i + 1) < r.length:=(List.getElem?_eq_some_iff.1 hg).1
   have hge:=nxtG_ge (L:=L) (w:=w) (r:=r.drop (j0 + 1 - (i + 1))) (i:=j0 + 1) (by simp; omega)
   refine ⟨by rw [c2 i (by omega),p3 i (by omega) (by omega)]; exact g1,?_⟩
   rw [c2 i (by omega)]
   exact g2.pass (by omega) (fun g hg=>hn g (by simp [hg])) (by omega) hg c1 c2 w hw j1 hj1 p1 p2 p3
theorem ConsG.le {p L:Nat} {cell outc pend:Nat → Int} (hp:∀ j,0 ≤ pend j):∀ {r:List (Nat × Nat)} {i:Nat} {c c':Nat → Int},ConsG p L cell outc pend r i c → (∀ u,c u ≤ c' u) → ∀ w,w < p → outc w + pend (L + w) ≤ flowG r c' w
 | [],i,c,c',h,hc,w,hw=>by rw [h w hw]; exact hc w
 | g :: r,i,c,c',h,hc,w,hw=>by
  obtain ⟨g1,g2⟩:=h
  rw [flowG]
  refine g2.le hp (fun u=>?_) w hw
  have h0:=hp i
  have h1:=hc g.1
  have h2:=hc g.2
  unfold gateC
  split
  ·omega
  ·split
   ·omega
   ·exact hc u
def posF (p:Nat) (f:FrR):Int:=if f.pc=0 then into f.o.a p else f.at_
def whF (p:Nat) (f:FrR):Nat:=nxtG (gatesN p).length (posF p f).toNat ((gatesN p).drop f.seen.toNat) f.seen.toNat
def pendF (p:Nat) (fs:List (Option FrR)) (j:Nat):Int:=phi (fun f=>if whF p f=j then 1 else 0) fs
def cellF (M:Mem) (i:Nat):Int:=(rdM M (i:Nat)).n
def outF (p:Nat) (M:Mem) (w:Nat):Int:=(rdM M ((gatesN p).length + placeF (w:Nat) (outsN p) 0:Nat)).n
structure NV (p:Nat) (M:Mem) (fs:List (Option FrR)) (c0:Nat → Int):Prop where
 cons:ConsG p (gatesN p).length (cellF M) (outF p M) (pendF p fs) (gatesN p) 0 c0
 fr:∀ (j:Nat) f,fs[j]? = some (some f) → (f.pc=0 → f.seen=0) ∧ 0 ≤ f.seen ∧ f.seen ≤ (gatesN p).length ∧ 0 ≤ posF p f ∧ posF p f < p
theorem pendF_set {p : Nat} {fs : List (Option FrR)} {n : Nat} {a : Option FrR} (h : fs[n]? = some a) (o : Option FrR) (j : Nat) :
    pendF p (fs.set n o) j + (match a with | some f=>if whF p f=j then 1 else 0 | none=>0)=pendF p fs j + (match o with | some f=>if whF p f=j then 1 else 0 | none=>0):=by
 have:=phi_set (fun f=>if whF p f=j then 1 else 0) fs n o a h
 unfold pendF
 cases a <;> cases o <;> simp only [oc] at this ⊢ <;> (repeat' split at this) <;> (repeat' split) <;> first | omega | (exfalso; simp_all)
theorem NV.begin {p : Nat} {M fs c0} (hw : widthN p) (h : NV p M fs c0) {n : Nat} (hf : fs[n]? = some none) {o : Rw} {c1 : Nat → Int} (h1 : c1 (into o.a p).toNat = c0 (into o.a p).toNat + 1) (h2 : ∀ u, u ≠ (into o.a p).toNat → c1 u = c0 u) :
    NV p M (fs.set n (some (begF o))) c1:=by
 have hp:1 ≤ p ∧ p ≤ 16:=by rcases hw with rfl | rfl | rfl | rfl | rfl <;> omega
 have hi:=into_lt o.a hp
 have hps:posF p (begF o)=into o.a p:=by simp [posF,begF]
 have hwh:whF p (begF o)=nxtG (gatesN p).length (into o.a p).toNat (gatesN p) 0:=by
  unfold whF
  rw [hps]
  rfl
 have key:=fun j=>pendF_set (p:=p) hf (some (begF o)) j
 simp only [hwh] at key
 refine ⟨?_,fun j f hj=>?_⟩
 ·refine h.cons.come (w:=(into o.a p).toNat) (by omega) (fun g hg=>(widthN_more p hw).1 g hg) ?_ ?_ h1 h2
  ·have:=key (nxtG (gatesN p).length (into o.a p).toNat (gatesN p) 0)
   simpa using this
  ·intro j _ hj
   have:=key j
   rw [if_neg (Ne.symm hj)] at this
   simpa using this
 ·rw [List.getElem?_set] at hj
  split at hj
  ·split at hj
   ·injection hj with hj
    injection hj with hj
    subst hj
    rw [hps]
    simp [begF,hi]
   ·cases hj
  ·exact h.fr j f hj
theorem rdM_bump (M:Mem) {i:Nat} (h:i < 1000) (j:Int):rdM (bumpM M i) j=if (i:Int)=j then ⟨M.ck + 1,(rdM M i).n + 1,[]⟩ else rdM M j:=by
 have hb:wrB M (i:Int) (rdM M i).v=true:=by simp [wrB]; omega
 unfold bumpM wrM
 rw [if_pos hb,rdM_putM]
 simp
theorem placeF_get {outs:List Nat}:∀ {l:List Nat} {i w:Nat},w ∈ l → ∃ q,placeF (w:Int) l i=i + q ∧ l[q]? = some w
 | [],i,w,h=>by simp at h
 | x :: r,i,w,h=>by
  by_cases e:x=w
  ·exact ⟨0,by simp [placeF,e],by simp [e]⟩
  ·rcases List.mem_cons.1 h with h | h
   ·exact absurd h.symm e
   ·obtain ⟨q,h1,h2⟩:=placeF_get (outs:=outs) (i:=i + 1) h
    refine ⟨q + 1,?_,by simpa using h2⟩
    rw [placeF,if_neg (by omega),h1]
    omega
theorem gateF_at:∀ {l:List (Nat × Nat)} {i j:Nat} {w:Int},gateF w l i=some j → ∃ g,l[j - i]? = some g ∧ i ≤ j ∧ (g.1=w ∨ g.2=w)
 | [],i,j,w,h=>by simp [gateF] at h
 | g :: r,i,j,w,h=>by
  unfold gateF at h
  split at h
  ·rename_i hw; cases h; exact ⟨g,by simp,by omega,hw⟩
  ·obtain ⟨g',h1,h2,h3⟩:=gateF_at h
   refine ⟨g',?_,by omega,h3⟩
   have e:j - i=j - (i + 1) + 1:=by omega
   rw [e,List.getElem?_cons_succ]; exact h1
theorem NV.step {p : Nat} {M fs c0} (hw : widthN p) (h : NV p M fs c0) (hM : ∀ i : Int, 0 ≤ (rdM M i).n) {n : Nat} {f : FrR} (hf : fs[n]? = some (some f)) :
    NV p (netP p M f).m (fs.set n (if (netP p M f).d then none else some (netP p M f).f)) c0 ∧
    ((netP p M f).d=false → (∀ q:Nat,q < p → rdM (netP p M f).m ((gatesN p).length + q:Nat)=rdM M ((gatesN p).length + q:Nat))) ∧
    ((netP p M f).d=true → ∃ q:Nat,q < p ∧ (netP p M f).a=⟨true,⟨0,0⟩,q + p * (rdM M ((gatesN p).length + q:Nat)).n⟩ ∧ (rdM (netP p M f).m ((gatesN p).length + q:Nat)).n=(rdM M ((gatesN p).length + q:Nat)).n + 1 ∧
     (∀ q':Nat,q' < p → q' ≠ q → rdM (netP p M f).m ((gatesN p).length + q':Nat)=rdM M ((gatesN p).length + q':Nat)) ∧ q + p * (rdM M ((gatesN p).length + q:Nat)).n < sumF c0 0 p):=by
 have hp:1 ≤ p ∧ p ≤ 16:=by rcases hw with rfl | rfl | rfl | rfl | rfl <;> omega
 have hg80:=gates_len p hw
 obtain ⟨q1,q2,q3,q4,q5⟩:=h.fr n f hf
 obtain ⟨f1,hf1⟩:∃ f1,f1=(if f.pc=0 then { f with pc:=1,at_:=into f.o.a p } else f):=⟨_,rfl⟩
 have e1:f1.at_=posF p f:=by rw [hf1]; unfold posF; split <;> rfl
 have e2:f1.seen=f.seen:=by rw [hf1]; split <;> rfl
 have e3:f1.pc ≠ 0:=by
  rw [hf1]
  split
  ·simp
  ·assumption
 obtain ⟨w,hww⟩:∃ w:Nat,posF p f=w:=⟨(posF p f).toNat,by omega⟩
 obtain ⟨s,hs⟩:∃ s:Nat,f.seen=s:=⟨f.seen.toNat,by omega⟩
 have hwh:whF p f=nxtG (gatesN p).length w ((gatesN p).drop s) s:=by unfold whF; rw [hww,hs]; rfl
 have hwp:w < p:=by omega
 have hpd:∀ j,0 ≤ pendF p fs j:=fun j=>by unfold pendF; omega
 have en : netP p M f = match gateF f1.at_ ((gatesN p).drop f1.seen.toNat) f1.seen.toNat with
     | some i=>⟨bumpM M i,{ f1 with seen:=i + 1,at_:=if (rdM M i).n.tmod 2=1 then ((gatesN p)[i]!.2:Int) else (gatesN p)[i]!.1 },noA,false⟩
     | none=>⟨bumpM M ((gatesN p).length + placeF f1.at_ (outsN p) 0),f1,⟨true,⟨0,0⟩,placeF f1.at_ (outsN p) 0 + p * (rdM M ((gatesN p).length + placeF f1.at_ (outsN p) 0:Nat)).n⟩,true⟩:=by rw [hf1]; rfl
 rw [en,e1,e2,hww,hs,Int.toNat_natCast]
 cases hg:gateF (w:Int) ((gatesN p).drop s) s with
 | some i =>
  simp only
  obtain ⟨hi1,hi2⟩:=gateF_rng _ _ _ _ hg
  simp only [List.length_drop] at hi2
  have hil:i < (gatesN p).length:=by omega
  obtain ⟨g,hgg,_,hgw⟩:=gateF_at hg
  rw [List.getElem?_drop,show s + (i - s)=i by omega] at hgg
  have hgb:(gatesN p)[i]! = g:=by rw [List.getElem!_eq_getElem?_getD,hgg]; rfl
  have hgr:=(widthN_facts p hw).1 g (List.mem_of_getElem? hgg)
  have hn0:=hM i
  have htm:((rdM M (i:Nat)).n.tmod 2=1)=((rdM M (i:Nat)).n % 2=1):=by rw [Int.tmod_eq_emod_of_nonneg hn0]
  rw [hgb]
  simp only [htm]
  have hb:=fun j:Int=>rdM_bump M (i:=i) (by omega) j
  have hj0:whF p f=i:=by rw [hwh]; unfold nxtG; rw [hg]
  obtain ⟨w',hw'⟩:∃ w':Nat,w'=if (rdM M (i:Nat)).n % 2=1 then g.2 else g.1:=⟨_,rfl⟩
  have hat:(if (rdM M (i:Nat)).n % 2=1 then (g.2:Int) else (g.1:Int))=(w':Int):=by rw [hw']; split <;> rfl
  have hw'p:w' < p:=by rw [hw']; split; exact hgr.2; exact hgr.1
  rw [hat]
  obtain ⟨fn,hfn⟩:∃ fn,fn={ f1 with seen:=(i:Int) + 1,at_:=(w':Int) }:=⟨_,rfl⟩
  have hpn:posF p fn=w':=by rw [hfn]; unfold posF; rw [if_neg e3]
  have hsn:fn.seen=i + 1:=by rw [hfn]
  have hwn:whF p fn=nxtG (gatesN p).length w' ((gatesN p).drop (i + 1)) (i + 1):=by
   unfold whF
   rw [hpn,hsn]
   rfl
  rw [← hfn]
  have hge:=nxtG_ge (L:=(gatesN p).length) (w:=w') (r:=(gatesN p).drop (i + 1)) (i:=i + 1) (by simp; omega)
  rw [← hwn] at hge
  have key:=fun j=>pendF_set (p:=p) hf (some fn) j
  simp only [hj0] at key
  refine ⟨⟨?_,fun j g' hj=>?_⟩,fun _ q hq=>?_,fun hd=>by simp at hd⟩
  ·simp only [Bool.false_eq_true,if_false]
   have h0:ConsG p (gatesN p).length (cellF (bumpM M i)) (outF p M) (pendF p (fs.set n (some fn))) (gatesN p) 0 c0:=by
    refine h.cons.pass (j0:=i) (g:=g) (by omega) (fun g hg=>(widthN_more p hw).1 g hg) (by omega) (by simpa using hgg) ?_ ?_ w' hw' (whF p fn) (by rw [hwn]; rfl) ?_ ?_ ?_
    ·unfold cellF; rw [hb,if_pos rfl]
    ·intro j hj
     unfold cellF
     rw [hb,if_neg (by omega)]
    ·have:=key i
     rw [if_pos rfl,if_neg (by omega)] at this
     omega
    ·have:=key (whF p fn)
     rw [if_neg (by omega),if_pos rfl] at this
     omega
    ·intro j h1 h2
     have:=key j
     rw [if_neg (by omega),if_neg (by omega)] at this
     omega
   refine h0.congr (fun _ _ _=>⟨rfl,rfl⟩) (fun u hu=>?_)
   unfold outF
   rw [hb,if_neg (by omega)]
  ·simp only [Bool.false_eq_true,if_false] at hj
   rw [List.getElem?_set] at hj
   split at hj
   ·split at hj
    ·injection hj with hj
     injection hj with hj
     subst hj
     rw [hpn,hsn]
     refine ⟨fun h0=>?_,by omega,by omega,by omega,by omega⟩
     rw [hfn] at h0
     exact absurd h0 e3
    ·cases hj
   ·exact h.fr j g' hj
  ·rw [hb,if_neg (by omega)]
 | none =>
  simp only
  have hmem:=(outs_all p hw).2 w hwp
  obtain ⟨q,hq1,hq2⟩:=placeF_get (outs:=outsN p) (i:=0) hmem
  have hnd:=(outs_all p hw).1
  have hlen:=(widthN_facts p hw).2.2.1
  have hqp:q < p:=by have:=(List.getElem?_eq_some_iff.1 hq2).1; omega
  have hpl:placeF (w:Int) (outsN p) 0=q:=by omega
  rw [hpl]
  have hb:=fun j:Int=>rdM_bump M (i:=(gatesN p).length + q) (by omega) j
  have hj0:whF p f=(gatesN p).length + w:=by rw [hwh]; unfold nxtG; rw [hg]
  have key:=fun j=>pendF_set (p:=p) hf none j
  simp only [hj0] at key
  have inj:∀ u,u < p → placeF (u:Int) (outsN p) 0=q → u=w:=by
   intro u hu he
   obtain ⟨q',h1,h2⟩:=placeF_get (outs:=outsN p) (i:=0) ((outs_all p hw).2 u hu)
   have:q'=q:=by omega
   subst this
   rw [hq2] at h2
   exact (Option.some.inj h2).symm
  have hout:outF p M w=(rdM M ((gatesN p).length + q:Nat)).n:=by unfold outF; rw [hpl]
  refine ⟨⟨?_,fun j g' hj=>?_⟩,fun hd=>by simp at hd,fun _=>⟨q,hqp,rfl,?_,fun q' hq' hne=>?_,?_⟩⟩
  ·simp only [if_true]
   refine h.cons.congr (fun j _ hj=>⟨?_,?_⟩) (fun u hu=>?_)
   ·unfold cellF
    rw [hb,if_neg (by omega)]
   ·have:=key j
    rw [if_neg (by omega)] at this
    omega
   ·by_cases hu2:u=w
    ·subst hu2
     have h1:outF p (bumpM M ((gatesN p).length + q)) u=outF p M u + 1:=by
      unfold outF
      rw [hpl,hb,if_pos rfl]
     have:=key ((gatesN p).length + u)
     rw [if_pos rfl] at this
     rw [h1]; omega
    ·have h1:outF p (bumpM M ((gatesN p).length + q)) u=outF p M u:=by
      unfold outF
      have:placeF (u:Int) (outsN p) 0 ≠ q:=fun e=>hu2 (inj u hu e)
      rw [hb,if_neg (by omega)]
     have:=key ((gatesN p).length + u)
     rw [if_neg (by omega)] at this
     rw [h1]; omega
  ·simp only [if_true] at hj
   rw [List.getElem?_set] at hj
   split at hj
   ·split at hj <;> cases hj
   ·exact h.fr j g' hj
  ·rw [hb,if_pos rfl]
  ·rw [hb,if_neg (by omega)]
  ·have hle:=h.cons.le hpd (c':=c0) (fun _=>Int.le_refl _) w hwp
   rw [outs_step p hw c0 hq2,hout] at hle
   have h1:1 ≤ pendF p fs ((gatesN p).length + w):=by
    have:=key ((gatesN p).length + w)
    rw [if_pos rfl] at this
    have h0:0 ≤ pendF p (fs.set n none) ((gatesN p).length + w):=by unfold pendF; omega
    omega
   have h2:(rdM M ((gatesN p).length + q:Nat)).n + 1 ≤ (sumF c0 0 p + p - 1 - q) / p:=by omega
   rw [Int.le_ediv_iff_mul_le (by omega)] at h2
   rw [Int.add_mul,Int.one_mul,Int.mul_comm] at h2
   omega
end Go.AM

namespace Go.AM
def eC1 (t b e:Int):D:=.a [.i .i64 t,.i .i64 0,.f .f64 0,.i .i64 0,.i .i64 0,.i .i64 0,.i .i64 b,.i .i64 e,.b false,.f .f64 0,.i .i64 0,.i .i64 0]
def chk1c (t b e:Int):Int:=if t < 0 ∨ 6 ≤ t then 4 else if b < 0 ∨ e < -1 ∨ (0 ≤ e ∧ e < b) then 14 else 0
def lax1 (k p t b e:Int):Int × Int × Int:=if legal k p ≠ 0 then (0,-1,legal k p) else if chk1c t b e ≠ 0 then (0,-1,chk1c t b e) else if e < 0 then (k,-1,0) else (k,0,12)
end Go.AM

namespace Go.AM
structure Cll where
 t:Nat
 o:Rw
 b:Int
 e:Int
 a:An
def eCll (c:Cll):D:=.a [.i .i64 c.t,.i .i64 c.o.k,.f .f64 c.o.x.p,.i .i64 c.o.x.v,.i .i64 c.o.a,.i .i64 c.o.b,.i .i64 c.b,.i .i64 c.e,.b c.a.ok,.f .f64 c.a.x.p,.i .i64 c.a.x.v,.i .i64 c.a.n]
instance:Flat eCll:=⟨fun _=>rfl,fun _=>rfl,fun _ _=>rfl⟩
end Go.AM

namespace Go.AM
theorem wc_upb {β : Type} {B : C} {Q : Rs → Prop} (n : Nat) (st : Nat → β → St) (P : Nat → β → Prop)
    (h:∀ i b,i < n → P i b → (∀ b',P (i + 1) b' → @WC (.loop B) (st (i + 1) b') ⟨Q⟩ trivial) → @WC B (st i b) ⟨fun r=>@SqQ (.loop B) ⟨Q⟩ r trivial⟩ trivial)
    (he:∀ b,P n b → @WC B (st n b) ⟨fun r=>@SqQ (.loop B) ⟨Q⟩ r trivial⟩ trivial):∀ b,P 0 b → @WC (.loop B) (st 0 b) ⟨Q⟩ trivial:=by
 intro b hb
 refine wc_ind (fun a:Nat × β => st a.1 a.2) (fun a=>n - a.1) (fun a=>a.1 ≤ n ∧ P a.1 a.2) ?_ (0,b) ⟨by simp,hb⟩
 rintro ⟨i,b⟩ ⟨h1,h2⟩ ih
 simp only at h1 h2 ih ⊢
 rcases Nat.lt_or_eq_of_le h1 with h3 | h3
 ·exact h i b h3 h2 (fun b' hb'=>ih (i + 1,b') (by simp; omega) ⟨by omega,hb'⟩)
 ·subst h3; exact he b h2
structure Cls (l:List Cll):Prop where
 t:∀ c ∈ l,c.t < 6
 b:∀ c ∈ l,0 ≤ c.b ∧ (c.e=-1 ∨ c.b < c.e) ∧ c.e ≤ 100000
 o:∀ (i:Nat) c d,l[i]? = some c → l[i + 1]? = some d → c.b ≤ d.b
 e:∀ (i j:Nat) c d,i < j → l[i]? = some c → l[j]? = some d → 0 ≤ c.e → 0 ≤ d.e → c.e < d.e
 n:l.length ≤ 1000
structure Clw (l:List Cll):Prop where
 t:∀ c ∈ l,c.t < 6
 b:∀ c ∈ l,0 ≤ c.b ∧ (c.e=-1 ∨ c.b ≤ c.e) ∧ c.e ≤ 100000
 o:∀ (i:Nat) c d,l[i]? = some c → l[i + 1]? = some d → c.b ≤ d.b
 e:∀ (i j:Nat) c d,i < j → l[i]? = some c → l[j]? = some d → 0 ≤ c.e → 0 ≤ d.e → c.e ≠ d.e
 n:l.length ≤ 1000
theorem Cls.w {l:List Cll} (h:Cls l):Clw l :=
 ⟨h.t,fun c hc=>⟨(h.b c hc).1,by have:=(h.b c hc).2.1; omega,(h.b c hc).2.2⟩,h.o,fun i j c d hl hc hd h0 h1=>by have:=h.e i j c d hl hc hd h0 h1; omega,h.n⟩
def pairC (d c:Cll):Prop:=d.t=c.t ∧ ¬ (0 ≤ d.e ∧ d.e < c.b)
instance (d c:Cll):Decidable (pairC d c):=by unfold pairC; infer_instance
def badC (l:List Cll):Prop:=∃ (i j:Nat) (d c:Cll),i < j ∧ l[i]? = some d ∧ l[j]? = some c ∧ pairC d c
theorem c_history_Ahead (c d:Cll) (sg):LL.call n_history_Call_Ahead [eCll c,eCll d] sg sg.length=some (.b (decide (0 ≤ c.e ∧ c.e < d.b)),sg,sg.length):=by
 refine wp_call e_history_Call_Ahead rfl ?_
 by_cases h1:0 ≤ c.e
 ·by_cases h2:c.e < d.b
  ·simp [F_history_Call_Ahead,eCll,h1,h2]
  ·simp [F_history_Call_Ahead,eCll,h1,h2]
 ·simp [F_history_Call_Ahead,eCll,h1]
def eP (c:Cll):D:=.a [.i .i64 c.t,.i .i64 c.b,.i .i64 c.e]
instance:Flat eP:=⟨fun _=>rfl,fun _=>rfl,fun _ _=>rfl⟩
section
variable (l:List Cll) (H:Clw l) (T:Int) (hB:badC l → T=14) (hG:¬ badC l → T=0) (sg:List (List D))
include H hB hG
set_option maxHeartbeats 4000000 in
theorem c_history_CheckL:LL.call n_history_Check [.l .z 12 (l.map eCll)] sg sg.length=some (.i .i64 T,sg,sg.length):=by
 refine wp_call e_history_Check rfl ?_
 simp [F_history_Check]
 refine wc_up l.length (fun i=>⟨[(0,.v (.l .z 12 (l.map eCll))),(7,.v (.l .z 12 (l.map eCll))),(8,.v (.i .i64 l.length)),(9,.v (.i .i64 i))],[],sg,sg.length⟩)
  (fun i=>∀ (k j:Nat) d c,k < j → j < i → l[k]? = some d → l[j]? = some c → ¬ pairC d c) ?_ ?_ 0 (by omega) (fun _ _ _ _ _ h=>by omega)
 ·intro i hi hp ih
  obtain ⟨c,q0⟩:∃ c,l[i] = c:=⟨_,rfl⟩
  have q1:l[i]? = some c:=by rw [← q0]; exact List.getElem?_eq_getElem hi
  have hc:=mem_of_get q1
  have ht:=H.t c hc
  obtain ⟨hb0,hbe,hbm⟩:=H.b c hc
  have n1:¬ ((c.t:Int) < 0):=by omega
  have n2:¬ (6 ≤ (c.t:Int)):=by omega
  have n3:¬ (c.b < 0):=by omega
  have n4:¬ (c.e < -1):=by omega
  have n5:¬ (0 ≤ c.e ∧ c.e < c.b):=by omega
  have w1:IntKind.i64.wrap ((i:Int) + 1)=(i:Int) + 1:=wrap64 (by have:=H.n; omega)
  have hn:=H.n
  have hcase:(0 ≤ c.e ∧ ¬ c.e < c.b) ∨ ¬ 0 ≤ c.e:=by omega
  have hprev:(¬ 0 < i) ∨ (0 < i ∧ ∃ d,l[i - 1]? = some d ∧ IntKind.i64.wrap ((i:Int) - 1)=((i - 1:Nat):Int) ∧ ¬ c.b < d.b):=by
   by_cases h0:0 < i
   ·obtain ⟨d,q⟩:∃ d,l[i - 1]? = some d:=⟨_,List.getElem?_eq_getElem (by omega)⟩
    have:=H.o (i - 1) d c q (by rw [show i - 1 + 1=i by omega]; exact q1)
    exact .inr ⟨h0,d,q,by rw [show (i:Int) - 1=((i - 1:Nat):Int) by omega]; exact wrap64 (by omega),by omega⟩
   ·exact .inl h0
  have hpair:∀ (j:Nat) d,j < i → l[j]? = some d → pairC d c → T=14:=fun j d hj hd hq=>hB ⟨j,i,d,c,hj,hd,q1,hq⟩
  have hne:∀ (j:Nat) d,j < i → l[j]? = some d → 0 ≤ d.e → ¬ d.e=c.e:=fun j d hj hd h0=>by
   intro h
   have:=H.e j i d c hj hd q1 h0 (by omega)
   omega
  rcases hcase with ⟨h5,h6⟩ | h5
  rotate_left
  have h6:=trivial
  rotate_left
  all_goals
   rcases hprev with h7 | ⟨h7,d0,h8,h9,h10⟩
   rotate_left
   rotate_left
   have h8:=trivial
   have h9:=trivial
   have h10:=trivial
   rotate_left
   all_goals
    simp [hi,q0,q1,eCll,n1,n2,n3,n4,h5,h6,h7,h8,h9,h10]
    refine ⟨by omega,?_⟩
    rw [show min i l.length=i by omega]
    refine wc_up i (fun j=>⟨[(0,.v (.l .z 12 (l.map eCll))),(4,.q (.ptr 4 0)),(7,.v (.l .z 12 (l.map eCll))),(8,.v (.i .i64 l.length)),(9,.v (.i .i64 i)),(61,.v (.l .z 12 (List.take i (l.map eCll)))),(62,.v (.i .i64 i)),(63,.v (.i .i64 j))],
     [(4,(eCll c).cells)],sg,sg.length⟩) (fun j=>∀ (k:Nat) d,k < j → l[k]? = some d → ¬ pairC d c) ?_ ?_ 0 (by omega) (fun _ _ h=>by omega)
    ·intro j hj hp2 ih2
     obtain ⟨d,q2⟩:∃ d,l[j]? = some d:=⟨_,List.getElem?_eq_getElem (by omega)⟩
     have w2:IntKind.i64.wrap ((j:Int) + 1)=(j:Int) + 1:=wrap64 (by omega)
     have A:=c_history_Ahead d c sg
     have P1:=hpair j d hj q2
     have P2:=hne j d hj q2
     have hjl:j < l.length:=by omega
     have q3:l[j] = d:=by have:=q2; rw [List.getElem?_eq_getElem hjl] at this; exact Option.some.inj this
     simp only [eCll] at A
     by_cases hq:pairC d c
     ·have hT:=P1 hq
      subst hT
      obtain ⟨e1,e2⟩:=hq
      have e2':(decide (0 ≤ d.e ∧ d.e < c.b))=false:=by simpa using e2
      rw [e2',e1] at A
      simp [hj,hjl,q3,eCll,e1,A]
     ·have ih2:=ih2 (fun k d' hk hd'=>by
       by_cases e:k=j
       ·subst e; rw [q2] at hd'; cases hd'; exact hq
       ·exact hp2 k d' (by omega) hd')
      by_cases e1:d.t=c.t
      ·have e2:decide (0 ≤ d.e ∧ d.e < c.b)=true:=by
        by_cases h:0 ≤ d.e ∧ d.e < c.b
        ·exact decide_eq_true h
        ·exact absurd ⟨e1,h⟩ hq
       rw [e2,e1] at A
       have e3:=of_decide_eq_true e2
       have e4:(d.e == c.e)=false:=by simpa using P2 e3.1
       simp [hj,hjl,q3,eCll,e1,A,e3.1,e4,w2]
       simpa [eCll] using ih2
      ·have e1':((d.t:Int) == (c.t:Int))=false:=by simp; omega
       by_cases e3:0 ≤ d.e
       ·have e4:(d.e == c.e)=false:=by simpa using P2 e3
        simp [hj,hjl,q3,eCll,e1,e1',e3,e4,w2]
        simpa [eCll] using ih2
       ·simp [hj,hjl,q3,eCll,e1,e1',e3,w2]
        simpa [eCll] using ih2
    ·intro hp2
     have ih:=ih (fun k j d c' h1 h2 h3 h4=>by
      by_cases e:j=i
      ·subst e; rw [q1] at h4; cases h4; exact hp2 k d h1 h3
      ·exact hp k j d c' h1 (by omega) h3 h4)
     simp [w1]
     simpa using ih
 ·intro hp
  have:¬ badC l:=by
   rintro ⟨k,j,d,c,h1,h2,h3,h4⟩
   exact hp k j d c h1 (List.getElem?_eq_some_iff.1 h3).1 h2 h3 h4
  have:=hG this
  subst this
  simp
end
section
variable (l:List Cll) (H:Cls l) (T:Int) (hB:badC l → T=14) (hG:¬ badC l → T=0) (sg:List (List D))
include H hB hG
end
end Go.AM

namespace Go.AM
def dnF (l:List Cll):Nat → List Nat
 | 0=>[]
 | i + 1=>match l[i]? with
  | some c=>if 0 ≤ c.e then dnF l i ++ [i] else dnF l i
  | none=>dnF l i
def dnL (l:List Cll):List Nat:=dnF l l.length
def nxD (l:List Cll) (k i:Nat):Int:=match i with
 | 0=>-1
 | i + 1=>match (dnL l)[k]? with
  | some j=>if j < i + 1 then (j:Int) else -1
  | none=>-1
def laD (l:List Cll) (k:Nat):Int:=match k with
 | 0=>-1
 | k + 1=>match (dnL l)[k]? with
  | some j=>match l[j]? with
   | some c=>c.e
   | none=>0
  | none=>0
section
variable (l:List Cll) (H:Cls l) (sg:List (List D))
include H
end
end Go.AM

namespace Go.AM
def addO (at_:Int):Int → List Cll → Int
 | n,[] => n
 | n,c :: r=>addO at_ (if c.o.k=5 ∧ 0 ≤ c.e ∧ c.e < at_ then n + c.o.x.v else n) r
def cntO (at_:Int):Int → List Cll → Int
 | n,[] => n
 | n,c :: r=>cntO at_ (if c.o.k=7 ∧ c.b ≤ at_ then n + 1 else n) r
def mapC (N:List Int):List D:=N.flatMap (fun n=>[.i .i64 n,.i .i64 1])
theorem mfind_mapC (n:Int):∀ N:List Int,mfind false (.i .i64 n) (mapC N)=some (if n ∈ N then some (.i .i64 1) else none)
 | [] => rfl
 | m :: N=>by
  have e:mapC (m :: N)=.i .i64 m :: .i .i64 1 :: mapC N:=rfl
  rw [e,mfind,mkey]
  by_cases h:n=m
  ·subst h; simp
  ·have h':(n == m)=false:=by simp [h]
   simp [h,h',mfind_mapC n N]
theorem mset_mapC (n:Int):∀ N:List Int,n ∉ N → mset false (.i .i64 n) (.i .i64 1) (mapC N)=some (mapC (N ++ [n]))
 | [],_=>by simp [mapC,mset,mkey]
 | m :: N,h=>by
  have e:mapC (m :: N)=.i .i64 m :: .i .i64 1 :: mapC N:=rfl
  have h1:¬ n=m:=fun h2=>h (by simp [h2])
  have h2:n ∉ N:=fun h2=>h (by simp [h2])
  rw [e,mset,mkey]
  simp only [if_true,beq_eq_false_iff_ne.2 h1,mset_mapC n N h2]
  rfl
def mayO (n0:Int) (l:List Cll) (N:List Int) (c:Cll):Bool :=
 if c.o.k=6 then decide (addO c.b n0 l ≤ c.a.n ∧ c.a.n ≤ addO c.e n0 l) else
 if c.o.k=7 then decide (c.a.n ∉ N ∧ n0 ≤ c.a.n ∧ c.a.n < cntO c.e n0 l) else true
def eJ (K:K) (v0 v:Vl) (p:Int) (l:List Cll) (mr:Nat):List D :=
 [.i .i64 v0.k,.l .z 2 (v0.is.map eI),.i .i64 v0.n,.i .i64 v.k,.l K 2 (v.is.map eI),.i .i64 v.n,.i .i64 p,.l .z 12 (l.map eCll),.mo mr]
section
variable (K:AM.K) (v0 v:Vl) (p:Int) (l:List Cll) (mr:Nat) (sg:List (List D)) (jr:Nat) (hJ:sg[jr]? = some (eJ K v0 v p l mr))
 (hv:∀ c ∈ l,c.o.k=5 → 0 ≤ c.o.x.v ∧ c.o.x.v ≤ 4294967296) (hn:l.length ≤ 1000) (h0:0 ≤ v0.n ∧ v0.n ≤ 1125899906842624)
include hJ hv hn h0
set_option maxHeartbeats 2000000 in
theorem c_lax_added (at_:Int):LL.call n_lax_judge_added [.p jr 0,.i .i64 at_] sg sg.length=some (.i .i64 (addO at_ v0.n l),sg,sg.length):=by
 refine wp_call e_lax_judge_added rfl ?_
 simp [eJ] at hJ
 simp [F_lax_judge_added,hJ]
 refine wc_list l (fun i (b:Int)=>⟨[(1,.v (.i .i64 at_)),(5,.v (.i .i64 b)),(16,.v (.l .z 12 (l.map eCll))),(17,.v (.i .i64 l.length)),(18,.v (.i .i64 i))],[],sg,sg.length⟩)
  (fun r b=>addO at_ b r=addO at_ v0.n l ∧ (∀ c ∈ r,c ∈ l) ∧ 0 ≤ b ∧ b + r.length * 4294967296 ≤ 1125899906842624 + 1000 * 4294967296) ?_ ?_ v0.n ⟨rfl,fun _ h=>h,h0.1,by omega⟩
 ·rintro i c r b q1 hi ⟨g1,g2,g3,g4⟩ ih
  have w1:IntKind.i64.wrap ((i:Int) + 1)=(i:Int) + 1:=wrap64 (by omega)
  simp only [addO,List.length_cons] at g1 g4
  have g4':b + 4294967296 + r.length * 4294967296 ≤ 1125899906842624 + 1000 * 4294967296:=by push_cast at g4; omega
  have q0:l[i] = c:=by have:=q1; rw [List.getElem?_eq_getElem hi] at this; exact Option.some.inj this
  by_cases h1:c.o.k=5
  ·have hx:=hv c (g2 c (by simp)) h1
   by_cases h2:0 ≤ c.e
   ·by_cases h3:c.e < at_
    ·rw [if_pos ⟨h1,h2,h3⟩] at g1
     have ih:=ih (b + c.o.x.v) ⟨g1,fun d hd=>g2 d (by simp [hd]),by omega,by omega⟩
     have w2:IntKind.i64.wrap (b + c.o.x.v)=b + c.o.x.v:=wrap64 (by omega)
     simp [hi,q0,eCll,h1,h2,h3,w1,w2]
     simpa [eCll] using ih
    ·rw [if_neg (by omega)] at g1
     have ih:=ih b ⟨g1,fun d hd=>g2 d (by simp [hd]),by omega,by omega⟩
     simp [hi,q0,eCll,h1,h2,h3,w1]
     simpa [eCll] using ih
   ·rw [if_neg (by omega)] at g1
    have ih:=ih b ⟨g1,fun d hd=>g2 d (by simp [hd]),by omega,by omega⟩
    simp [hi,q0,eCll,h1,h2,w1]
    simpa [eCll] using ih
  ·rw [if_neg (by omega)] at g1
   have ih:=ih b ⟨g1,fun d hd=>g2 d (by simp [hd]),by omega,by omega⟩
   have h1':(c.o.k == 5)=false:=by simp [h1]
   simp [hi,q0,eCll,h1',w1]
   simpa [eCll] using ih
 ·rintro b ⟨g1,_⟩
  simp only [addO] at g1
  subst g1
  simp
set_option maxHeartbeats 2000000 in
theorem c_lax_came (at_:Int):LL.call n_lax_judge_came [.p jr 0,.i .i64 at_] sg sg.length=some (.i .i64 (cntO at_ v0.n l),sg,sg.length):=by
 refine wp_call e_lax_judge_came rfl ?_
 simp [eJ] at hJ
 simp [F_lax_judge_came,hJ]
 refine wc_list l (fun i (b:Int)=>⟨[(1,.v (.i .i64 at_)),(5,.v (.i .i64 b)),(16,.v (.l .z 12 (l.map eCll))),(17,.v (.i .i64 l.length)),(18,.v (.i .i64 i))],[],sg,sg.length⟩)
  (fun r b=>cntO at_ b r=cntO at_ v0.n l ∧ 0 ≤ b ∧ b + r.length ≤ 1125899906842624 + 1000) ?_ ?_ v0.n ⟨rfl,h0.1,by omega⟩
 ·rintro i c r b q1 hi ⟨g1,g3,g4⟩ ih
  have w1:IntKind.i64.wrap ((i:Int) + 1)=(i:Int) + 1:=wrap64 (by omega)
  simp only [cntO,List.length_cons] at g1 g4
  have q0:l[i] = c:=by have:=q1; rw [List.getElem?_eq_getElem hi] at this; exact Option.some.inj this
  by_cases h1:c.o.k=7
  ·by_cases h2:c.b ≤ at_
   ·rw [if_pos ⟨h1,h2⟩] at g1
    have ih:=ih (b + 1) ⟨g1,by omega,by omega⟩
    have w2:IntKind.i64.wrap (b + 1)=b + 1:=wrap64 (by omega)
    simp [hi,q0,eCll,h1,h2,w1,w2]
    simpa [eCll] using ih
   ·rw [if_neg (by omega)] at g1
    have ih:=ih b ⟨g1,by omega,by omega⟩
    simp [hi,q0,eCll,h1,h2,w1]
    simpa [eCll] using ih
  ·rw [if_neg (by omega)] at g1
   have ih:=ih b ⟨g1,by omega,by omega⟩
   have h1':(c.o.k == 7)=false:=by simp [h1]
   simp [hi,q0,eCll,h1',w1]
   simpa [eCll] using ih
 ·rintro b ⟨g1,_⟩
  simp only [cntO] at g1
  subst g1
  simp
theorem c_lax_may (N : List Int) (hm : sg[mr]? = some (.u :: mapC N)) (c : Cll) :
    LL.call n_lax_judge_may [.p jr 0,eCll c] sg sg.length=some (.b (mayO v0.n l N c),if c.o.k=7 ∧ mayO v0.n l N c=true then sg.set mr (.u :: mapC (N ++ [c.a.n])) else sg,sg.length):=by
 have A1:=c_lax_added K v0 v p l mr sg jr hJ hv hn h0 c.b
 have A2:=c_lax_added K v0 v p l mr sg jr hJ hv hn h0 c.e
 have C1:=c_lax_came K v0 v p l mr sg jr hJ hv hn h0 c.e
 have M:=mfind_mapC c.a.n N
 simp [eJ] at hJ
 refine wp_call e_lax_judge_may rfl ?_
 by_cases h6:c.o.k=6
 ·have e:mayO v0.n l N c=decide (addO c.b v0.n l ≤ c.a.n ∧ c.a.n ≤ addO c.e v0.n l):=by unfold mayO; rw [if_pos h6]
  rw [if_neg (by omega),e]
  by_cases g1:addO c.b v0.n l ≤ c.a.n
  ·by_cases g2:c.a.n ≤ addO c.e v0.n l
   ·simp [F_lax_judge_may,eCll,h6,A1,A2,g1,g2]
   ·simp [F_lax_judge_may,eCll,h6,A1,A2,g1,g2]
  ·simp [F_lax_judge_may,eCll,h6,A1,A2,g1]
 ·have h6':(c.o.k == 6)=false:=by simp [h6]
  by_cases h7:c.o.k=7
  ·have e:mayO v0.n l N c=decide (c.a.n ∉ N ∧ v0.n ≤ c.a.n ∧ c.a.n < cntO c.e v0.n l):=by unfold mayO; rw [if_neg h6,if_pos h7]
   rw [e]
   by_cases g1:c.a.n ∈ N
   ·rw [if_pos g1] at M
    simp [F_lax_judge_may,eCll,h6',h7,hJ,hm,M,g1]
   ·rw [if_neg g1] at M
    have S:=mset_mapC c.a.n N g1
    by_cases g2:v0.n ≤ c.a.n
    ·have g2':¬ c.a.n < v0.n:=by omega
     by_cases g3:c.a.n < cntO c.e v0.n l
     ·have g3':¬ cntO c.e v0.n l ≤ c.a.n:=by omega
      have w1:IntKind.i64.wrap 1=1:=by decide
      simp [F_lax_judge_may,eCll,h6',h7,hJ,hm,M,g1,g2,g2',g3,g3',C1,w1,S]
      exact List.take_of_length_le (by simp)
     ·have g3':cntO c.e v0.n l ≤ c.a.n:=by omega
      simp [F_lax_judge_may,eCll,h6',h7,hJ,hm,M,g1,g2,g2',g3,g3',C1]
    ·have g2':c.a.n < v0.n:=by omega
     simp [F_lax_judge_may,eCll,h6',h7,hJ,hm,M,g1,g2,g2']
  ·have h7':(c.o.k == 7)=false:=by simp [h7]
   have e:mayO v0.n l N c=true:=by unfold mayO; rw [if_neg h6,if_neg h7]
   rw [if_neg (by omega),e]
   simp [F_lax_judge_may,eCll,h6',h7']
end
end Go.AM

namespace Go.AM
def eTc (K:K) (c:Cll):List D:=[.i .i64 c.o.k,.i .u64 c.o.x.canon.p,.i .i64 c.o.x.v,.i .i64 0,.i .i64 0,.i .i64 0,.i .i64 0,.i .i64 0,.i .i64 0,.i .i64 0,.b false,.i .i64 0,.i .i64 0,.i .i64 0,.l K 2 [],.i .i64 0,.l K 2 [],
 .i .i64 c.b,.i .i64 c.e,.b c.a.ok,.i .u64 c.a.x.canon.p,.i .i64 c.a.x.v,.i .i64 c.a.n]
def eTl (K:K) (c:Cll):D:=.a (eTc K c)
instance:Flat (eTl .z):=⟨fun _=>rfl,fun _=>rfl,fun _ _=>rfl⟩
def numsD (l:List Cll) (dk:List Nat):List Int:=dk.filterMap (fun j=>match l[j]? with
 | some d=>if d.o.k=7 then some d.a.n else none
 | none=>none)
theorem numsD_snoc (l:List Cll) (dk:List Nat) (j:Nat) (d:Cll) (h:l[j]? = some d):numsD l (dk ++ [j])=numsD l dk ++ (if d.o.k=7 then [d.a.n] else []):=by
 unfold numsD
 rw [List.filterMap_append]
 congr 1
 simp only [List.filterMap_cons,h,List.filterMap_nil]
 split <;> rename_i h' <;> split at h' <;> simp_all
section
variable (l:List Cll) (n0:Int) (c:Cll) (dk:List Nat) (sg:List (List D))
 (hv:∀ c ∈ l,c.o.k=5 → 0 ≤ c.o.x.v ∧ c.o.x.v ≤ 4294967296) (hn:l.length ≤ 1000) (h0:0 ≤ n0 ∧ n0 ≤ 1125899906842624) (hdk:∀ j ∈ dk,j < l.length) (hdn:dk.length ≤ 1000)
include hv hn h0 hdk hdn
end
end Go.AM

namespace Go.AM
theorem canonOk {x:It} (h:x.ok):x.canon.ok:=⟨canon_lt h.1,h.2⟩
theorem canonTwo (x:It):x.canon.canon=x.canon:=by simp [It.canon,canon_canon]
structure GV (k:Int) (m:Nat) (v:Vl):Prop where
 kd:v.k=k
 it:∀ y ∈ v.is,y.ok ∧ y.canon=y
 so:k=1 → v.is.Pairwise leI
 l:v.is.length ≤ 20 + m
 n:0 ≤ v.n ∧ v.n ≤ 1099511627776 + m * 4294967296
structure Cops (k:Int) (l:List Cll):Prop where
 o:∀ c ∈ l,2 * k - 1 ≤ c.o.k ∧ c.o.k ≤ (if k=4 then 7 else 2 * k)
 v:∀ c ∈ l,c.o.k=5 → 0 ≤ c.o.x.v ∧ c.o.x.v ≤ 4294967296
 x:∀ c ∈ l,c.o.x.ok
 a:∀ c ∈ l,c.a.x.ok
theorem outI_mem {x:It} {l l':List It} {m:Int} (h:outI x l m=some l'):(∀ y ∈ l',y ∈ l) ∧ l'.length ≤ l.length ∧ (l.Pairwise leI → l'.Pairwise leI):=by
 unfold outI at h
 split at h
 ·cases h
 ·cases h
  exact ⟨fun y hy=>List.mem_of_mem_eraseIdx hy,by rw [List.length_eraseIdx]; split <;> omega,fun hp=>hp.sublist (List.eraseIdx_sublist _ _)⟩
theorem GV.aft {k : Int} {m : Nat} {v : Vl} (h : GV k m v) (hk : 1 ≤ k ∧ k ≤ 4) {o : Int} {x ai : It} {ok : Bool} {p : Int} (ho : 2 * k - 1 ≤ o ∧ o ≤ (if k = 4 then 7 else 2 * k)) (hv : o = 5 → 0 ≤ x.v ∧ x.v ≤ 4294967296) (hx : x.ok) :
    GV k (m + 1) (aftV v o x ok ai p).1:=by
 obtain ⟨f1,f2,f3,f4,f5⟩:=h
 have same:GV k (m + 1) v:=⟨f1,f2,f3,by omega,by push_cast; omega⟩
 unfold aftV
 split
 ·exact same
 split
 ·rename_i h1
  refine ⟨f1,?_,fun _=>(ordered_pw _).1 (sortI_ordered _),?_,by simp only; push_cast; omega⟩
  ·intro y hy
   obtain ⟨z,hz,rfl⟩:=List.mem_map.1 ((sortI_perm _).mem_iff.1 hy)
   refine ⟨canonOk ?_,canonTwo z⟩
   rcases List.mem_append.1 hz with hz | hz
   ·exact (f2 z hz).1
   ·simp at hz; subst hz; exact hx
  ·simp only [sortI_len,List.length_map,List.length_append,List.length_singleton]; omega
 split
 ·rename_i h1
  refine ⟨f1,?_,fun h=>by split at ho <;> omega,by simp; omega,by simp only; push_cast; omega⟩
  intro y hy
  rcases List.mem_append.1 hy with hy | hy
  ·exact f2 y hy
  ·simp at hy; subst hy; exact ⟨canonOk hx,canonTwo x⟩
 split
 ·split
  ·rename_i l' hl
   obtain ⟨g1,g2,g3⟩:=outI_mem hl
   exact ⟨f1,fun y hy=>f2 y (g1 y hy),fun h=>g3 (f3 h),by simp only; omega,by simp only; push_cast; omega⟩
  ·exact same
 split
 ·split
  ·rename_i l' hl
   obtain ⟨g1,g2,g3⟩:=outI_mem hl
   exact ⟨f1,fun y hy=>f2 y (g1 y hy),fun h=>g3 (f3 h),by simp only; omega,by simp only; push_cast; omega⟩
  ·exact same
 split
 ·rename_i h5
  have:=hv h5
  exact ⟨f1,f2,f3,by simp only; omega,by simp only; push_cast; omega⟩
 split
 ·exact ⟨f1,f2,f3,by simp only; omega,by simp only; push_cast; omega⟩
 ·exact same
def tF (c:Cll):FrR:=⟨⟨c.o.k,c.o.x.canon,0,0⟩,0,0,0,0,0,false,0,0,0,[],0,[]⟩
def runL (n0 p:Int) (l:List Cll):Vl → List Nat → List Nat → Vl × Int
 | v,_,[] => (v,-1)
 | v,dk,j :: r=>match l[j]? with
  | none=>(v,-1)
  | some c=>if (aftV v c.o.k c.o.x c.a.ok c.a.x p).2=true ∧ mayO n0 l (numsD l dk) c=true then runL n0 p l (aftV v c.o.k c.o.x c.a.ok c.a.x p).1 (dk ++ [j]) r else (v,j)
def stJ (sg:List (List D)) (N:List Int) (K:K) (v0 v:Vl) (p:Int) (l:List Cll):List (List D):=sg ++ [.u :: mapC N,eJ K v0 v p l sg.length]
section
variable (sg:List (List D)) (N:List Int) (K:AM.K) (v0 v:Vl) (p:Int) (l:List Cll)
theorem stJ_0:(stJ sg N K v0 v p l)[sg.length]? = some (.u :: mapC N):=by simp [stJ]
theorem stJ_1:(stJ sg N K v0 v p l)[sg.length + 1]? = some (eJ K v0 v p l sg.length):=by simp [stJ]
theorem stJ_g1 (h):(stJ sg N K v0 v p l)[sg.length + 1]'h=eJ K v0 v p l sg.length:=by simp [stJ]
theorem stJ_len:(stJ sg N K v0 v p l).length=sg.length + 1 + 1:=by simp [stJ]
theorem stJ_take:List.take sg.length (stJ sg N K v0 v p l)=sg:=by simp [stJ]
theorem stJ_set0 (N':List Int):(stJ sg N K v0 v p l).set sg.length (.u :: mapC N')=stJ sg N' K v0 v p l:=by simp [stJ,List.set_append_right]
theorem stJ_set1 (K':AM.K) (v':Vl):(stJ sg N K v0 v p l).set (sg.length + 1) (eJ K' v0 v' p l sg.length)=stJ sg N K' v0 v' p l:=by simp [stJ,List.set_append_right]
end
section
variable (k p:Int) (v0:Vl) (l:List Cll) (hC:∀ sg,LL.call n_history_Check [.l .z 12 (l.map eCll)] sg sg.length=some (.i .i64 0,sg,sg.length)) (ds:List Nat) (hD:∀ sg,LL.call n_history_Done [.l .z 12 (l.map eCll)] sg sg.length=some (.l .x 1 (ds.map eN),sg,sg.length)) (hds:∀ j ∈ ds,j < l.length) (hdl:ds.length ≤ 900) (HO:Cops k l) (hl:legal k p=0) (h0:GV k 0 v0) (hn:l.length ≤ 900) (sg:List (List D))
include hC hD hds hdl HO hl h0 hn
set_option maxHeartbeats 8000000 in
theorem c_lax_CheckG : ∀ R, runL v0.n p l v0 [] ds = R → LL.call n_lax_Check [eVl .z v0, .i .i64 p, .l .z 12 (l.map eCll)] sg sg.length =
    some (.t [eVl .z R.1,.i .i64 R.2,.i .i64 (if R.2=-1 then 0 else 12)],sg,sg.length):=by
 intro R hR
 have hk:=legal_k hl
 have L:=c_op_Legal k p sg
 rw [hl] at L
 have C:=hC sg
 have hs1:stJ sg [] .z v0 v0 p l=sg ++ [[.u],[.i .i64 v0.k,.l .z 2 (v0.is.map eI),.i .i64 v0.n,.i .i64 v0.k,.l .z 2 (v0.is.map eI),.i .i64 v0.n,.i .i64 p,.l .z 12 (l.map eCll),.mo sg.length]] := rfl
 have Dn:=hD (stJ sg [] .z v0 v0 p l)
 have hmin2:min sg.length (sg.length + 1 + 1)=sg.length:=by omega
 have hk0:v0.k=k:=h0.kd
 rw [← hk0] at L
 refine wp_call e_lax_Check rfl ?_
 simp [F_lax_Check,eVl,L,C,← hs1,Dn]
 rw [stJ_len,hmin2]
 refine wc_upb ds.length (fun i (b : AM.K × Vl × List Int) => ⟨[(1, .v (.i .i64 p)), (2, .v (.l .z 12 (l.map eCll))), (6, .q (.ptr 6 0)), (11, .v (.p (sg.length + 1) 0)), (39, .v (.l .o 1 (ds.map eN))), (40, .v (.i .i64 ds.length)), (41, .v (.i .i64 i))],
     [(6,[.i .i64 0,.l .o 2 [],.i .i64 0])],stJ sg b.2.2 b.1 v0 b.2.1 p l,sg.length⟩)
  (fun i b=>(b.1=.z ∨ b.1=.o) ∧ GV k i b.2.1 ∧ b.2.2=numsD l (ds.take i) ∧ runL v0.n p l b.2.1 (ds.take i) (ds.drop i)=R) ?_ ?_ (.z,v0,[]) ⟨.inl rfl,h0,rfl,by simpa using hR⟩
 ·rintro i ⟨K,v,N⟩ hi ⟨hK,G,hN,hrun⟩ ih
  simp only at hK G hN hrun
  obtain ⟨j,q0⟩:∃ j,ds[i] = j:=⟨_,rfl⟩
  have q1:ds[i]? = some j:=by rw [← q0]; exact List.getElem?_eq_getElem hi
  have hjl:=hds j (mem_of_get q1)
  obtain ⟨c,q2⟩:∃ c,l[j]? = some c:=⟨_,List.getElem?_eq_getElem hjl⟩
  have q3:l[j] = c:=by have:=q2; rw [List.getElem?_eq_getElem hjl] at this; exact Option.some.inj this
  have hcm:=mem_of_get q2
  have w1:IntKind.i64.wrap ((i:Int) + 1)=(i:Int) + 1:=wrap64 (by omega)
  have et:ds.take (i + 1)=ds.take i ++ [j] := by rw [List.take_add_one,q1]; rfl
  have ed:ds.drop i=j :: ds.drop (i + 1):=by rw [List.drop_eq_getElem_cons hi,q0]
  rw [ed,runL,q2] at hrun
  simp only at hrun
  obtain ⟨K',hK',A⟩:=c_value_After v c.o.k c.o.x c.o.a c.o.b c.a.ok c.a.x c.a.n p (by rw [G.kd]; exact hk) (by rw [G.kd]; exact HO.o c hcm) (HO.v c hcm) (HO.x c hcm) (HO.a c hcm) (fun y hy=>(G.it y hy).1) (by have:=G.l; omega) ⟨G.n.1,by have:=G.n.2; omega⟩ (stJ sg N K v0 v p l)
  have M:=c_lax_may K v0 v p l sg.length (stJ sg N K v0 v p l) (sg.length + 1) (stJ_1 ..) HO.v (by omega) ⟨h0.n.1,by have:=h0.n.2; omega⟩ N (stJ_0 ..) c
  have G2:=G.aft hk (HO.o c hcm) (HO.v c hcm) (HO.x c hcm) (ai:=c.a.x) (ok:=c.a.ok) (p:=p)
  rw [← hN] at hrun
  generalize ha:aftV v c.o.k c.o.x c.a.ok c.a.x p=a at A G2 hrun
  obtain ⟨v',ok⟩:=a
  simp only at G2 hrun A
  have hj1:¬ (j:Int)=-1:=by omega
  cases ok with
  | false =>
   rw [if_neg (by simp)] at hrun
   subst hrun
   simp [eVl,eCll] at A
   rcases hK with rfl | rfl
   all_goals
    rcases hK' with rfl | rfl
    all_goals
     simp [hi,q0,hjl,q3,eCll,eN,stJ_1,eJ,A,hj1,eVl]
     simp [stJ_len,stJ_take,hmin2]
  | true =>
   by_cases hmay:mayO v0.n l N c=true
   ·rw [if_pos ⟨rfl,hmay⟩] at hrun
    have hN2:(if c.o.k=7 ∧ mayO v0.n l N c=true then (stJ sg N K v0 v p l).set sg.length (.u :: mapC (N ++ [c.a.n])) else stJ sg N K v0 v p l)=stJ sg (numsD l (ds.take (i + 1))) K v0 v p l:=by
     rw [et,numsD_snoc l _ j c q2,← hN]
     by_cases h7:c.o.k=7
     ·rw [if_pos ⟨h7,hmay⟩,if_pos h7,stJ_set0]
     ·rw [if_neg (fun h=>h7 h.1),if_neg h7,List.append_nil]
    rw [hN2,hmay] at M
    generalize hNN:numsD l (ds.take (i + 1))=N2 at *
    have ih:=ih (.z,v',N2) ⟨.inl rfl,G2,rfl,by rw [et]; exact hrun⟩
    simp only at ih
    have s1:=stJ_set1 sg N2 K v0 v p l .z v'
    simp [eVl,eCll] at A M
    simp [eJ] at s1
    rcases hK with rfl | rfl
    all_goals
     rcases hK' with rfl | rfl
     all_goals
      simp [hi,q0,hjl,q3,eCll,eN,stJ_1,eJ,A,M,hj1,eVl,w1,s1]
      rw [stJ_len,hmin2]
      simpa using ih
   ·have hmay':mayO v0.n l N c=false:=by simpa using hmay
    rw [if_neg (by rw [hmay']; simp)] at hrun
    subst hrun
    rw [if_neg (by rw [hmay']; simp),hmay'] at M
    simp [eVl,eCll] at A M
    rcases hK with rfl | rfl
    all_goals
     rcases hK' with rfl | rfl
     all_goals
      simp [hi,q0,hjl,q3,eCll,eN,stJ_1,eJ,A,M,hj1,eVl]
      simp [stJ_len,stJ_take,hmin2]
 ·rintro ⟨K,v,N⟩ ⟨hK,G,hN,hrun⟩
  simp only at hK G hN hrun
  rw [List.drop_length,runL] at hrun
  subst hrun
  rcases hK with rfl | rfl
  all_goals
   simp [stJ_1,stJ_g1,eJ,stJ_len,stJ_take,eVl,hmin2]
end
section
variable (k p:Int) (v0:Vl) (l:List Cll) (H:Cls l) (HO:Cops k l) (hac:∀ c ∈ l,c.a.x.canon=c.a.x) (hk:1 ≤ k ∧ k ≤ 4) (h0:GV k 0 v0) (hn:l.length ≤ 900) (sg:List (List D))
include H HO h0 hn hac hk
end
end Go.AM

namespace Go.AM
structure Old (M M':Mem):Prop where
 ck:M.ck ≤ M'.ck
 old:∀ i,rdM M' i=rdM M i ∨ M.ck < (rdM M' i).v
theorem Old.rfl' (M:Mem):Old M M:=⟨Nat.le_refl _,fun _=>.inl rfl⟩
theorem Old.put (M:Mem) (i:Nat) (n:Int) (l:List It):Old M (putM M i n l):=by
 refine ⟨by simp [putM],fun j=>?_⟩
 rw [rdM_putM]
 split
 ·right; simp
 ·left; rfl
theorem Old.wr (M:Mem) (i:Int) (v:Nat) (n:Int) (l:List It):Old M (wrM M i v n l):=by
 unfold wrM
 split
 ·exact Old.put M _ n l
 ·exact Old.rfl' M
def Rd0 (M:Mem) (i:Int) (v:Nat) (n:Int) (l:List It):Prop:=v ≤ M.ck ∧ (v=(rdM M i).v → (rdM M i).n=n ∧ (rdM M i).l=l)
theorem Rd0.keep {M M' i v n l} (h:Rd0 M i v n l) (T:Old M M'):Rd0 M' i v n l:=by
 refine ⟨Nat.le_trans h.1 T.ck,fun e=>?_⟩
 rcases T.old i with e1 | e1
 ·rw [e1] at e ⊢; exact h.2 e
 ·have:=h.1; omega
theorem Rd0.self {M:Mem} (hM:M.good) (i:Int):Rd0 M i (rdM M i).v (rdM M i).n (rdM M i).l:=⟨(hM.rd i).2.2.2,fun _=>⟨rfl,rfl⟩⟩
structure RF (p:Nat) (M:Mem) (f:FrR):Prop where
 a:(f.o.k=1 ∨ f.o.k=2 ∨ f.o.k=5) → f.pc ≠ 0 → Rd0 M (into f.o.a p) f.v0 f.n0 f.l0
 b:f.o.k=2 → f.pc=2 → Rd0 M (into f.o.b p) f.v1 f.n1 f.l1
theorem RF.keep {p M M' f} (h:RF p M f) (T:Old M M'):RF p M' f:=⟨fun a b=>(h.a a b).keep T,fun a b=>(h.b a b).keep T⟩
theorem RF.zero {p:Nat} {M:Mem} {f:FrR} (h:f.pc=0):RF p M f:=⟨fun _ e=>absurd h e,fun _ e=>by omega⟩
theorem RF.other {p:Nat} {M:Mem} {f:FrR} (h:f.o.k ≠ 1 ∧ f.o.k ≠ 2 ∧ f.o.k ≠ 5):RF p M f:=⟨fun e=>by omega,fun e=>by omega⟩
theorem bagM_congr {M M':Mem}:∀ {p:Nat},(∀ j:Nat,j < p → rdM M' j=rdM M j) → bagM M' p=bagM M p
 | 0,_=>rfl
 | p + 1,h=>by rw [bagM,bagM,bagM_congr (fun j hj=>h j (by omega)),h p (by omega)]
theorem bag_put (M:Mem) {a:Nat}:∀ {p:Nat},a < p → ∃ r,(bagM M p).Perm ((rdM M a).l ++ r) ∧ ∀ n l,(bagM (putM M a n l) p).Perm (l ++ r)
 | 0,h=>by omega
 | p + 1,h=>by
  have hr:∀ n l (j:Nat),j ≠ a → rdM (putM M a n l) (j:Nat)=rdM M (j:Nat):=fun n l j hj=>by rw [rdM_putM,if_neg (by omega)]
  by_cases e:a=p
  ·subst e
   refine ⟨bagM M a,by rw [bagM]; exact List.perm_append_comm,fun n l=>?_⟩
   rw [bagM,bagM_congr (M:=M) (fun j hj=>hr n l j (by omega)),rdM_putM,if_pos rfl]
   exact List.perm_append_comm
  ·obtain ⟨r,r1,r2⟩:=bag_put M (a:=a) (p:=p) (by omega)
   refine ⟨r ++ (rdM M p).l,by rw [bagM,← List.append_assoc]; exact r1.append_right _,fun n l=>?_⟩
   rw [bagM,hr n l p (by omega),← List.append_assoc]
   exact (r2 n l).append_right _
theorem sumM_congr {M M':Mem} {f:Nat}:∀ {p:Nat},(∀ j:Nat,j < p → (rdM M' ((f + j:Nat):Int)).n=(rdM M ((f + j:Nat):Int)).n) → sumM M' f p=sumM M f p
 | 0,_=>rfl
 | p + 1,h=>by rw [sumM,sumM,sumM_congr (fun j hj=>h j (by omega)),h p (by omega)]
theorem sumM_one {M M':Mem} {f a:Nat}:∀ {p:Nat},a < p → (∀ j:Nat,j < p → j ≠ a → (rdM M' ((f + j:Nat):Int)).n=(rdM M ((f + j:Nat):Int)).n) → sumM M' f p=sumM M f p + ((rdM M' ((f + a:Nat):Int)).n - (rdM M ((f + a:Nat):Int)).n)
 | 0,h,_=>by omega
 | p + 1,h,hr=>by
  rw [sumM,sumM]
  by_cases e:a=p
  ·subst e
   rw [sumM_congr (M:=M) (fun j hj=>hr j (by omega) (by omega))]
   omega
  ·rw [sumM_one (a:=a) (p:=p) (by omega) (fun j hj hn=>hr j (by omega) hn),hr p (by omega) (by omega)]
   omega
theorem sort_eq {l m:List It} (hok:∀ x ∈ l,x.ok) (h:(l.map It.canon).Perm (m.map It.canon)):sortI (l.map It.canon)=sortI (m.map It.canon):=by
 refine ordered_unique (fun x hx=>?_) ((ordered_pw _).1 (sortI_ordered _)) ((ordered_pw _).1 (sortI_ordered _)) ((sortI_perm _).trans (h.trans (sortI_perm _).symm))
 obtain ⟨y,hy,rfl⟩:=List.mem_map.1 ((sortI_perm _).mem_iff.1 hx)
 exact ⟨canonOk (hok y hy),canonTwo y⟩
theorem map_canon2 (l:List It):(l.map It.canon).map It.canon=l.map It.canon:=by
 rw [List.map_map]
 exact List.map_congr_left (fun x _=>canonTwo x)
theorem bag_in {l l' r : List It} {M M' : Mem} {p : Nat} {x : It} (hM : ∀ y ∈ bagM M p, y.ok) (hx : x.ok) (h1 : (bagM M p).Perm (l ++ r)) (h2 : (bagM M' p).Perm (l' ++ r)) (h3 : l'.Perm (x.canon :: l.map It.canon)) :
    sortI ((sortI ((bagM M p).map It.canon) ++ [x]).map It.canon)=sortI ((bagM M' p).map It.canon):=by
 refine sort_eq (fun y hy=>?_) ?_
 ·rcases List.mem_append.1 hy with hy | hy
  ·obtain ⟨z,hz,rfl⟩:=List.mem_map.1 ((sortI_perm _).mem_iff.1 hy)
   exact canonOk (hM z hz)
  ·simp at hy; subst hy; exact hx
 ·rw [List.map_append]
  have a1:((sortI ((bagM M p).map It.canon)).map It.canon).Perm ((bagM M p).map It.canon):=by
   have:=(sortI_perm ((bagM M p).map It.canon)).map It.canon
   rwa [map_canon2] at this
  have a2:((bagM M p).map It.canon).Perm (l.map It.canon ++ r.map It.canon):=by
   have:=h1.map It.canon
   rwa [List.map_append] at this
  have a3:((bagM M' p).map It.canon).Perm (x.canon :: l.map It.canon ++ r.map It.canon):=by
   have:=(h2.trans (h3.append_right r)).map It.canon
   rw [List.map_append,List.map_cons,map_canon2,canonTwo] at this
   exact this
  refine ((a1.trans a2).append_right _).trans (List.Perm.trans ?_ a3.symm)
  exact List.perm_append_singleton _ _
theorem bag_out {l l' r : List It} {M M' : Mem} {p : Nat} {y : It} (hM : ∀ y ∈ bagM M p, y.ok) (h1 : (bagM M p).Perm (l ++ r)) (h2 : (bagM M' p).Perm (l' ++ r)) (h3 : (l.map It.canon).Perm (y :: l')) :
    outI y (sortI ((bagM M p).map It.canon)) (sortI ((bagM M p).map It.canon)).length=some (sortI ((bagM M' p).map It.canon)):=by
 have hs:=sortI_perm ((bagM M p).map It.canon)
 have a2:((bagM M p).map It.canon).Perm (l.map It.canon ++ r.map It.canon):=by
  have:=h1.map It.canon
  rwa [List.map_append] at this
 obtain ⟨v,hv⟩:∃ v,v=sortI ((bagM M p).map It.canon):=⟨_,rfl⟩
 have hvc:∀ z ∈ v,z.ok ∧ z.canon=z:=by
  intro z hz
  rw [hv] at hz
  obtain ⟨u,hu,rfl⟩:=List.mem_map.1 (hs.mem_iff.1 hz)
  exact ⟨canonOk (hM u hu),canonTwo u⟩
 have hvo:v.Pairwise leI:=by rw [hv]; exact (ordered_pw _).1 (sortI_ordered _)
 have hvp:v.Perm (y :: (l' ++ r.map It.canon)):=by
  rw [hv]
  refine hs.trans (a2.trans ?_)
  exact h3.append_right _
 rw [← hv]
 have hy:y ∈ v:=hvp.mem_iff.2 (by simp)
 obtain ⟨j,z,q1,q2,q3⟩:=findI_app (x:=y) (A:=v) (B:=[]) (i:=0) ⟨y,hy,rfl⟩
 have hzy:z=y:=by rw [← (hvc z (List.mem_of_getElem? q2)).2,← q3,(hvc y hy).2]
 subst hzy
 rw [List.append_nil] at q1
 have hjl:=(List.getElem?_eq_some_iff.1 q2).1
 unfold outI
 rw [q1,if_neg (by omega)]
 have e4:(((0 + j:Nat):Int)).toNat=j:=by omega
 rw [e4]
 congr 1
 refine ordered_unique (fun u hu=>hvc u (List.mem_of_mem_eraseIdx hu)) (hvo.sublist (List.eraseIdx_sublist _ _)) ((ordered_pw _).1 (sortI_ordered _)) ?_
 have p1:(v.eraseIdx j).Perm (l' ++ r.map It.canon):=List.Perm.cons_inv ((erase_perm q2).symm.trans hvp)
 have l'c:l'.map It.canon=l':=by
  have:∀ u ∈ l',u.canon=u:=fun u hu=>(hvc u (hvp.mem_iff.2 (by simp [hu]))).2
  conv=>rhs; rw [← List.map_id l']
  exact List.map_congr_left this
 have p2:((bagM M' p).map It.canon).Perm (l' ++ r.map It.canon):=by
  have:=h2.map It.canon
  rwa [List.map_append,l'c] at this
 exact p1.trans (p2.symm.trans (sortI_perm _).symm)
structure VS (k:Int) (p:Nat) (M:Mem) (f:FrR) (so:So):Prop where
 rf:so.d=false → RF p so.m so.f
 old:Old M so.m
 nd:so.d=false → ofM k p so.m=ofM k p M
 dn:so.d=true → aftV (ofM k p M) f.o.k f.o.x so.a.ok so.a.x p=(ofM k p so.m,true)
theorem VS.same {k:Int} {p:Nat} {M:Mem} {f f':FrR} {a:An} {d:Bool} (hq:d=false → RF p M f') (ha:d=true → a.ok=false) (ho:f.o.k ≤ 4):VS k p M f ⟨M,f',a,d⟩:=by
 refine ⟨hq,.rfl' M,fun _=>rfl,fun hd=>?_⟩
 simp only at hd ⊢
 unfold aftV
 rw [if_pos (ha hd)]
 simp [ho]
theorem of1 (p:Nat) (M:Mem):ofM 1 p M=⟨1,sortI ((bagM M p).map It.canon),0⟩:=by unfold ofM; rw [if_pos rfl]
theorem of3 (p:Nat) (M:Mem):ofM 3 p M=⟨3,[],sumM M 0 p⟩:=by unfold ofM; rw [if_neg (by omega),if_neg (by omega),if_pos rfl]
theorem vs_ins {p s:Nat} {M:Mem} {f:FrR} (hp:1 ≤ p ∧ p ≤ 16) (hM:MI 1 s M) (hF:FI 1 s f) (h:RF p M f) (h1:f.o.k=1):VS 1 p M f (insP p M f):=by
 have hi:=into_lt f.o.a hp
 unfold insP
 by_cases c0:f.pc=0
 ·rw [if_pos c0]
  exact VS.same (fun _=>⟨fun _ _=>Rd0.self hM.good _,fun e=>by simp only at e; omega⟩) (fun _=>rfl) (by omega)
 ·rw [if_neg c0]
  split
  ·rename_i hw
   obtain ⟨w1,w2⟩:=wr_fresh hw
   obtain ⟨r1,r2⟩:=(h.a (.inl h1) c0).2 w2
   rw [wrM_t hw]
   obtain ⟨a,ha⟩:∃ a:Nat,into f.o.a p=a:=⟨(into f.o.a p).toNat,by omega⟩
   rw [ha] at r2 ⊢
   rw [Int.toNat_natCast]
   refine ⟨fun hd=>by simp at hd,Old.put _ _ _ _,fun hd=>by simp at hd,fun _=>?_⟩
   obtain ⟨r,b1,b2⟩:=bag_put M (a:=a) (p:=p) (by omega)
   have b2:=b2 0 (allH (putH (newH f.l0) f.o.x))
   have hb:=bag_in (M:=M) (M':=putM M a 0 (allH (putH (newH f.l0) f.o.x))) (bagM_ok hM.good p) hF.it b1 b2 (by
    rw [r2]
    exact (allH_perm _).trans ((putH_perm _ _).trans (List.Perm.cons _ (newH_perm _))))
   rw [of1,of1]
   unfold aftV
   rw [if_neg (by simp),if_pos h1,hb]
  ·exact VS.same (fun _=>RF.zero rfl) (fun e=>by simp at e) (by omega)
theorem vs_delW {p s:Nat} {M:Mem} {f:FrR} (hM:MI 1 s M) (h2:f.o.k=2) {at_:Int} {v:Nat} {n:Int} {l:List It} (hi:0 ≤ at_ ∧ at_ < p) (hl:l ≠ []) (hr:Rd0 M at_ v n l):VS 1 p M f (delW M f at_ v l):=by
 unfold delW
 split
 ·rename_i hw
  obtain ⟨w1,w2⟩:=wr_fresh hw
  obtain ⟨r1,r2⟩:=hr.2 w2
  rw [wrM_t hw]
  obtain ⟨a,ha⟩:∃ a:Nat,at_=a:=⟨at_.toNat,by omega⟩
  rw [ha] at r2 ⊢
  rw [Int.toNat_natCast]
  refine ⟨fun hd=>by simp at hd,Old.put _ _ _ _,fun hd=>by simp at hd,fun _=>?_⟩
  obtain ⟨r,b1,b2⟩:=bag_put M (a:=a) (p:=p) (by omega)
  have b2:=b2 0 (allH (popH (newH l)).2)
  have hn0:newH l ≠ [] := fun e=>hl (by have:=newH_len l; rw [e] at this; exact List.eq_nil_of_length_eq_zero (by simpa using this.symm))
  have hb:=bag_out (M:=M) (M':=putM M a 0 (allH (popH (newH l)).2)) (y:=(popH (newH l)).1) (bagM_ok hM.good p) b1 b2 (by
   rw [r2]
   exact (newH_perm l).symm.trans ((popH_perm hn0).symm.trans (List.Perm.cons _ (allH_perm _).symm)))
  rw [of1,of1]
  unfold aftV
  rw [if_neg (by simp),if_neg (by omega),if_neg (by omega),if_pos h2]
  simp only
  rw [hb]
 ·exact VS.same (fun _=>RF.zero rfl) (fun e=>by simp at e) (by omega)
theorem vs_del {p s:Nat} {M:Mem} {f:FrR} (hp:1 ≤ p ∧ p ≤ 16) (hM:MI 1 s M) (hF:FI 1 s f) (h:RF p M f) (h2:f.o.k=2):VS 1 p M f (delP p M f):=by
 have hi:=into_lt f.o.a hp
 have hi2:=into_lt f.o.b hp
 have hd:=hF.del h2
 unfold delP
 by_cases c0:f.pc=0
 ·rw [if_pos c0]
  exact VS.same (fun _=>⟨fun _ _=>Rd0.self hM.good _,fun _ e=>by simp at e⟩) (fun _=>rfl) (by omega)
 ·rw [if_neg c0]
  have r0:=h.a (.inr (.inl h2)) c0
  by_cases c1:f.pc=1
  ·rw [if_pos c1]
   exact VS.same (fun _=>⟨fun _ _=>r0,fun _ _=>Rd0.self hM.good _⟩) (fun _=>rfl) (by omega)
  ·rw [if_neg c1]
   have c2:f.pc=2 ∧ ((f.at_=0 ∧ f.l0 ≠ []) ∨ (f.at_=1 ∧ f.l1 ≠ [])):=by
    rcases hd with e | e | e
    ·exact absurd e c0
    ·exact absurd e c1
    ·exact e
   have r1:=h.b h2 c2.1
   split
   ·rename_i ha
    exact vs_delW hM h2 hi (by rcases c2.2 with e | e; exact e.2; omega) r0
   ·rename_i ha
    exact vs_delW hM h2 hi2 (by rcases c2.2 with e | e; omega; exact e.2) r1
theorem vs_tally {p s:Nat} {M:Mem} {f:FrR} (hp:1 ≤ p ∧ p ≤ 16) (hM:MI 3 s M) (hF:FI 3 s f) (h:RF p M f) (hk:f.o.k=5 ∨ f.o.k=6):VS 3 p M f (tallyP p M f):=by
 have hi:=into_lt f.o.a hp
 unfold tallyP
 by_cases h6:f.o.k=6
 ·rw [if_pos h6]
  split
  ·exact ⟨fun _=>RF.other (by simp only; omega),.rfl' M,fun _=>rfl,fun e=>by simp at e⟩
  ·refine ⟨fun e=>by simp at e,.rfl' M,fun _=>rfl,fun _=>?_⟩
   unfold aftV
   rw [if_neg (by simp),if_neg (by omega),if_neg (by omega),if_neg (by omega),if_neg (by omega),if_neg (by omega),if_neg (by omega)]
 ·rw [if_neg h6]
  have h5:f.o.k=5:=by omega
  by_cases c0:f.pc=0
  ·rw [if_pos c0]
   exact ⟨fun _=>⟨fun _ _=>Rd0.self hM.good _,fun e=>by simp only at e; omega⟩,.rfl' M,fun _=>rfl,fun e=>by simp at e⟩
  ·rw [if_neg c0]
   split
   ·rename_i hw
    obtain ⟨w1,w2⟩:=wr_fresh hw
    obtain ⟨r1,r2⟩:=(h.a (.inr (.inr h5)) c0).2 w2
    rw [wrM_t hw]
    obtain ⟨a,ha⟩:∃ a:Nat,into f.o.a p=a:=⟨(into f.o.a p).toNat,by omega⟩
    rw [ha] at r1 ⊢
    rw [Int.toNat_natCast]
    refine ⟨fun hd=>by simp at hd,Old.put _ _ _ _,fun hd=>by simp at hd,fun _=>?_⟩
    have hs:=sumM_one (M:=M) (M':=putM M a (f.n0 + f.o.x.v) []) (f:=0) (a:=a) (p:=p) (by omega) (fun j _ hj=>by rw [rdM_putM,if_neg (by omega)])
    rw [show (((0 + a:Nat):Int))=(a:Int) by omega,rdM_putM,if_pos rfl,r1] at hs
    simp only at hs
    rw [of3,of3,hs]
    unfold aftV
    rw [if_neg (by simp),if_neg (by omega),if_neg (by omega),if_neg (by omega),if_neg (by omega),if_pos h5]
    simp only
    congr 2
    omega
   ·exact ⟨fun _=>RF.zero rfl,.rfl' M,fun _=>rfl,fun e=>by simp at e⟩
end Go.AM

namespace Go.AM
def eMr (K:K) (ps:List Pt):D:=.a [.l K 3 (ps.map ePt)]
def zo (K:K):Prop:=K=.z ∨ K=.o
def wrQ (ps:List Pt) (i:Int) (ver:Nat):Bool:=decide (0 ≤ i ∧ i < 1000 ∧ (rdP ps 0 i zC).v=ver)
def wrP (ps:List Pt) (i:Int) (ver:Nat) (n:Int) (l:List It):List Pt:=if wrQ ps i ver then ps ++ [⟨i,n,l⟩] else ps
structure RSo where
 ps:List Pt
 f:FrR
 a:An
 d:Bool
def eRSo (r:RSo):D:=.t [eMr .z r.ps,eFr r.f,eAr r.a,.b r.d]
def rTally (p:Nat) (ps:List Pt) (g:FrR):RSo :=
 if g.o.k=6 then
  if g.at_ + 1=p then ⟨ps,{ g with tot:=g.tot + (rdP ps 0 g.at_ zC).n,at_:=g.at_ + 1 },⟨true,⟨0,0⟩,g.tot + (rdP ps 0 g.at_ zC).n⟩,true⟩
  else ⟨ps,{ g with tot:=g.tot + (rdP ps 0 g.at_ zC).n,at_:=g.at_ + 1 },noA,false⟩
 else if g.pc=0 then ⟨ps,{ g with v0:=(rdP ps 0 (into g.o.a p) zC).v,n0:=(rdP ps 0 (into g.o.a p) zC).n,l0:=(rdP ps 0 (into g.o.a p) zC).l,pc:=1 },noA,false⟩
 else ⟨wrP ps (into g.o.a p) g.v0 (g.n0 + g.o.x.v) [],{ g with pc:=0 },⟨wrQ ps (into g.o.a p) g.v0,⟨0,0⟩,0⟩,wrQ ps (into g.o.a p) g.v0⟩
def rIns (p:Nat) (ps:List Pt) (g:FrR):RSo :=
 if g.pc=0 then ⟨ps,{ g with v0:=(rdP ps 0 (into g.o.a p) zC).v,n0:=(rdP ps 0 (into g.o.a p) zC).n,l0:=(rdP ps 0 (into g.o.a p) zC).l,pc:=1 },noA,decide (62 ≤ (rdP ps 0 (into g.o.a p) zC).l.length)⟩
 else if wrQ ps (into g.o.a p) g.v0 then ⟨wrP ps (into g.o.a p) g.v0 0 (withI g.o.x g.l0),{ g with pc:=0 },⟨true,g.o.x,0⟩,true⟩
 else ⟨ps,{ g with pc:=0 },noA,false⟩
end Go.AM

namespace Go.AM
def rDelW (ps:List Pt) (g:FrR) (at_:Int) (v:Nat) (l:List It):RSo :=
 if wrQ ps at_ v then ⟨wrP ps at_ v 0 l.tail,{ g with pc:=0 },⟨true,l.headD ⟨0,0⟩,0⟩,true⟩ else ⟨ps,{ g with pc:=0 },noA,false⟩
def rDel (p:Nat) (ps:List Pt) (g:FrR):RSo :=
 if g.pc=0 then ⟨ps,{ g with v0:=(rdP ps 0 (into g.o.a p) zC).v,n0:=(rdP ps 0 (into g.o.a p) zC).n,l0:=(rdP ps 0 (into g.o.a p) zC).l,pc:=1 },noA,false⟩
 else if g.pc=1 then ⟨ps,{ g with v1:=(rdP ps 0 (into g.o.b p) zC).v,n1:=(rdP ps 0 (into g.o.b p) zC).n,l1:=(rdP ps 0 (into g.o.b p) zC).l,pc:=2 },noA,decide (g.l0.length + (rdP ps 0 (into g.o.b p) zC).l.length=0)⟩
 else if (betP g.l0 g.l1).1=1 then rDelW ps g (into g.o.b p) g.v1 g.l1 else rDelW ps g (into g.o.a p) g.v0 g.l0
def rMulti (p:Nat) (ps:List Pt) (g:FrR):RSo:=if g.o.k=1 then rIns p ps g else rDel p ps g
def moreP (ps:List Pt) (i:Int):List Pt:=wrP ps i (rdP ps 0 i zC).v ((rdP ps 0 i zC).n + 1) []
end Go.AM

namespace Go.AM
def placeL (w:Int):List Nat → Nat → Nat → Nat
 | [],_,a=>a
 | x :: r,i,a=>placeL w r (i + 1) (if (x:Int)=w then i else a)
def rNet (p:Nat) (ps:List Pt) (g0:FrR):RSo :=
 let g:=if g0.pc=0 then { g0 with pc:=1,at_:=into g0.o.a p } else g0
 match gateF g.at_ ((gatesN p).drop g.seen.toNat) g.seen.toNat with
 | some i=>⟨moreP ps i,{ g with seen:=i + 1,at_:=if (rdP ps 0 i zC).n.tmod 2=1 then ((gatesN p)[i]!.2:Int) else (gatesN p)[i]!.1 },noA,false⟩
 | none=>⟨moreP ps ((gatesN p).length + placeF g.at_ (outsN p) 0:Nat),g,⟨true,⟨0,0⟩,placeF g.at_ (outsN p) 0 + p * (rdP ps 0 ((gatesN p).length + placeF g.at_ (outsN p) 0:Nat) zC).n⟩,true⟩
section
variable (p:Nat) (hw:widthN p) (ps:List Pt) (hn:ps.length ≤ 1000000) (g0:FrR) (hs:g0.small) (hr:∀ i,0 ≤ (rdP ps 0 i zC).n ∧ (rdP ps 0 i zC).n ≤ 1000000) (sg:List (List D))
include hw hn hs hr
end
end Go.AM

namespace Go.AM
def rEnq (p:Nat) (ps:List Pt) (g:FrR):RSo :=
 if g.pc=0 then ⟨ps,{ (g.c0 (rdP ps 0 1 zC)) with seg:=(rdP ps 0 1 zC).n,at_:=into g.o.a p,seen:=0,pc:=1 },noA,decide (1000 < 2 + ((rdP ps 0 1 zC).n + 1) * p)⟩
 else if g.pc=1 then
  if (rdP ps 0 (slotK p g) zC).n=0 then ⟨ps,{ (g.c1 (rdP ps 0 (slotK p g) zC)) with pc:=2 },noA,false⟩
  else ⟨ps,{ (g.c1 (rdP ps 0 (slotK p g) zC)) with seen:=g.seen + 1,pc:=if g.seen + 1=p then 3 else 1 },noA,false⟩
 else if g.pc=2 then
  if wrQ ps (slotK p g) g.v1 then ⟨wrP ps (slotK p g) g.v1 1 [g.o.x],g,⟨true,g.o.x,0⟩,true⟩ else ⟨ps,{ g with pc:=0 },noA,false⟩
 else ⟨wrP ps 1 g.v0 (g.seg + 1) [],{ g with pc:=0 },noA,false⟩
def rLook (p:Nat) (ps:List Pt) (g:FrR):RSo :=
 if (rdP ps 0 (slotK p g) zC).n=1 then ⟨ps,{ (g.c1 (rdP ps 0 (slotK p g) zC)) with pc:=3 },noA,false⟩
 else if g.seen + 1 < p then ⟨ps,{ g with em:=g.em || (rdP ps 0 (slotK p g) zC).n == 0,seen:=g.seen + 1 },noA,false⟩
 else if (g.em || (rdP ps 0 (slotK p g) zC).n == 0)=true then ⟨ps,{ g with em:=true,seen:=g.seen + 1 },noA,true⟩
 else ⟨ps,{ g with em:=false,seen:=g.seen + 1,pc:=if g.n1=g.seg then 4 else 5 },noA,false⟩
def rDeq (p:Nat) (ps:List Pt) (g:FrR):RSo :=
 if g.pc=0 then ⟨ps,{ (g.c0 (rdP ps 0 0 zC)) with seg:=(rdP ps 0 0 zC).n,pc:=1 },noA,false⟩
 else if g.pc=1 then ⟨ps,{ (g.c1 (rdP ps 0 1 zC)) with at_:=into g.o.a p,seen:=0,em:=false,pc:=2 },noA,false⟩
 else if g.pc=2 then rLook p ps g
 else if g.pc=3 then
  if wrQ ps (slotK p g) g.v1 then ⟨wrP ps (slotK p g) g.v1 2 [],g,⟨true,g.l1.headD ⟨0,0⟩,0⟩,true⟩ else ⟨ps,{ g with pc:=0 },noA,false⟩
 else if g.pc=4 then ⟨wrP ps 1 g.v1 (g.seg + 1) [],{ g with pc:=0 },noA,false⟩
 else ⟨wrP ps 0 g.v0 (g.seg + 1) [],{ g with pc:=0 },noA,false⟩
def rKfifo (p:Nat) (ps:List Pt) (g:FrR):RSo:=if g.o.k=3 then rEnq p ps g else rDeq p ps g
section
variable (p:Nat) (hp:1 ≤ p ∧ p ≤ 16) (ps:List Pt) (hn:ps.length ≤ 1000000) (g:FrR) (hs:g.small) (hseg:0 ≤ g.seg ∧ g.seg ≤ 1000000) (hr:∀ i,(rdP ps 0 i zC).n ≤ 1000000 ∧ 0 ≤ (rdP ps 0 i zC).n) (sg:List (List D))
include hp hn hs hseg hr
end
end Go.AM

namespace Go.AM
def rStep (k:Int) (p:Nat) (ps:List Pt) (g:FrR):RSo:=if k=1 then rMulti p ps g else if k=2 then rKfifo p ps g else if k=3 then rTally p ps g else rNet p ps g
structure GI (k:Int) (g:FrR):Prop where
 sm:g.small
 kd:(k=1 ∧ (g.o.k=1 ∨ g.o.k=2)) ∨ (k=2 ∧ (g.o.k=3 ∨ g.o.k=4)) ∨ (k=3 ∧ (g.o.k=6 ∨ (g.o.k=5 ∧ 0 ≤ g.o.x.v ∧ g.o.x.v ≤ 4294967296))) ∨ (k=4 ∧ g.o.k=7)
 seg:0 ≤ g.seg ∧ g.seg ≤ 1000000
 del:g.o.k=2 → g.pc=0 ∨ g.pc=1 ∨ (g.pc=2 ∧ (g.l0 ≠ [] ∨ g.l1 ≠ []))
 enq:g.o.k=3 → g.pc=0 ∨ g.pc=1 ∨ g.pc=2 ∨ g.pc=3
 deq:g.o.k=4 → g.pc=0 ∨ g.pc=1 ∨ g.pc=2 ∨ (g.pc=3 ∧ g.l1 ≠ []) ∨ g.pc=4 ∨ g.pc=5
end Go.AM

namespace Go.AM
def UpH (h:List It) (j n:Nat):Prop:=(∀ i,1 ≤ i → i < n → i ≠ j → leI h[(i - 1) / 2]! h[i]!) ∧ (1 ≤ j → ∀ c,1 ≤ c → c < n → (c - 1) / 2=j → leI h[(j - 1) / 2]! h[c]!)
end Go.AM

namespace Go.AM
def gOf (k:Int) (f:FrR):FrR:={ f with o:={ f.o with x:=f.o.x.canon },at_:=if k=1 then 0 else f.at_ }
def kept (k:Int) (l:List It):Prop:=(∀ x ∈ l,x.ok ∧ x.canon=x) ∧ (k=1 → l.Pairwise leI)
structure PI (k:Int) (ps:List Pt):Prop where
 ok:∀ q ∈ ps,q.ok
 kp:∀ i,kept k (rdP ps 0 i zC).l
 one:k=2 → ∀ i,2 ≤ i → (rdP ps 0 i zC).n=1 → (rdP ps 0 i zC).l.length=1
theorem rdP_snoc (ps:List Pt) (q:Pt) (i:Int):rdP (ps ++ [q]) 0 i zC=if q.at_=i then ⟨ps.length + 1,q.n,q.l⟩ else rdP ps 0 i zC:=by
 rw [rdP_app]; simp [rdP]
theorem PI.wr {k ps} (h:PI k ps) {i:Int} {v:Nat} {n:Int} {l:List It} (hl:kept k l) (h2:l.length ≤ 1000000) (h3:k=2 → 2 ≤ i → n=1 → l.length=1):PI k (wrP ps i v n l):=by
 unfold wrP
 split
 ·rename_i hw
  simp [wrQ] at hw
  refine ⟨fun q hq=>?_,fun j=>?_,fun hk j hj=>?_⟩
  ·rcases List.mem_append.1 hq with hq | hq
   ·exact h.ok q hq
   ·simp at hq; subst hq; exact ⟨hw.1,hw.2.1,h2⟩
  ·rw [rdP_snoc]
   split
   ·exact hl
   ·exact h.kp j
  ·rw [rdP_snoc]
   split
   ·rename_i e
    simp only at e
    subst e
    exact h3 hk hj
   ·exact h.one hk j hj
 ·exact h
structure KI (k:Int) (p:Nat) (f:FrR):Prop where
 l0:kept k f.l0
 l1:kept k f.l1
 bet:k=1 → f.o.k=2 → f.pc=2 → f.at_=(betP f.l0 f.l1).1
 sum:f.o.k=6 → f.at_ < p
 em:f.o.k=3 → f.em=false
structure Rl (k:Int) (p:Nat) (so:So) (ro:RSo):Prop where
 m:so.m=memOf ro.ps
 pi:PI k ro.ps
 a:so.a=ro.a
 d:so.d=ro.d
 f:so.d=false → ro.f=gOf k so.f
 ki:so.d=false → KI k p so.f
end Go.AM

namespace Go.AM
def zF:FrR:=⟨⟨0,⟨0,0⟩,0,0⟩,0,0,0,0,0,false,0,0,0,[],0,[]⟩
def eEr (KM KF:K) (k:Int) (p:Nat) (ps:List Pt) (fs:List D) (cl:Bool):D:=.a [.i .i64 k,.i .i64 p,.l KM 3 (ps.map ePt),.l KF 17 fs,.b cl]
instance:Flat eFr:=⟨fun _=>rfl,fun g=>by simp [eFr,eFrK],fun n g=>by simp [eFr,eFrK]⟩
def busyR:List FrR → Nat → List Nat
 | [],_=>[]
 | g :: r,i=>if g.o.k=0 then busyR r (i + 1) else i :: busyR r (i + 1)
def begR (k:Int) (cl:Bool) (gs:List FrR) (t:Int) (g:FrR):Int:=if t < 0 ∨ 6 ≤ t then 4 else if cl then 12 else if checkO k g.o.k g.o.x.v ≠ 0 then checkO k g.o.k g.o.x.v else if ((gs[t.toNat]?).getD zF).o.k ≠ 0 then 11 else 0
end Go.AM

namespace Go.AM
def wAll (l:List It) (o:List It):List It:=l.foldl (fun o x=>withI x o) o
end Go.AM

namespace Go.AM
def eldR (ps:List Pt):List Pt → Nat → List It
 | [],_=>[]
 | q :: r,i=>(if 1 < q.at_ ∧ (rdP ps 0 q.at_ zC).v=i + 1 ∧ (rdP ps 0 q.at_ zC).n=1 then [(rdP ps 0 q.at_ zC).l.headD ⟨0,0⟩] else []) ++ eldR ps r (i + 1)
end Go.AM

namespace Go.AM
def eldC (ps:List Pt):List Pt → Nat → List Cl
 | [],_=>[]
 | q :: r,i=>(if 1 < q.at_ ∧ (rdP ps 0 q.at_ zC).v=i + 1 ∧ (rdP ps 0 q.at_ zC).n=1 then [rdP ps 0 q.at_ zC] else []) ++ eldC ps r (i + 1)
end Go.AM

namespace Go.AM
end Go.AM

namespace Go.AM
theorem wf_i64 {n:Int} (h:(Lit.int .i64 n).wf=true):-9223372036854775808 ≤ n ∧ n ≤ 9223372036854775807:=by
 simpa [Lit.wf,IntKind.min,IntKind.max,IntKind.signed,IntKind.bits] using h
theorem wf_u64 {n:Int} (h:(Lit.int .u64 n).wf=true):0 ≤ n ∧ n < 18446744073709551616:=by
 have:0 ≤ n ∧ n ≤ 18446744073709551615:=by simpa [Lit.wf,IntKind.min,IntKind.max,IntKind.signed,IntKind.bits] using h
 omega
theorem fits_i {k:IntKind} {d:D} (h:Fits (.i k) [d]):∃ n,d=.i k n ∧ (Lit.int k n).wf=true:=by
 cases h with | i k n h=>exact ⟨n,rfl,h⟩
abbrev tItem:Ty:=.st [.i .u64,.i .i64]
abbrev tRaw:Ty:=.st [.i .i64,.i .i64,.i .u64,.l 2 true tItem,.l 1 false (.i .i64),.i .i64]
theorem fitss_cons1 {f:Ty} {fs:List Ty} {cs:List D} (h:Fitss (f :: fs) cs) (hf:∀ c,Fits f c → ∃ d,c=[d]):∃ d r,cs=d :: r ∧ Fits f [d] ∧ Fitss fs r:=by
 cases h with
 | cons h k=>obtain ⟨d,rfl⟩:=hf _ h; exact ⟨d,_,rfl,h,k⟩
theorem one_i (k:IntKind) (c:List D) (h:Fits (.i k) c):∃ d,c=[d] := by cases h; exact ⟨_,rfl⟩
theorem fitss_nil {cs:List D} (h:Fitss [] cs):cs=[] := by cases h; rfl
theorem fits_item {cs:List D} (h:Fits tItem cs):∃ x:It,D.a cs=eR x ∧ x.ok:=by
 cases h with
 | st h =>
  obtain ⟨d1,r,rfl,h1,h⟩:=fitss_cons1 h (one_i _)
  obtain ⟨d2,r,rfl,h2,h⟩:=fitss_cons1 h (one_i _)
  have:=fitss_nil h; subst this
  obtain ⟨n1,rfl,w1⟩:=fits_i h1
  obtain ⟨n2,rfl,w2⟩:=fits_i h2
  have:=wf_u64 w1
  have:=wf_i64 w2
  refine ⟨⟨n1.toNat,n2⟩,?_,?_,?_⟩
  ·have:((n1.toNat:Nat):Int)=n1:=by omega
   simp [this]
  ·simp; omega
  ·simpa using this
end Go.AM

namespace Go.AM
abbrev tRw:Ty:=.st [.i .i64,tItem,.i .i64,.i .i64]
theorem fits_rw {cs:List D} (h:Fits tRw cs):∃ r:Rw,D.a cs=eRw r ∧ r.ok:=by
 cases h with
 | st h =>
  cases h with
  | cons h1 h =>
   cases h with
   | cons h2 h =>
    cases h with
    | cons h3 h =>
     cases h with
     | cons h4 h =>
      cases h
      obtain ⟨x,ex,hx⟩:=fits_item h2
      cases h1 with
      | i _ n1 w1 =>
       cases h3 with
       | i _ n3 w3 =>
        cases h4 with
        | i _ n4 w4 =>
         cases ex
         exact ⟨⟨n1,x,n3,n4⟩,rfl,hx,wf_i64 w1,wf_i64 w3,wf_i64 w4⟩
end Go.AM

namespace Go.AM
structure Act where
 k:Int
 t:Int
 p:Int
 o:Rw
def eAct (a:Act):D:=.a [.i .i64 a.k,.i .i64 a.t,.i .i64 a.p,.i .i64 a.o.k,.i .u64 a.o.x.p,.i .i64 a.o.x.v,.i .i64 a.o.a,.i .i64 a.o.b]
instance:Flat eAct:=⟨fun _=>rfl,fun _=>rfl,fun _ _=>rfl⟩
abbrev tAct:Ty:=.st [.i .i64,.i .i64,.i .i64,tRw]
theorem fits_act {cs:List D} (h:Fits tAct cs):∃ a:Act,D.a cs=eAct a ∧ a.o.ok:=by
 cases h with
 | st h =>
  cases h with
  | cons h1 h =>
   cases h with
   | cons h2 h =>
    cases h with
    | cons h3 h =>
     cases h with
     | cons h4 h =>
      cases h
      obtain ⟨r,er,hr⟩:=fits_rw h4
      cases h1 with
      | i _ n1 w1 =>
       cases h2 with
       | i _ n2 w2 =>
        cases h3 with
        | i _ n3 w3 =>
         cases er
         exact ⟨⟨n1,n2,n3,r⟩,rfl,hr⟩
theorem fits_acts:∀ xs:List D,(∀ x ∈ xs,Fits tAct x.cells) → (∀ x ∈ xs,∃ cs,x=.a cs) → ∃ ns:List Act,xs=ns.map eAct ∧ ∀ n ∈ ns,n.o.ok
 | [],_,_=>⟨[],rfl,by simp⟩
 | x :: xs,h,hc=>by
  obtain ⟨ns,e,hn⟩:=fits_acts xs (fun y hy=>h y (by simp [hy])) (fun y hy=>hc y (by simp [hy]))
  obtain ⟨cs,rfl⟩:=hc x (by simp)
  obtain ⟨y,e2,hy⟩:=fits_act (h _ (by simp:D.a cs ∈ D.a cs :: xs))
  exact ⟨y :: ns,by rw [e,List.map_cons,← e2]; rfl,by simpa [hy] using hn⟩
theorem fi_begin {k:Int} (hk:1 ≤ k ∧ k ≤ 4) (s:Nat) {r:Rw} (hr:r.ok):FI k s (begF (ownO k r)):=by
 have h1:=ownO_rng k hk r
 have h2:=ownO_ok hk hr
 have h3:=(nb_le k s).1
 have hc:k=1 ∨ k=2 ∨ k=3 ∨ k=4:=by omega
 refine ⟨h2.1.1,?_,by simp [begF]; omega,by simp [begF]; omega,by simp [begF]; omega,by simp [begF]; omega,by simp [begF]; exact h3,by simp [begF]; exact h3,by simp [begF],by simp [begF],fun _=>.inl rfl,fun _=>.inl rfl,fun _=>.inl rfl,fun _=>.inl rfl⟩
 simp only [begF]
 rcases hc with rfl | rfl | rfl | rfl
 ·simp at h1; left; omega
 ·simp at h1; right; left; omega
 ·simp at h1; right; right; left
  refine ⟨rfl,?_⟩
  by_cases h5:(ownO 3 r).k=5
  ·exact .inr ⟨h5,h2.2 h5⟩
  ·left; omega
 ·simp at h1; right; right; right; omega
theorem rep_value {sg r e M fs} (h : Rep sg r e M fs) (hM : M.good) (hl : legal e.k e.p = 0) :
    LL.call n_engine_Engine_Value [.p r 0] sg sg.length=some (eVl .z (ofM e.k e.p M),sg,sg.length):=by
 have V:=c_value_Of e.k e.p M hM sg e.m h.hm
 rw [if_pos hl,hl] at V
 have ht:((e.p:Int)).toNat=e.p:=by omega
 rw [ht] at V
 have hr:=h.hr
 refine wp_call e_engine_Engine_Value rfl ?_
 simp [eEng] at hr
 simp [eVl] at V
 simp [F_engine_Engine_Value,hr,V,eVl]
theorem busyO_mem {α : Type}:∀ (l:List (Option α)) (n k:Nat),k ∈ busyO l n → n ≤ k ∧ ∃ q,l[k - n]? = some (some q)
 | [],n,k,h=>by simp [busyO] at h
 | none :: r,n,k,h=>by
  obtain ⟨h1,q,hq⟩:=busyO_mem r (n + 1) k h
  refine ⟨by omega,q,?_⟩
  rw [show k - n=(k - (n + 1)) + 1 by omega]
  simpa using hq
 | some z :: r,n,k,h=>by
  simp only [busyO,List.mem_cons] at h
  rcases h with rfl | h
  ·exact ⟨by omega,z,by simp⟩
  ·obtain ⟨h1,q,hq⟩:=busyO_mem r (n + 1) k h
   refine ⟨by omega,q,?_⟩
   rw [show k - n=(k - (n + 1)) + 1 by omega]
   simpa using hq
theorem pick_some {fs:List (Option FrR)} (h:busyO fs 0 ≠ []) (pick:Int):∃ k f,pickL (busyO fs 0) pick=some k ∧ fs[k]? = some (some f):=by
 have hl:=List.length_pos_iff.2 h
 have hr:=into_rng pick (busyO fs 0).length (by omega)
 have hi:(into pick (busyO fs 0).length).toNat < (busyO fs 0).length:=by omega
 refine ⟨(busyO fs 0)[(into pick (busyO fs 0).length).toNat],?_⟩
 obtain ⟨_,q,hq⟩:=busyO_mem fs 0 _ (List.getElem_mem hi)
 exact ⟨q,by rw [pickL,if_neg h,List.getElem?_eq_getElem hi],by simpa using hq⟩
end Go.AM

namespace Go.AM
def eBo (r:Nat) (K1 K2:K) (k:Int) (p:Nat) (ps:List Pt) (gs:List FrR) (cl:Bool):List D:=[.p r 0,.i .i64 k,.i .i64 p,.l K1 3 (ps.map ePt),.l K2 17 (gs.map eFr),.b cl]
end Go.AM

namespace Go.AM
def gsOf (k:Int) (fs:List (Option FrR)):List FrR:=fs.map fun o=>match o with | none=>zF | some f=>gOf k f
end Go.AM

namespace Go.AM
structure Duo (k:Int) (p i q:Nat) (sg:List (List D)) (e:Eng) (M:Mem) (fs:List (Option FrR)) (ps:List Pt) (K1 K2:K):Prop where
 R:Rep sg 1 e M fs
 ek:e.k=k
 ep:e.p=p
 st:e.st ≤ i
 mi:MI k i M
 fi:∀ (j:Nat) f,fs[j]? = some (some f) → FI k i f
 ki:∀ (j:Nat) f,fs[j]? = some (some f) → KI k p f
 pi:PI k ps
 mm:M=memOf ps
 hq:sg[q]? = some (eBo 1 K1 K2 k p ps (gsOf k fs) e.cl)
 z1:zo K1
 z2:zo K2
 nq:¬ own 1 e q
theorem Duo.nz {k p i q sg e M fs ps K1 K2} (h:Duo k p i q sg e M fs ps K1 K2):∀ f,some f ∈ fs → f.o.k ≠ 0:=by
 intro f hf
 obtain ⟨j,hj⟩:=List.mem_iff_getElem?.1 hf
 have:=(h.fi j f hj).kd
 omega
end Go.AM

namespace Go.AM
end Go.AM

namespace Go.AM
theorem wp_call_e2 {f : FuncId} {F : F} {ds : List D} {sg : List (List D)} {Q : D × List (List D) × Nat → Prop} (hF : EE.fn f = some F) (hn : ds.length = F.np)
    (h:@WC F.body ⟨ini 0 ds,[],sg,sg.length⟩ ⟨fun r=>∃ x,FnQ F.res sg.length x r ∧ Q x⟩ trivial) (hq:decide (f < Q0)=true:=by exact rfl):∃ x,LL.call f ds sg sg.length=some x ∧ Q x:=by
 obtain ⟨r,h1,x,h2,h3⟩:=h
 exact ⟨x,wp_call hF hn ⟨r,h1,h2⟩ hq,h3⟩
def eOl (l:List Rw):D:=.l .z 5 (l.map eRw)
instance:Flat eOl:=⟨fun _=>rfl,fun g=>by simp [eOl],fun n g=>by simp [eOl]⟩
structure DS where
 sg:List (List D)
 ats:List Nat
 owns:List (Option Nat)
 tds:List D
 cix:List Nat
 cds:List Cll
 ps:List Pt
 st:Nat
 K:K
structure Drv (k:Int) (p i n m bx:Nat) (sg0:List (List D)) (a:DS) (fs:List (Option FrR)):Prop where
 mm:a.sg[m]? = some (eMem (memOf a.ps))
 old:∀ x,x < bx → a.sg[x]? = sg0[x]?
 bm:bx ≤ m
 l1:a.ats.length=n
 l2:a.owns.length=n
 l3:a.tds.length=n
 l4:a.cix.length=n
 l5:fs.length=n
 fr:∀ (j q:Nat),a.owns[j]? = some (some q) → m < q ∧ ∃ f K c,fs[j]? = some (some f) ∧ kOK K f ∧ a.sg[q]? = some (eFrPK K f) ∧ a.tds[j]? = some (eFr (gOf k f)) ∧ a.cix[j]? = some c ∧ c < a.cds.length
 nn:∀ j:Nat,a.owns[j]? = some none → fs[j]? = some none
 qq:∀ (i j q:Nat),a.owns[i]? = some (some q) → a.owns[j]? = some (some q) → i=j
 mi:MI k i (memOf a.ps)
 fi:∀ (j:Nat) f,fs[j]? = some (some f) → FI k i f
 ki:∀ (j:Nat) f,fs[j]? = some (some f) → KI k p f
 pi:PI k a.ps
 cl:a.cds.length ≤ i
 st:a.st ≤ i
 at8:∀ (j x:Nat),a.ats[j]? = some x → x ≤ 8
 zK:zo a.K
 td:∀ (j:Nat) d,a.tds[j]? = some d → ∃ l,d=.a l ∧ l.length=17
theorem Drv.mono {k p i n m bx sg0 a fs} (h:Drv k p i n m bx sg0 a fs):Drv k p (i + 1) n m bx sg0 a fs :=
 {h with mi:=h.mi.mono,fi:=fun j f hf=>(h.fi j f hf).mono,cl:=by have:=h.cl; omega,st:=by have:=h.st; omega }
end Go.AM

namespace Go.AM
def eRec (er:Nat) (cs:List Cll) (at_:List Nat):List D:=.p er 0 :: .l .x 12 (cs.map eCll) :: at_.map eN
theorem c_history_Of (er:Nat) (sg:List (List D)):LL.call n_history_Of [.p er 0] sg sg.length=some (.p sg.length 0,sg ++ [eRec er [] [0,0,0,0,0,0]],sg.length):=by
 refine wp_call e_history_Of rfl ?_
 simp [F_history_Of,eRec,eN]
section
variable (er rc:Nat) (e:Eng) (M:Mem) (fs:List (Option FrR)) (cs:List Cll) (at_:List Nat) (sg:List (List D)) (hR:Rep sg er e M fs) (hrc:sg[rc]? = some (eRec er cs at_)) (nr:¬ own er e rc) (h6:at_.length=6) (hcs:cs.length ≤ 1000)
include hR hrc nr h6 hcs
theorem c_history_Begin_no (t : Int) (o : Rw) (hb : begO e.k e.cl fs t o ≠ 0) :
    LL.call n_history_Recorder_Begin [.p rc 0,.i .i64 t,eOp o] sg sg.length=some (.i .i64 (begO e.k e.cl fs t o),sg,sg.length):=by
 have B:=rep_begin_no hR t o hb
 generalize begO e.k e.cl fs t o=f at *
 have hb':(f == 0)=false:=by simp [hb]
 refine wp_call e_history_Recorder_Begin rfl ?_
 simp [eRec] at hrc
 simp [eOp] at B
 simp [F_history_Recorder_Begin,eOp,hrc,B,hb']
def recC (cs:List Cll) (at_:List Nat) (n:Nat) (d:Bool) (st:Nat) (a:An):List Cll × List Nat :=
 match at_[n]? with
 | none=>(cs,at_)
 | some k=>if d=true ∧ 0 < k then (match cs[k - 1]? with
  | none=>(cs,at_)
  | some c=>(cs.set (k - 1) { c with e:=st,a:=a },at_.set n 0)) else (cs,at_)
theorem c_history_Pick_none (pick : Int) (hb : busyO fs 0 = []) :
    LL.call n_history_Recorder_Pick [.p rc 0,.i .i64 pick] sg sg.length=some (.t [eEv 0 ⟨0,⟨0,0⟩,0,0⟩ ⟨false,⟨0,0⟩,0⟩ false,.b false],sg,sg.length):=by
 have B:=rep_pick_none hR pick hb
 obtain ⟨a0,a1,a2,a3,a4,a5,rfl⟩:=six h6
 refine wp_call e_history_Recorder_Pick rfl ?_
 simp [eRec,eN] at hrc
 simp [eEv] at B
 simp [F_history_Recorder_Pick,hrc,B,eEv]
end
end Go.AM

namespace Go.AM
structure Sn where
 at_:Int
 c:Cl
def eSn (x:Sn):D:=.a [.i .i64 x.at_,.i .u64 x.c.v,.i .i64 x.c.n,.l .z 2 (x.c.l.map eI)]
instance:Flat eSn:=⟨fun x=>by simp [eSn],fun x=>by simp [eSn],fun n x=>by simp [eSn]⟩
structure Scn where
 tries:Int
 left:Int
 l:List Sn
 at_:Int
 quiet:Bool
 closed:Bool
def eScn (s:Scn):List D:=[.i .i64 s.tries,.i .i64 s.left,.l .o 4 (s.l.map eSn),.i .i64 s.at_,.b s.quiet,.b s.closed]
structure Sht where
 k:Int
 p:Int
 l:List Sn
 tries:Int
 quiet:Bool
def eSht (s:Sht):List D:=[.i .i64 s.k,.i .i64 s.p,.l .z 4 (s.l.map eSn),.i .i64 s.tries,.b s.quiet]
def eRun (rc:Nat) (sp hp:Option Nat) (t:Int):List D:=[.p rc 0,eFp sp,eFp hp,.i .i64 t]
def nAt (l:List Sn) (j:Nat):Int:=match l[j]? with
 | some x=>x.c.n
 | none=>0
def cellsS (k:Int) (p:Nat) (l:List Sn) (i:Nat):Int × Bool :=
 if k=2 then (if i < 2 then ((i:Int),true) else (2 + nAt l 0 * (p:Int) + (i:Int) - 2,decide (2 + nAt l 0 * (p:Int) + (i:Int) - 2 < 2 + (nAt l 1 + 1) * (p:Int)) && decide (2 + nAt l 0 * (p:Int) + (i:Int) - 2 < 1000)))
 else if k=4 then ((i:Int),decide (i < (gatesN p).length + p)) else ((i:Int),decide (i < p))
section
variable (er rc ru q:Nat) (hp:Option Nat) (t:Int) (e:Eng) (cs:List Cll) (at_:List Nat) (s:Scn) (sg:List (List D)) (h6:e.th.length=6) (her:sg[er]? = some (eEng e)) (hrc:sg[rc]? = some (eRec er cs at_)) (hru:sg[ru]? = some (eRun rc (some q) hp t)) (hq:sg[q]? = some (eScn s))
include her hrc hru hq
def failS (s:Scn) (cl:Bool):Scn:=if s.left=1 then { s with l:=[],at_:=-1,left:=s.left - 1,quiet:=true,closed:=cl } else { s with l:=[],at_:=-1,left:=s.left - 1 }
set_option maxHeartbeats 2000000 in
include h6 in
set_option maxHeartbeats 2000000 in
include h6 in
end
end Go.AM

namespace Go.AM
def startS (sp hp:Option Nat) (n:Int):Int:=if n < 1 ∨ 8 < n then 4 else if sp.isSome || hp.isSome then 11 else 0
def stepS (k:Int) (p:Nat) (M:Mem) (s:Scn) (busy:Int):Scn × Nat :=
 if s.quiet=true ∧ 0 < busy then (s,0)
 else if s.at_ < 0 then
  (if (cellsS k p (s.l ++ [⟨(cellsS k p s.l s.l.length).1,rdM M (cellsS k p s.l s.l.length).1⟩]) (s.l.length + 1)).2 then ({ s with l:=s.l ++ [⟨(cellsS k p s.l s.l.length).1,rdM M (cellsS k p s.l s.l.length).1⟩] },0)
  else ({ s with l:=s.l ++ [⟨(cellsS k p s.l s.l.length).1,rdM M (cellsS k p s.l s.l.length).1⟩],at_:=0 },if s.quiet then 1 else 0))
 else match s.l[s.at_.toNat]? with
  | none=>(s,0)
  | some x=>if (rdM M x.at_).v=x.c.v then ({ s with at_:=s.at_ + 1 },if s.at_ + 1=s.l.length then 1 else 0) else (s,2)
def two2 (k:Int) (l:List Sn):Prop:=k=2 → 2 ≤ l.length → ∃ a b r,l=a :: b :: r ∧ 0 ≤ a.c.n ∧ a.c.n ≤ 1000000 ∧ 0 ≤ b.c.n ∧ b.c.n ≤ 1000000
section
variable (er rc ru q:Nat) (hp:Option Nat) (t:Int) (e:Eng) (M:Mem) (cs:List Cll) (at_:List Nat) (s:Scn) (sg:List (List D)) (h6:e.th.length=6) (her:sg[er]? = some (eEng e)) (hrc:sg[rc]? = some (eRec er cs at_)) (hru:sg[ru]? = some (eRun rc (some q) hp t)) (hq:sg[q]? = some (eScn s))
 (hm:sg[e.m]? = some (eMem M)) (hM:M.good) (hd1:q ≠ er) (hd2:q ≠ rc) (hd3:q ≠ ru) (hd4:er ≠ ru) (hd5:er ≠ rc) (hd6:rc ≠ ru) (hd7:q ≠ e.m) (hl:legal e.k e.p=0)
include h6 her hrc hru hq hm hM hd1 hd2 hd3 hd4 hd5 hd6 hd7 hl
end
end Go.AM

namespace Go.AM
theorem callrv_set (OO:Or) (f:FuncId) (ds:List D) (r:Nat) (sg:List (List D)) (l:List D):callrv OO f ds r (sg.set r l)=callrv OO f ds r sg:=by
 unfold callrv; rw [List.set_set]
section
variable (er rc:Nat) (e:Eng) (M:Mem) (fs:List (Option FrR)) (cs:List Cll) (at_:List Nat) (sg:List (List D)) (hR:Rep sg er e M fs) (hrc:sg[rc]? = some (eRec er cs at_)) (nr:¬ own er e rc) (h6:at_.length=6) (hcs:cs.length ≤ 1000)
include hR hrc nr h6 hcs
set_option maxHeartbeats 2000000 in
theorem c_history_Begin (t : Int) (o : Rw) (hb : begO e.k e.cl fs t o = 0) :
    ∃ sg' e',LL.call n_history_Recorder_Begin [.p rc 0,.i .i64 t,eOp o] sg sg.length=some (.i .i64 0,sg',er) ∧ sg'.length=sg.length + 1 ∧ 0 ≤ t ∧ t < 6 ∧
     Rep sg' er e' M (fs.set t.toNat (some (begF o))) ∧ sg'[rc]? = some (eRec er (cs ++ [⟨t.toNat,o,e.st,-1,noA⟩]) (at_.set t.toNat (cs.length + 1))) ∧ e'.k=e.k ∧ e'.p=e.p ∧ e'.m=e.m ∧ e'.cl=e.cl ∧ e'.st=e.st ∧
     (∀ x,x < sg.length → x ≠ er → x ≠ rc → sg'[x]? = sg[x]?) ∧ (∀ (i q:Nat),e'.th[i]? = some (some q) → e.th[i]? = some (some q) ∨ q=sg.length):=by
 obtain ⟨sg1,e',A1,A2,A3,A4,A5,A6,A7,A8,A9,A10⟩:=rep_begin hR t o hb
 have hrl:=get_lt hrc
 have hre:rc ≠ er:=fun e=>nr (.inl e)
 have hel:er < sg.length:=hR.lt (.inl rfl)
 have h1:sg1[rc]? = some (eRec er cs at_):=by rw [A9 rc hrl hre]; exact hrc
 have St:callrv LL n_engine_Engine_Steps [.p er 0] rc sg1=some (.i .i64 e.st):=by
  have:=c_engine_Steps e' (sg1.set rc []) er (by rw [List.getElem?_set_ne hre]; exact A3.hr) A3.h6
  rw [A8] at this
  exact callrv_of this
 have ht:0 ≤ t ∧ t < 6:=by
  unfold begO at hb
  split at hb
  ·cases hb
  ·omega
 obtain ⟨n,hn⟩:∃ n:Nat,t=n:=⟨t.toNat,by omega⟩
 subst hn
 have w1:IntKind.i64.wrap ((cs.length:Int) + 1)=((cs.length + 1:Nat):Int):=wrap64 (by omega)
 have hap:(cs.length + 1) * 96 ≤ 140737488355328:=by omega
 have hn6:n < at_.length:=by omega
 have hn6':(n:Int) < 6:=ht.2
 obtain ⟨sg',hsg'⟩:∃ s,s=sg1.set rc (eRec er (cs ++ [⟨n,o,e.st,-1,noA⟩]) (at_.set n (cs.length + 1))):=⟨_,rfl⟩
 have nr':¬ own er e' rc:=by
  rintro (h | h | ⟨j,h⟩)
  ·exact nr (.inl h)
  ·rw [A6] at h; exact nr (.inr (.inl h))
  ·rcases A10 j rc h with h | h
   ·exact nr (.inr (.inr ⟨j,h⟩))
   ·omega
 refine ⟨sg',e',?_,by rw [hsg']; simp [A2],ht.1,ht.2,?_,by rw [hsg']; simp; exact List.getElem?_set_self (by omega),A4,A5,A6,A7,A8,fun x hx1 hx2 hx3=>?_,A10⟩
 ·obtain ⟨a0,a1,a2,a3,a4,a5,rfl⟩:=six h6
  have hmin:min sg.length er=er:=by omega
  have hnl:¬ sg.length ≤ er:=by omega
  have hc:n=0 ∨ n=1 ∨ n=2 ∨ n=3 ∨ n=4 ∨ n=5:=by omega
  have hg:∀ l:List D,(sg1.set rc l)[rc]? = some l:=fun l=>List.getElem?_set_self (by omega)
  simp [eRec] at hrc h1 hsg'
  rcases hc with rfl | rfl | rfl | rfl | rfl | rfl
  all_goals
   refine wp_call e_history_Recorder_Begin rfl ?_
   simp [eOp] at A1
   simp [eCll,noA,eN] at hsg'
   simp [eN] at h1
   simp [F_history_Recorder_Begin,eOp,hrc,A1,h1,St,callrv_set,w1,hap,A2,hmin,hnl,eN,hg,hsg',eCll,noA]
   done
 ·rw [hsg']
  exact A3.keep (fun y hy=>List.getElem?_set_ne (fun e=>nr' (by rw [e]; exact hy)))
 ·rw [hsg',List.getElem?_set_ne (Ne.symm hx3)]; exact A9 x hx1 hx2
set_option maxHeartbeats 4000000 in
set_option maxRecDepth 8000 in
theorem c_history_Pick (s : Nat) (hs : s ≤ 5000) (hl : legal e.k e.p = 0) (hst : e.st < 1000000000) (hM : MI e.k s M) (hF : ∀ (i : Nat) f, fs[i]? = some (some f) → FI e.k s f) (hat : ∀ x ∈ at_, x ≤ cs.length)
    (pick:Int) (k:Nat) (hk:pickL (busyO fs 0) pick=some k) (f:FrR) (hf:fs[k]? = some (some f)) :
    ∃ sg' e',LL.call n_history_Recorder_Pick [.p rc 0,.i .i64 pick] sg sg.length=some (.t [eEv k f.o (stepP e.k e.p M f).a (stepP e.k e.p M f).d,.b true],sg',sg.length) ∧ sg'.length=sg.length ∧
     Rep sg' er e' (stepP e.k e.p M f).m (fs.set k (if (stepP e.k e.p M f).d then none else some (stepP e.k e.p M f).f)) ∧
     sg'[rc]? = some (eRec er (recC cs at_ k (stepP e.k e.p M f).d e.st (stepP e.k e.p M f).a).1 (recC cs at_ k (stepP e.k e.p M f).d e.st (stepP e.k e.p M f).a).2) ∧ e'.k=e.k ∧ e'.p=e.p ∧ e'.m=e.m ∧ e'.cl=e.cl ∧ e'.st=e.st + 1 ∧
     (∀ x,¬ own er e x → x ≠ rc → sg'[x]? = sg[x]?) ∧ (∀ (i q:Nat),e'.th[i]? = some (some q) → e.th[i]? = some (some q)):=by
 obtain ⟨sg1,e',A1,A2,A3,A4,A5,A6,A7,A8,A9,A10⟩:=rep_pick hR s hs hl hst hM hF pick k hk f hf
 generalize stepP e.k e.p M f=so at *
 have h1:sg1[rc]? = some (eRec er cs at_):=by rw [A9 rc nr]; exact hrc
 have hre:rc ≠ er:=fun e=>nr (.inl e)
 have St:callrv LL n_engine_Engine_Steps [.p er 0] rc sg1=some (.i .i64 ((e.st + 1:Nat):Int)):=by
  have:=c_engine_Steps e' (sg1.set rc []) er (by rw [List.getElem?_set_ne hre]; exact A3.hr) A3.h6
  rw [A8] at this
  exact callrv_of this
 have hk6:k < 6:=by have:=(List.getElem?_eq_some_iff.1 hf).1; have:=hR.f6; omega
 obtain ⟨ak,hak⟩:∃ ak,at_[k]? = some ak:=⟨at_[k],List.getElem?_eq_getElem (by omega)⟩
 have hak2:=hat ak (List.mem_of_getElem? hak)
 have nr':¬ own er e' rc:=by
  rintro (h | h | ⟨j,h⟩)
  ·exact nr (.inl h)
  ·rw [A6] at h; exact nr (.inr (.inl h))
  ·exact nr (.inr (.inr ⟨j,A10 j rc h⟩))
 have hrl1:=get_lt h1
 have hrl:=get_lt hrc
 by_cases hw:so.d=true ∧ 0 < ak
 ·obtain ⟨c,hc⟩:∃ c,cs[ak - 1]? = some c:=⟨cs[ak - 1],List.getElem?_eq_getElem (by omega)⟩
  have er1:recC cs at_ k so.d e.st so.a=(cs.set (ak - 1) { c with e:=e.st,a:=so.a },at_.set k 0):=by
   unfold recC; rw [hak]; simp only; rw [if_pos hw,hc]
  rw [er1]
  have hcl:ak - 1 < cs.length:=by omega
  have hcg:cs[ak - 1] = c:=by rw [List.getElem?_eq_getElem hcl] at hc; exact Option.some.inj hc
  obtain ⟨sg',hsg'⟩:∃ s,s=sg1.set rc (eRec er (cs.set (ak - 1) { c with e:=e.st,a:=so.a }) (at_.set k 0)):=⟨_,rfl⟩
  refine ⟨sg',e',?_,by rw [hsg']; simp [A2],?_,by rw [hsg']; exact List.getElem?_set_self (by omega),A4,A5,A6,A7,A8,fun x hx1 hx2=>?_,A10⟩
  ·have w1:IntKind.i64.wrap ((ak:Int) - 1)=((ak - 1:Nat):Int):=by rw [wrap64 (by omega)]; omega
   have w2:IntKind.i64.wrap (((e.st + 1:Nat):Int) - 1)=e.st:=by rw [wrap64 (by omega)]; omega
   have w2':IntKind.i64.wrap (((e.st:Int) + 1) - 1)=e.st:=by rw [wrap64 (by omega)]; omega
   have w3:IntKind.i64.wrap (e.st:Int)=e.st:=wrap64 (by omega)
   have hd:=hw.1
   have hpos:(0:Int) < ak:=by omega
   have hpos0:=hw.2
   have hg1:∀ l:List D,(sg1.set rc l)[rc]? = some l:=fun l=>List.getElem?_set_self hrl1
   obtain ⟨a0,a1,a2,a3,a4,a5,rfl⟩:=six h6
   have hc6:k=0 ∨ k=1 ∨ k=2 ∨ k=3 ∨ k=4 ∨ k=5:=by omega
   rw [hd] at A1 ⊢
   simp [eRec,eCll,eN] at hrc h1 hsg'
   rcases hc6 with rfl | rfl | rfl | rfl | rfl | rfl
   all_goals
    simp at hak
    subst hak
    refine wp_call e_history_Recorder_Pick rfl ?_
    simp [eEv] at A1
    simp [eN] at hsg'
    simp [F_history_Recorder_Pick,hrc,A1,h1,hg1,St,callrv_set,w1,w2,w2',w3,A2,eN,hpos,hpos0,hcl,hcg,hc,eCll,hsg',eEv]
    exact List.take_of_length_le (by simp [A2])
  ·rw [hsg']
   exact A3.keep (fun y hy=>List.getElem?_set_ne (fun e=>nr' (by rw [e]; exact hy)))
  ·rw [hsg',List.getElem?_set_ne (Ne.symm hx2)]; exact A9 x hx1
 ·have er1:recC cs at_ k so.d e.st so.a=(cs,at_):=by
   unfold recC; rw [hak]; simp only; rw [if_neg hw]
  rw [er1]
  refine ⟨sg1,e',?_,A2,A3,h1,A4,A5,A6,A7,A8,fun x hx1 hx2=>A9 x hx1,A10⟩
  obtain ⟨a0,a1,a2,a3,a4,a5,rfl⟩:=six h6
  have hc6:k=0 ∨ k=1 ∨ k=2 ∨ k=3 ∨ k=4 ∨ k=5:=by omega
  have hw':so.d=false ∨ (so.d=true ∧ ¬ (0:Int) < ak):=by
   cases hd:so.d with
   | false=>exact .inl rfl
   | true=>exact .inr ⟨rfl,fun h=>hw ⟨hd,by omega⟩⟩
  have htk:List.take sg.length sg1=sg1:=List.take_of_length_le (by omega)
  simp [eRec,eN] at hrc h1
  rcases hc6 with rfl | rfl | rfl | rfl | rfl | rfl
  all_goals
   simp at hak
   subst hak
   refine wp_call e_history_Recorder_Pick rfl ?_
   simp [eEv] at A1
   rcases hw' with hd | ⟨hd,hpos⟩
   ·simp [hd] at A1
    simp [F_history_Recorder_Pick,hrc,A1,h1,A2,eN,eEv,hd,htk]
    done
   ·simp [hd] at A1
    have hpos':¬ 0 < _:=fun h=>hpos (Int.ofNat_lt.2 h)
    simp [F_history_Recorder_Pick,hrc,A1,h1,A2,eN,hpos,hpos',eEv,hd,htk]
    done
end
section
variable (er rc ru q:Nat) (hp:Option Nat) (t:Int) (e:Eng) (M:Mem) (cs:List Cll) (at_:List Nat) (s:Scn) (sg:List (List D)) (h6:e.th.length=6) (her:sg[er]? = some (eEng e)) (hrc:sg[rc]? = some (eRec er cs at_)) (hru:sg[ru]? = some (eRun rc (some q) hp t)) (hq:sg[q]? = some (eScn s))
 (hm:sg[e.m]? = some (eMem M)) (hM:M.good) (hd1:q ≠ er) (hd2:q ≠ rc) (hd3:q ≠ ru) (hd4:er ≠ ru) (hd5:er ≠ rc) (hd6:rc ≠ ru) (hd7:q ≠ e.m) (hl:legal e.k e.p=0)
include h6 her hrc hru hq hm hM hd1 hd2 hd3 hd4 hd5 hd6 hd7 hl
end
end Go.AM

namespace Go.AM
structure RnS where
 k:Int
 p:Nat
 M:Mem
 fs:List (Option FrR)
 cl:Bool
 st:Nat
 cs:List Cll
 ats:List Nat
 sc:Option Scn
 sh:Option Sht
 tk:Nat
structure ScI (k:Int) (p:Nat) (s:Scn):Prop where
 tr:1 ≤ s.tries ∧ s.tries ≤ 8
 lf:0 ≤ s.left ∧ s.left ≤ 8
 lq:s.quiet=false → 1 ≤ s.left
 ln:s.l.length ≤ 1000
 nn:∀ y ∈ s.l,k=2 → 0 ≤ y.c.n ∧ y.c.n ≤ 1000000
 neg:s.at_ < 0 → s.at_=-1 ∧ (s.l=[] ∨ (cellsS k p s.l s.l.length).2=true)
 pos:0 ≤ s.at_ → s.at_ < s.l.length ∧ s.quiet=false
structure RI (i:Nat) (x:RnS):Prop where
 leg:legal x.k x.p=0
 st:x.st ≤ i
 mi:MI x.k i x.M
 fi:∀ (j:Nat) f,x.fs[j]? = some (some f) → FI x.k i f
 cs:x.cs.length ≤ i
 a6:x.ats.length=6
 al:∀ a ∈ x.ats,a ≤ x.cs.length
 tk:x.tk ≤ i + 1
 sc:∀ s,x.sc=some s → ScI x.k x.p s
 one:x.sc=none ∨ x.sh=none
theorem ScI.two {k p s} (h:ScI k p s):two2 k s.l:=by
 intro hk hl
 match hs:s.l,hl with
 | a :: b :: r,_ =>
  have h1:=h.nn a (by rw [hs]; simp) hk
  have h2:=h.nn b (by rw [hs]; simp) hk
  exact ⟨a,b,r,rfl,h1.1,h1.2,h2.1,h2.2⟩
theorem cells_lt {k:Int} {p:Nat} (hp:p ≤ 16) {l:List Sn} (h0:k=2 → 0 ≤ nAt l 0) {i:Nat} (h:(cellsS k p l i).2=true) (hg:k=4 → (gatesN p).length ≤ 900):i < 1000:=by
 unfold cellsS at h
 split at h
 ·rename_i hk
  split at h
  ·omega
  ·simp only [Bool.and_eq_true,decide_eq_true_eq] at h
   have h1:=h0 hk
   have:0 ≤ nAt l 0 * (p:Int):=Int.mul_nonneg h1 (by omega)
   omega
 ·split at h
  ·rename_i h4; have:=hg h4; simp at h; omega
  ·simp at h; omega
theorem gates900 (p:Nat) (hw:widthN p):(gatesN p).length ≤ 900:=by
 rcases hw with rfl | rfl | rfl | rfl | rfl <;> decide
def begN (x:RnS) (t:Int) (o:Rw):RnS × Int :=
 if begO x.k x.cl x.fs t o=0 then ({ x with fs:=x.fs.set t.toNat (some (begF o)),cs:=x.cs ++ [⟨t.toNat,o,x.st,-1,noA⟩],ats:=x.ats.set t.toNat (x.cs.length + 1) },0)
 else (x,begO x.k x.cl x.fs t o)
def pickE (x:RnS) (n:Nat) (f:FrR):RnS :=
 {x with M := (stepP x.k x.p x.M f).m, fs := x.fs.set n (if (stepP x.k x.p x.M f).d then none else some (stepP x.k x.p x.M f).f), st := x.st + 1,
         cs:=(recC x.cs x.ats n (stepP x.k x.p x.M f).d x.st (stepP x.k x.p x.M f).a).1,ats:=(recC x.cs x.ats n (stepP x.k x.p x.M f).d x.st (stepP x.k x.p x.M f).a).2 }
def shotS (x:RnS) (s s':Scn):Sht:=⟨x.k,x.p,s'.l,if s.quiet then s.tries else s.tries - s.left + 1,s.quiet⟩
def stepN (x:RnS) (s:Scn) (busy:Nat):RnS :=
 if (stepS x.k x.p x.M s busy).2=0 then { x with sc:=some (stepS x.k x.p x.M s busy).1 }
 else if (stepS x.k x.p x.M s busy).2=1 then { x with sc:=none,sh:=some (shotS x s (stepS x.k x.p x.M s busy).1),cl:=if s.quiet && !s.closed then false else x.cl }
 else { x with sc:=some (failS s x.cl),cl:=if s.left=1 then true else x.cl }
def whoN (x:RnS) (pick:Int):Option (Nat × FrR) :=
 match pickL (busyO x.fs 0) (match x.sc with | none=>pick | some _=>into pick ((busyO x.fs 0).length + 1)) with
 | none=>none
 | some n=>match x.fs[n]? with
  | some (some f)=>if x.sc.isSome=true ∧ ¬ into pick ((busyO x.fs 0).length + 1) < (busyO x.fs 0).length then none else some (n,f)
  | _=>none
def pickN (x:RnS) (pick:Int):RnS:=match whoN x pick with
 | some (n,f)=>{ pickE x n f with tk:=x.tk + 1 }
 | none=>match x.sc with
  | none=>x
  | some s=>{ stepN x s (busyO x.fs 0).length with tk:=x.tk + 1 }
def gatN (x:RnS) (b:Bool):RnS:=match x.sc with
 | none=>{ x with cl:=b }
 | some s=>if s.quiet then { x with sc:=some { s with closed:=b } } else { x with cl:=b }
def startN (x:RnS) (n:Int):RnS × Int :=
 if n < 1 ∨ 8 < n then (x,4) else if x.sc.isSome || x.sh.isSome then (x,11) else ({ x with sc:=some ⟨n,n,[],-1,false,false⟩ },0)
def quietN (x:RnS):Bool:=match x.sc with
 | none=>false
 | some s=>s.quiet
theorem RI.mono {i x} (h:RI i x):RI (i + 1) x :=
 {h with st:=by have:=h.st; omega,mi:=h.mi.mono,fi:=fun j f hf=>(h.fi j f hf).mono,cs:=by have:=h.cs; omega,tk:=by have:=h.tk; omega }
theorem setN {P:FrR → Prop} {fs:List (Option FrR)} {n:Nat} {o:Option FrR} (h:∀ (j:Nat) f,fs[j]? = some (some f) → P f) (ho:∀ f,o=some f → P f):∀ (j:Nat) f,(fs.set n o)[j]? = some (some f) → P f:=by
 intro j f hf
 rw [List.getElem?_set] at hf
 split at hf
 ·split at hf
  ·injection hf with hf; exact ho f hf
  ·cases hf
 ·exact h j f hf
theorem recC_len (cs:List Cll) (ats:List Nat) (n:Nat) (d:Bool) (st:Nat) (a:An):(recC cs ats n d st a).1.length=cs.length ∧ (recC cs ats n d st a).2.length=ats.length:=by
 unfold recC
 split
 ·exact ⟨rfl,rfl⟩
 ·split
  ·split
   ·exact ⟨rfl,rfl⟩
   ·simp
  ·exact ⟨rfl,rfl⟩
theorem recC_at {cs:List Cll} {ats:List Nat} {m:Nat} (h:∀ a ∈ ats,a ≤ m) (n:Nat) (d:Bool) (st:Nat) (a:An):∀ y ∈ (recC cs ats n d st a).2,y ≤ m:=by
 unfold recC
 split
 ·exact h
 ·split
  ·split
   ·exact h
   ·intro y hy
    rcases List.mem_or_eq_of_mem_set hy with hy | rfl
    ·exact h y hy
    ·omega
  ·exact h
theorem RI.beg {i x} (h:RI i x) (t:Int) (o:Rw) (ho:FI x.k (i + 1) (begF o)):RI (i + 1) (begN x t o).1:=by
 unfold begN
 split
 ·exact { h.mono with
   fi:=setN (P:=fun f=>FI x.k (i + 1) f) (fun j f hf=>(h.fi j f hf).mono) (fun f hf=>by injection hf with hf; subst hf; exact ho)
   cs:=by have:=h.cs; simp; omega
   a6:=by simp [h.a6]
   al:=fun a ha=>by
    rcases List.mem_or_eq_of_mem_set ha with ha | rfl
    ·have:=h.al a ha; simp; omega
    ·simp }
 ·exact h.mono
theorem RI.pickE {i x n f} (h:RI i x) (hi:i ≤ 5000) (hf:x.fs[n]? = some (some f)):RI (i + 1) { pickE x n f with tk:=x.tk + 1 }:=by
 have S:=si_step h.leg h.mi (h.fi n f hf) hi
 refine { h.mono with st:=?_,mi:=S.m,fi:=?_,cs:=?_,a6:=?_,al:=?_,tk:=?_ }
 ·have:=h.st; simp only [AM.pickE]; omega
 ·refine setN (P:=fun f=>FI x.k (i + 1) f) (fun j f hf=>(h.fi j f hf).mono) (fun g hg=>?_)
  split at hg
  ·cases hg
  ·rename_i hd; injection hg with hg; subst hg; exact S.f (by simpa using hd)
 ·have:=h.cs; simp only [AM.pickE,(recC_len _ _ _ _ _ _).1]; omega
 ·simp only [AM.pickE,(recC_len _ _ _ _ _ _).2]; exact h.a6
 ·simp only [AM.pickE,(recC_len _ _ _ _ _ _).1]
  exact recC_at h.al _ _ _ _
 ·have:=h.tk; simp only; omega
theorem nAt_nn {k:Int} {l:List Sn} (h:∀ y ∈ l,k=2 → 0 ≤ y.c.n ∧ y.c.n ≤ 1000000) (hk:k=2) (j:Nat):0 ≤ nAt l j:=by
 unfold nAt
 split
 ·rename_i x hx; exact (h x (List.mem_of_getElem? hx) hk).1
 ·omega
theorem ScI.len {k:Int} {p:Nat} {s} (hl:legal k p=0) (h:ScI k p s) (ha:s.at_ < 0):s.l.length < 1000:=by
 have hp:=legal_p hl
 rcases (h.neg ha).2 with h0 | h0
 ·rw [h0]; simp
 ·exact cells_lt (by omega) (fun hk=>nAt_nn h.nn hk 0) h0 (fun h4=>gates900 p (by subst h4; exact legal_width hl))
theorem rdM_ok2 {k:Int} {i:Nat} {M:Mem} (h:MI k i M) (hi:i ≤ 100000) (hk:k=2) (a:Int):0 ≤ (rdM M a).n ∧ (rdM M a).n ≤ 1000000:=by
 have:=h.num a
 subst hk
 simp [nb] at this
 omega
theorem ScI.step {k:Int} {p i:Nat} {M:Mem} {s:Scn} (hl:legal k p=0) (hM:MI k i M) (hi:i ≤ 100000) (h:ScI k p s) (busy:Int) (h0:(stepS k p M s busy).2=0):ScI k p (stepS k p M s busy).1:=by
 unfold stepS at h0 ⊢
 by_cases hw:s.quiet=true ∧ 0 < busy
 ·rw [if_pos hw]; exact h
 ·rw [if_neg hw] at h0 ⊢
  by_cases ha:s.at_ < 0
  ·rw [if_pos ha] at h0 ⊢
   have hln:=h.len hl ha
   have hnn:∀ y ∈ s.l ++ [⟨(cellsS k p s.l s.l.length).1,rdM M (cellsS k p s.l s.l.length).1⟩],k=2 → 0 ≤ y.c.n ∧ y.c.n ≤ 1000000:=by
    intro y hy hk
    rcases List.mem_append.1 hy with hy | hy
    ·exact h.nn y hy hk
    ·simp at hy; subst hy; exact rdM_ok2 hM hi hk _
   split at h0
   ·rename_i hc
    rw [if_pos hc]
    exact { h with ln:=by simp; omega,nn:=hnn,neg:=fun _=>⟨(h.neg ha).1,.inr (by simpa using hc)⟩,pos:=fun hp=>by simp only at hp; omega }
   ·rename_i hc
    rw [if_neg hc]
    have hq:s.quiet=false:=by
     cases e:s.quiet with
     | false=>rfl
     | true=>rw [e] at h0; simp at h0
    exact { h with ln:=by simp; omega,nn:=hnn,neg:=fun hp=>by simp at hp,pos:=fun _=>⟨by simp,hq⟩ }
  ·rw [if_neg ha] at h0 ⊢
   cases hx:s.l[s.at_.toNat]? with
   | none=>simp only [hx]; exact h
   | some x =>
    rw [hx] at h0
    simp only at h0 ⊢
    have hpos:=h.pos (by omega)
    split at h0
    ·rename_i hv
     rw [if_pos hv]
     split at h0
     ·cases h0
     ·rename_i hne
      exact { h with neg:=fun hp=>by simp only at hp; omega,pos:=fun _=>⟨by simp only; omega,hpos.2⟩ }
    ·cases h0
theorem RI.gate {i x} (h:RI i x) (b:Bool):RI (i + 1) (gatN x b):=by
 unfold gatN
 split
 ·exact { h.mono with sc:=h.sc }
 ·rename_i s hs
  split
  ·refine { h.mono with sc:=fun s' e=>?_,one:=.inr (by rcases h.one with e | e; rw [hs] at e; cases e; exact e) }
   injection e with e; subst e
   have S:=h.sc s hs
   exact ⟨S.tr,S.lf,S.lq,S.ln,S.nn,S.neg,S.pos⟩
  ·exact { h.mono with sc:=h.sc }
theorem RI.take {i x} (h:RI i x):RI (i + 1) { x with sh:=none }:={ h.mono with sc:=h.sc,one:=.inr rfl }
end Go.AM

namespace Go.AM
def ownN (er rc ru:Nat) (e:Eng) (sp:Option Nat) (y:Nat):Prop:=own er e y ∨ y=rc ∨ y=ru ∨ sp=some y
structure RR (er rc ru:Nat) (sg:List (List D)) (x:RnS) (e:Eng) (sp hp:Option Nat):Prop where
 R:Rep sg er e x.M x.fs
 ek:e.k=x.k
 ep:e.p=x.p
 ecl:e.cl=x.cl
 est:e.st=x.st
 hrc:sg[rc]? = some (eRec er x.cs x.ats)
 hru:sg[ru]? = some (eRun rc sp hp x.tk)
 dc:¬ own er e rc
 du:¬ own er e ru
 dcu:rc ≠ ru
 sp0:sp=none → x.sc=none
 sp1:∀ q,sp=some q → ∃ s,x.sc=some s ∧ sg[q]? = some (eScn s) ∧ ¬ own er e q ∧ q ≠ rc ∧ q ≠ ru
 hp0:hp=none → x.sh=none
 hp1:∀ h,hp=some h → ∃ s,x.sh=some s ∧ sg[h]? = some (eSht s) ∧ ¬ own er e h ∧ h ≠ rc ∧ h ≠ ru
structure Fr (P Q:Nat → Prop) (sg sg':List (List D)):Prop where
 len:sg.length ≤ sg'.length
 same:∀ y,y < sg.length → ¬ P y → sg'[y]? = sg[y]?
 own:∀ y,y < sg.length → Q y → P y
theorem Fr.rfl' (P:Nat → Prop) (sg:List (List D)):Fr P P sg sg:=⟨Nat.le_refl _,fun _ _ _=>rfl,fun _ _ h=>h⟩
theorem Fr.trans {P Q R:Nat → Prop} {a b c:List (List D)} (h:Fr P Q a b) (k:Fr Q R b c):Fr P R a c :=
 ⟨Nat.le_trans h.len k.len,fun y hy hn=>by
  have hb:y < b.length:=Nat.lt_of_lt_of_le hy h.len
  rw [k.same y hb (fun hq=>hn (h.own y hy hq)),h.same y hy hn],fun y hy hr=>h.own y hy (k.own y (Nat.lt_of_lt_of_le hy h.len) hr)⟩
theorem RR.lc {er rc ru sg x e sp hp} (h:RR er rc ru sg x e sp hp):rc < sg.length:=get_lt h.hrc
theorem RR.le {er rc ru sg x e sp hp} (h:RR er rc ru sg x e sp hp):er < sg.length:=get_lt h.R.hr
def Tkn (sg sg':List (List D)) (lo:Nat):Prop:=lo < sg.length ∨ sg'.length=sg.length
theorem Tkn.tk {sg sg':List (List D)} {lo:Nat} (h:Tkn sg sg' lo) {n:Nat} (hn:n=sg.length) (hl:n ≤ lo):sg'.take n=sg':=by
 subst hn
 rcases h with h | h
 ·omega
 ·exact List.take_of_length_le (by omega)
end Go.AM

namespace Go.AM
theorem Rep.gate {sg r e M fs} (h:Rep sg r e M fs) (b:Bool):Rep (sg.set r (eEng { e with cl:=b })) r { e with cl:=b } M fs:=by
 have hl:=get_lt h.hr
 refine ⟨List.getElem?_set_self hl,by rw [List.getElem?_set_ne (Ne.symm h.rm)]; exact h.hm,h.h6,h.f6,fun i q hq=>?_,h.nn,h.rm,h.qr,h.qq⟩
 obtain ⟨f,K,a,b,c⟩:=h.fr i q hq
 exact ⟨f,K,a,b,by rw [List.getElem?_set_ne (Ne.symm (h.qr i q hq).1)]; exact c⟩
end Go.AM

namespace Go.AM
def evN (x:RnS) (pick:Int):D × Bool:=match whoN x pick with
 | some (n,f)=>(eEv n f.o (stepP x.k x.p x.M f).a (stepP x.k x.p x.M f).d,true)
 | none=>match x.sc with
  | none=>(eEv 0 ⟨0,⟨0,0⟩,0,0⟩ ⟨false,⟨0,0⟩,0⟩ false,false)
  | some _=>(.a [.i .i64 (-1),.i .i64 0,.f .f64 0,.i .i64 0,.i .i64 0,.i .i64 0,.b false,.b false,.f .f64 0,.i .i64 0,.i .i64 0],true)
theorem pickL_nil (pick:Int):pickL [] pick=none:=rfl
end Go.AM

namespace Go.AM
def rn0 (k:Int) (p:Nat):RnS:=⟨k,p,⟨[],0⟩,[none,none,none,none,none,none],false,0,[],[0,0,0,0,0,0],none,none,0⟩
theorem nn6:∀ (i:Nat) (q:Nat),([none,none,none,none,none,none] : List (Option Nat))[i]? ≠ some (some q):=by
 intro i q h
 have:i=0 ∨ i=1 ∨ i=2 ∨ i=3 ∨ i=4 ∨ i=5 ∨ 6 ≤ i:=by omega
 rcases this with rfl | rfl | rfl | rfl | rfl | rfl | h6 <;> first | (simp at h; done) | (rw [List.getElem?_eq_none (by simpa using h6)] at h; cases h)
theorem nf6:∀ (i:Nat) (q:FrR),([none,none,none,none,none,none] : List (Option FrR))[i]? ≠ some (some q):=by
 intro i q h
 have:i=0 ∨ i=1 ∨ i=2 ∨ i=3 ∨ i=4 ∨ i=5 ∨ 6 ≤ i:=by omega
 rcases this with rfl | rfl | rfl | rfl | rfl | rfl | h6 <;> first | (simp at h; done) | (rw [List.getElem?_eq_none (by simpa using h6)] at h; cases h)
theorem n06:∀ i:Nat,([none,none,none,none,none,none] : List (Option Nat))[i]? = some none → ([none,none,none,none,none,none] : List (Option FrR))[i]? = some none:=by
 intro i h
 have hi:i < 6:=(List.getElem?_eq_some_iff.1 h).1
 have:i=0 ∨ i=1 ∨ i=2 ∨ i=3 ∨ i=4 ∨ i=5:=by omega
 rcases this with rfl | rfl | rfl | rfl | rfl | rfl <;> rfl
theorem mi0 (k:Int) (i:Nat):MI k i ⟨[],0⟩:=by
 have z:∀ i:Int,rdM ⟨[],0⟩ i=zC:=by intro i; simp [rdM]
 exact ⟨good_nil,by simp,fun j=>by simp [z,zC]; exact (nb_le k i).1,fun _ i _ h=>by simp [z,zC] at h⟩
theorem ri0 {k:Int} {p:Nat} (hl:legal k p=0):RI 0 (rn0 k p) :=
 ⟨hl,by simp [rn0],mi0 k 0,fun j f h=>absurd h (nf6 j f),by simp [rn0],rfl,by simp [rn0],by simp [rn0],fun s h=>by simp [rn0] at h,.inl rfl⟩
end Go.AM

namespace Go.AM
def enD (l:List Cll) (j:Nat):Int:=match l[j]? with
 | some c=>c.e
 | none=>0
def insE (l:List Cll) (ds:List Nat) (i:Nat):List Nat:=ds.filter (fun j=>enD l j ≤ enD l i) ++ i :: ds.filter (fun j=>¬ enD l j ≤ enD l i)
def dnS (l:List Cll):Nat → List Nat
 | 0=>[]
 | i + 1=>if 0 ≤ enD l i then insE l (dnS l i) i else dnS l i
theorem insE_perm (l:List Cll) (ds:List Nat) (i:Nat):(insE l ds i).Perm (i :: ds):=by
 unfold insE
 have h:(ds.filter (fun j=>decide (enD l j ≤ enD l i)) ++ ds.filter (fun j=>!decide (enD l j ≤ enD l i))).Perm ds:=List.filter_append_perm _ _
 refine List.perm_middle.trans (List.Perm.cons _ ?_)
 have e:(fun j=>decide (¬ enD l j ≤ enD l i))=(fun j=>!decide (enD l j ≤ enD l i)):=by funext j; exact decide_not
 rw [e]
 exact h
theorem dnS_mem (l:List Cll):∀ n j,j ∈ dnS l n ↔ j < n ∧ 0 ≤ enD l j
 | 0,j=>by simp [dnS]
 | n + 1,j=>by
  rw [dnS]
  have ih:=dnS_mem l n j
  split
  ·rename_i h
   rw [(insE_perm l _ n).mem_iff,List.mem_cons,ih]
   constructor
   ·rintro (rfl | h2)
    ·exact ⟨by omega,h⟩
    ·exact ⟨by omega,h2.2⟩
   ·rintro ⟨h1,h2⟩
    by_cases e:j=n
    ·exact .inl e
    ·exact .inr ⟨by omega,h2⟩
  ·rename_i h
   rw [ih]
   constructor
   ·rintro ⟨h1,h2⟩; exact ⟨by omega,h2⟩
   ·rintro ⟨h1,h2⟩
    refine ⟨?_,h2⟩
    by_cases e:j=n
    ·subst e; exact absurd h2 h
    ·omega
theorem dnS_len (l:List Cll):∀ n,(dnS l n).length ≤ n
 | 0=>by simp [dnS]
 | n + 1=>by
  have ih:=dnS_len l n
  rw [dnS]
  split
  ·rw [(insE_perm l _ n).length_eq]; simp; omega
  ·omega
theorem insE_pw (l:List Cll) (ds:List Nat) (i:Nat) (h:ds.Pairwise (fun a b=>enD l a ≤ enD l b)):(insE l ds i).Pairwise (fun a b=>enD l a ≤ enD l b):=by
 unfold insE
 rw [List.pairwise_append]
 refine ⟨h.filter _,?_,?_⟩
 ·rw [List.pairwise_cons]
  refine ⟨fun b hb=>?_,h.filter _⟩
  have:=(List.mem_filter.1 hb).2
  simp at this; omega
 ·intro a ha b hb
  have h1:=(List.mem_filter.1 ha).2
  simp at h1
  rcases List.mem_cons.1 hb with rfl | hb
  ·exact h1
  ·have h2:=(List.mem_filter.1 hb).2
   simp at h2; omega
theorem dnS_pw (l:List Cll):∀ n,(dnS l n).Pairwise (fun a b=>enD l a ≤ enD l b)
 | 0=>by simp [dnS]
 | n + 1=>by
  rw [dnS]
  split
  ·exact insE_pw l _ n (dnS_pw l n)
  ·exact dnS_pw l n
theorem insE_split (l:List Cll) (A B:List Nat) (i:Nat) (hA:∀ a ∈ A,enD l a ≤ enD l i) (hB:∀ b ∈ B,¬ enD l b ≤ enD l i):insE l (A ++ B) i=A ++ i :: B:=by
 unfold insE
 rw [List.filter_append,List.filter_append]
 rw [List.filter_eq_self.2 (fun a ha=>by simpa using hA a ha),List.filter_eq_nil_iff.2 (fun b hb=>by simpa using hB b hb)]
 rw [List.filter_eq_nil_iff.2 (fun a ha=>by simpa using hA a ha),List.filter_eq_self.2 (fun b hb=>by simpa using hB b hb)]
 simp
section
variable (l:List Cll) (hl:l.length ≤ 1000) (he:∀ c ∈ l,c.e ≤ 100000) (sg:List (List D))
include hl he
set_option maxHeartbeats 4000000 in
theorem c_history_DoneS:LL.call n_history_Done [.l .z 12 (l.map eCll)] sg sg.length=some (.l .x 1 ((dnS l l.length).map eN),sg,sg.length):=by
 refine wp_call e_history_Done rfl ?_
 simp [F_history_Done]
 refine wc_upb l.length (fun i (b : Bool) => if b then ⟨[(0, .v (.l .z 12 (l.map eCll))), (3, .q (.hdr 3)), (7, .v (.l .z 12 (l.map eCll))), (8, .v (.i .i64 l.length)), (9, .v (.i .i64 i))], [(3, [.l .x 1 ((dnS l i).map eN)])], sg, sg.length⟩
     else ⟨[(0,.v (.l .z 12 (l.map eCll))),(3,.v (.l .x 1 ((dnS l i).map eN))),(7,.v (.l .z 12 (l.map eCll))),(8,.v (.i .i64 l.length)),(9,.v (.i .i64 i))],[],sg,sg.length⟩)
  (fun i _=>True) ?_ ?_ false trivial
 ·intro i bb hi _ ih
  have ihf:=ih false trivial
  have iht:=ih true trivial
  simp only [if_true,if_false,Bool.false_eq_true] at ihf iht
  obtain ⟨c,q0⟩:∃ c,l[i] = c:=⟨_,rfl⟩
  have q1:l[i]? = some c:=by rw [← q0]; exact List.getElem?_eq_getElem hi
  have w1:IntKind.i64.wrap ((i:Int) + 1)=(i:Int) + 1:=wrap64 (by omega)
  have hln:=dnS_len l i
  have eE:enD l i=c.e:=by simp [enD,q1]
  by_cases h0:c.e < 0
  ·have e1:dnS l (i + 1)=dnS l i:=by rw [dnS,if_neg (by omega)]
   rw [e1] at ihf iht
   cases bb with
   | false =>
    simp [hi,q0,q1,eCll,h0,w1]
    simpa using ihf
   | true =>
    simp [hi,q0,q1,eCll,h0,w1]
    simpa using iht
  ·have e1:dnS l (i + 1)=insE l (dnS l i) i:=by rw [dnS,if_pos (by omega)]
   rw [e1] at iht
   have hap:(dnS l i).length * 8 ≤ 140737488355328:=by omega
   have hap2:((dnS l i).length + 1) * 8 ≤ 140737488355328:=by omega
   have hpw:=dnS_pw l i
   have hmem:=fun j=>(dnS_mem l i j).1
   generalize dnS l i=ds at *
   cases bb
   all_goals
    simp [hi,q0,q1,eCll,h0,w1,hap,hap2]
    refine wc_ind (fun (a : Bool × List Nat × List Nat) => if a.1 then ⟨[(0, .v (.l .z 12 (l.map eCll))), (3, .q (.hdr 3)), (5, .q (.ptr 5 0)), (6, .v (.i .i64 a.2.1.length)), (7, .v (.l .z 12 (l.map eCll))), (8, .v (.i .i64 l.length)), (9, .v (.i .i64 i))],
        [(3,[.l .x 1 ((a.2.1 ++ i :: a.2.2).map eN)]),(5,(eCll c).cells)],sg,sg.length⟩
     else ⟨[(0,.v (.l .z 12 (l.map eCll))),(3,.v (.l .x 1 (ds.map eN ++ [.i .i64 i]))),(5,.q (.ptr 5 0)),(6,.v (.i .i64 ds.length)),(7,.v (.l .z 12 (l.map eCll))),(8,.v (.i .i64 l.length)),(9,.v (.i .i64 i))],
      [(5,(eCll c).cells)],sg,sg.length⟩) (fun a=>a.2.1.length) (fun a=>a.2.1 ++ a.2.2=ds ∧ (∀ b ∈ a.2.2,c.e < enD l b) ∧ (a.1=false → a.2.2=[])) ?_ (false,ds,[]) ⟨by simp,by simp,by simp⟩
    rintro ⟨tb,A,B⟩ ⟨g1,g2,g3⟩ ih2
    simp only at g1 g2 g3
    have hAl:A.length + B.length=ds.length:=by rw [← g1]; simp
    rcases List.eq_nil_or_concat A with h | ⟨A',a,h⟩
    ·subst h
     have fin:insE l ds i=i :: B:=by rw [← g1]; exact insE_split l [] B i (by simp) (fun b hb=>by have:=g2 b hb; omega)
     rw [fin] at iht
     cases tb with
     | false =>
      have hB:=g3 rfl
      subst hB
      simp only [List.append_nil] at g1
      subst g1
      simp [w1]
      simpa [eN] using iht
     | true =>
      simp [w1]
      simpa [eN] using iht
    ·rw [List.concat_eq_append] at h
     subst h
     obtain ⟨ha1,ha2⟩:=hmem a (by rw [← g1]; simp)
     obtain ⟨d,q2⟩:∃ d,l[a]? = some d:=⟨_,List.getElem?_eq_getElem (by omega)⟩
     have eA:enD l a=d.e:=by simp [enD,q2]
     have w2:IntKind.i64.wrap (A'.length:Int)=(A'.length:Int):=wrap64 (by simp at hAl; omega)
     by_cases h3:c.e < d.e
     ·have hg:∀ b ∈ a :: B,c.e < enD l b:=by
       intro b hb
       rcases List.mem_cons.1 hb with rfl | hb
       ·omega
       ·exact g2 b hb
      have jh2:=ih2 (true,A',a :: B) (by simp) ⟨by rw [← g1]; simp,hg,by simp⟩
      cases tb with
      | false =>
       have hB:=g3 rfl
       subst hB
       simp only [List.append_nil] at g1
       subst g1
       simp [w1,w2,q2,h3,eN,eCll]
       refine ⟨by omega,?_⟩
       simpa [eN,eCll] using jh2
      | true =>
       simp [w1,w2,q2,h3,eN,eCll]
       refine ⟨by omega,?_⟩
       simpa [eN,eCll] using jh2
     ·have fin:insE l ds i=A' ++ a :: i :: B:=by
       rw [← g1]
       have hpA:∀ x ∈ A' ++ [a],enD l x ≤ enD l i:=by
        intro x hx
        rw [← g1] at hpw
        have hpw2:=(List.pairwise_append.1 hpw).1
        rcases List.mem_append.1 hx with hx | hx
        ·have:=(List.pairwise_append.1 hpw2).2.2 x hx a (by simp); omega
        ·simp at hx; subst hx; omega
       have:=insE_split l (A' ++ [a]) B i hpA (fun b hb=>by have:=g2 b hb; omega)
       rw [this]; simp
      rw [fin] at iht
      cases tb with
      | false =>
       have hB:=g3 rfl
       subst hB
       simp only [List.append_nil] at g1
       subst g1
       simp [w1,w2,q2,h3,eN,eCll]
       simpa [eN] using iht
      | true =>
       simp [w1,w2,q2,h3,eN,eCll]
       simpa [eN] using iht
 ·intro bb _
  cases bb <;> simp
end
end Go.AM

namespace Go.AM
structure RC (er rc:Nat) (sg:List (List D)) (x:RnS) (e:Eng):Prop where
 R:Rep sg er e x.M x.fs
 ek:e.k=x.k
 ep:e.p=x.p
 ecl:e.cl=x.cl
 est:e.st=x.st
 hrc:sg[rc]? = some (eRec er x.cs x.ats)
 dc:¬ own er e rc
theorem rc_beg {i er rc sg x e} (h : RC er rc sg x e) (hI : RI i x) (hi : i ≤ 1000) (t : Int) (o : Rw) :
    ∃ sg' e' lo,LL.call n_history_Recorder_Begin [.p rc 0,.i .i64 t,eOp o] sg sg.length=some (.i .i64 (begN x t o).2,sg',lo) ∧ RC er rc sg' (begN x t o).1 e' ∧ ((lo=er ∧ sg.length ≤ sg'.length) ∨ (lo=sg.length ∧ sg'.length=sg.length)):=by
 have hb0:begO e.k e.cl x.fs t o=begO x.k x.cl x.fs t o:=by rw [h.ek,h.ecl]
 have hcs:x.cs.length ≤ 1000:=by have:=hI.cs; omega
 unfold begN
 by_cases hb:begO x.k x.cl x.fs t o=0
 ·rw [if_pos hb]
  obtain ⟨sg',e',A1,A2,A3,A4,A5,A6,A7,A8,A9,A10,A11,A12,A13⟩:=c_history_Begin er rc e x.M x.fs x.cs x.ats sg h.R h.hrc h.dc hI.a6 hcs t o (by rw [hb0]; exact hb)
  rw [h.est] at A6
  refine ⟨sg',e',_,A1,⟨A5,A7.trans h.ek,A8.trans h.ep,A10.trans h.ecl,A11.trans h.est,A6,?_⟩,.inl ⟨rfl,by omega⟩⟩
  rintro (ho | ho | ⟨j,ho⟩)
  ·exact h.dc (.inl ho)
  ·exact h.dc (.inr (.inl (by rw [← A9]; exact ho)))
  ·rcases A13 j rc ho with hh | hh
   ·exact h.dc (.inr (.inr ⟨j,hh⟩))
   ·have:=get_lt h.hrc; omega
 ·rw [if_neg hb]
  have N:=c_history_Begin_no er rc e x.M x.fs x.cs x.ats sg h.R h.hrc h.dc hI.a6 hcs t o (by rw [hb0]; exact hb)
  rw [hb0] at N
  exact ⟨sg,e,_,N,h,.inr ⟨rfl,rfl⟩⟩
def pickR (x:RnS) (pick:Int):RnS:=match pickL (busyO x.fs 0) pick with
 | none=>x
 | some n=>match x.fs[n]? with
  | some (some f)=>pickE x n f
  | _=>x
theorem rc_pick {i er rc sg x e} (h : RC er rc sg x e) (hI : RI i x) (hi : i ≤ 1000) (pick : Int) :
    ∃ sg' e' ev b,LL.call n_history_Recorder_Pick [.p rc 0,.i .i64 pick] sg sg.length=some (.t [ev,.b b],sg',sg.length) ∧ sg'.length=sg.length ∧ RC er rc sg' (pickR x pick) e':=by
 have hcs:x.cs.length ≤ 1000:=by have:=hI.cs; omega
 have hst:=hI.st
 by_cases hb:busyO x.fs 0=[]
 ·have P:=c_history_Pick_none er rc e x.M x.fs x.cs x.ats sg h.R h.hrc h.dc hI.a6 hcs pick hb
  have hx:pickR x pick=x:=by unfold pickR; rw [hb,pickL_nil]
  rw [hx]
  exact ⟨sg,e,_,_,P,rfl,h⟩
 ·obtain ⟨n,f,hn,hf⟩:=pick_some hb pick
  have hx:pickR x pick=pickE x n f:=by unfold pickR; rw [hn]; simp only; rw [hf]
  rw [hx]
  obtain ⟨sg',e',A1,A2,A3,A4,A5,A6,A7,A8,A9,A10,A11⟩:=c_history_Pick er rc e x.M x.fs x.cs x.ats sg h.R h.hrc h.dc hI.a6 hcs i (by omega) (by rw [h.ek,h.ep]; exact hI.leg) (by rw [h.est]; omega) (by rw [h.ek]; exact hI.mi) (by rw [h.ek]; exact hI.fi) hI.al pick n hn f hf
  rw [h.ek,h.ep] at A1 A3 A4
  rw [h.est] at A4
  refine ⟨sg',e',_,_,A1,A2,⟨A3,A5.trans h.ek,A6.trans h.ep,A8.trans h.ecl,by rw [A9,h.est]; rfl,A4,?_⟩⟩
  rintro (ho | ho | ⟨j,ho⟩)
  ·exact h.dc (.inl ho)
  ·exact h.dc (.inr (.inl (by rw [← A7]; exact ho)))
  ·exact h.dc (.inr (.inr ⟨j,A11 j rc ho⟩))
structure RQ (x:RnS):Prop where
 t:∀ c ∈ x.cs,c.t < 6
 b:∀ c ∈ x.cs,0 ≤ c.b ∧ c.b ≤ x.st ∧ (c.e=-1 ∨ (c.b ≤ c.e ∧ c.e < x.st))
 o:∀ (i:Nat) c d,x.cs[i]? = some c → x.cs[i + 1]? = some d → c.b ≤ d.b
 e:∀ (i j:Nat) c d,i < j → x.cs[i]? = some c → x.cs[j]? = some d → 0 ≤ c.e → 0 ≤ d.e → c.e ≠ d.e
 s:∀ (i j:Nat) c d,i < j → x.cs[i]? = some c → x.cs[j]? = some d → c.t=d.t → 0 ≤ c.e ∧ c.e < d.b
 w:∀ (i:Nat) c,x.cs[i]? = some c → c.e=-1 → x.ats[c.t]? = some (i + 1)
 u:∀ (t i:Nat),x.ats[t]? = some (i + 1) → ∃ c,x.cs[i]? = some c ∧ c.e=-1 ∧ c.t=t
 f:∀ t:Nat,x.fs[t]? = some none → x.ats[t]? = some 0
 op:Cops x.k x.cs
theorem RQ.clw {x i} (h:RQ x) (hI:RI i x) (hi:i ≤ 1000):Clw x.cs ∧ ¬ badC x.cs:=by
 have hst:=hI.st
 have hcs:=hI.cs
 refine ⟨⟨h.t,fun c hc=>⟨(h.b c hc).1,?_,?_⟩,h.o,h.e,by omega⟩,?_⟩
 ·rcases (h.b c hc).2.2 with h1 | h1
  ·exact .inl h1
  ·exact .inr h1.1
 ·rcases (h.b c hc).2.2 with h1 | h1 <;> omega
 ·rintro ⟨a,b,c,d,hl,hc,hd,h1,h2⟩
  exact h2 (h.s a b c d hl hc hd h1)
theorem RQ.beg {x i} (h:RQ x) (hI:RI i x) (f6:x.fs.length=6) (t:Int) (o:Rw) (ho:2 * x.k - 1 ≤ o.k ∧ o.k ≤ (if x.k=4 then 7 else 2 * x.k)) (hv:o.k=5 → 0 ≤ o.x.v ∧ o.x.v ≤ 4294967296) (hx:o.x.ok):RQ (begN x t o).1:=by
 unfold begN
 split
 ·rename_i hb
  have hb2:0 ≤ t ∧ t < 6 ∧ x.fs[t.toNat]? = some none:=by
   unfold begO at hb
   split at hb
   ·omega
   rename_i h1
   split at hb
   ·omega
   split at hb
   ·omega
   split at hb
   ·omega
   rename_i h4
   obtain ⟨q,hq⟩:∃ q,x.fs[t.toNat]? = some q:=⟨x.fs[t.toNat],List.getElem?_eq_getElem (by omega)⟩
   rw [hq] at h4
   cases q with
   | none=>exact ⟨by omega,by omega,hq⟩
   | some q=>simp at h4
  obtain ⟨h0,h6,hf⟩:=hb2
  obtain ⟨n,hn⟩:∃ n:Nat,n=t.toNat:=⟨_,rfl⟩
  rw [← hn] at hf
  have hn6:n < 6:=by omega
  have ha:=h.f n hf
  have a6:=hI.a6
  have app:∀ (j:Nat) c,(x.cs ++ [⟨n,o,x.st,-1,noA⟩])[j]? = some c → (j < x.cs.length ∧ x.cs[j]? = some c) ∨ (j=x.cs.length ∧ c=⟨n,o,x.st,-1,noA⟩):=by
   intro j c hc
   by_cases hj:j < x.cs.length
   ·rw [List.getElem?_append_left hj] at hc; exact .inl ⟨hj,hc⟩
   ·have hj2:j=x.cs.length:=by
     have:=(List.getElem?_eq_some_iff.1 hc).1
     simp at this; omega
    subst hj2
    simp at hc
    exact .inr ⟨rfl,hc.symm⟩
  simp only [← hn]
  refine ⟨?_,?_,?_,?_,?_,?_,?_,?_,?_⟩
  ·intro c hc
   rcases List.mem_append.1 hc with hc | hc
   ·exact h.t c hc
   ·simp at hc; subst hc; exact hn6
  ·intro c hc
   rcases List.mem_append.1 hc with hc | hc
   ·exact h.b c hc
   ·simp at hc; subst hc; exact ⟨by simp only; omega,by simp,.inl rfl⟩
  ·intro j c d hc hd
   rcases app j c hc with ⟨h1,h2⟩ | ⟨h1,h2⟩
   ·rcases app (j + 1) d hd with ⟨h3,h4⟩ | ⟨h3,h4⟩
    ·exact h.o j c d h2 h4
    ·subst h4; have:=(h.b c (mem_of_get h2)).2.1; simpa using this
   ·rcases app (j + 1) d hd with ⟨h3,h4⟩ | ⟨h3,h4⟩ <;> omega
  ·intro j j2 c d hl hc hd e1 e2
   rcases app j2 d hd with ⟨h3,h4⟩ | ⟨h3,h4⟩
   ·rcases app j c hc with ⟨h1,h2⟩ | ⟨h1,h2⟩
    ·exact h.e j j2 c d hl h2 h4 e1 e2
    ·omega
   ·subst h4; simp at e2
  ·intro j j2 c d hl hc hd e1
   rcases app j c hc with ⟨h1,h2⟩ | ⟨h1,h2⟩
   ·rcases app j2 d hd with ⟨h3,h4⟩ | ⟨h3,h4⟩
    ·exact h.s j j2 c d hl h2 h4 e1
    ·subst h4
     simp only at e1 ⊢
     rcases (h.b c (mem_of_get h2)).2.2 with h5 | h5
     ·have:=h.w j c h2 h5
      rw [e1,ha] at this
      cases this
     ·have:=(h.b c (mem_of_get h2)).1
      omega
   ·rcases app j2 d hd with ⟨h3,h4⟩ | ⟨h3,h4⟩ <;> omega
  ·intro j c hc e1
   rcases app j c hc with ⟨h1,h2⟩ | ⟨h1,h2⟩
   ·have h3:=h.w j c h2 e1
    have:n ≠ c.t:=by rintro rfl; rw [ha] at h3; cases h3
    simp only
    rw [List.getElem?_set_ne this]
    exact h3
   ·subst h2 h1
    simp only
    rw [List.getElem?_set_self (by omega)]
  ·intro t' j hj
   simp only at hj ⊢
   by_cases e1:n=t'
   ·subst e1
    rw [List.getElem?_set_self (by omega)] at hj
    injection hj with hj
    have hj2:j=x.cs.length:=by omega
    subst hj2
    exact ⟨⟨n,o,x.st,-1,noA⟩,by simp,rfl,rfl⟩
   ·rw [List.getElem?_set_ne e1] at hj
    obtain ⟨c,h1,h2,h3⟩:=h.u t' j hj
    exact ⟨c,by rw [List.getElem?_append_left (List.getElem?_eq_some_iff.1 h1).1]; exact h1,h2,h3⟩
  ·intro t' ht
   simp only at ht ⊢
   by_cases e1:n=t'
   ·subst e1
    rw [List.getElem?_set_self (by omega)] at ht
    cases ht
   ·rw [List.getElem?_set_ne e1] at ht ⊢
    exact h.f t' ht
  ·refine ⟨?_,?_,?_,?_⟩
   all_goals
    intro c hc
    rcases List.mem_append.1 hc with hc | hc
   ·exact h.op.o c hc
   ·simp at hc; subst hc; exact ho
   ·exact h.op.v c hc
   ·simp at hc; subst hc; exact hv
   ·exact h.op.x c hc
   ·simp at hc; subst hc; exact hx
   ·exact h.op.a c hc
   ·simp at hc; subst hc; exact noA_ok
 ·exact h
theorem RQ.pickE {x i n f} (h:RQ x) (hI:RI i x) (hi:i ≤ 1000) (f6:x.fs.length=6) (hf:x.fs[n]? = some (some f)):RQ (pickE x n f):=by
 have S:=si_step hI.leg hI.mi (hI.fi n f hf) (by omega)
 have hn6:n < 6:=by have:=(List.getElem?_eq_some_iff.1 hf).1; omega
 have a6:=hI.a6
 unfold AM.pickE
 generalize stepP x.k x.p x.M f=so at *
 obtain ⟨a,ha⟩:∃ a,x.ats[n]? = some a:=⟨x.ats[n],List.getElem?_eq_getElem (by omega)⟩
 by_cases hw:so.d=true ∧ 0 < a
 ·obtain ⟨m,hm⟩:∃ m,a=m + 1:=⟨a - 1,by omega⟩
  subst hm
  obtain ⟨c0,g1,g2,g3⟩:=h.u n m ha
  have er1:recC x.cs x.ats n so.d x.st so.a=(x.cs.set m { c0 with e:=x.st,a:=so.a },x.ats.set n 0):=by
   unfold recC; rw [ha]; simp only; rw [if_pos hw,show m + 1 - 1=m by omega,g1]
  rw [er1]
  have hml:=(List.getElem?_eq_some_iff.1 g1).1
  have st:∀ (j:Nat) c,(x.cs.set m { c0 with e:=x.st,a:=so.a })[j]? = some c → (j ≠ m ∧ x.cs[j]? = some c) ∨ (j=m ∧ c={ c0 with e:=x.st,a:=so.a }):=by
   intro j c hc
   by_cases e1:m=j
   ·subst e1; rw [List.getElem?_set_self hml] at hc; injection hc with hc; exact .inr ⟨rfl,hc.symm⟩
   ·rw [List.getElem?_set_ne e1] at hc; exact .inl ⟨fun e=>e1 e.symm,hc⟩
  have mem:∀ c ∈ x.cs.set m { c0 with e:=x.st,a:=so.a },c ∈ x.cs ∨ c={ c0 with e:=x.st,a:=so.a }:=fun c hc=>List.mem_or_eq_of_mem_set hc
  have hc0:=mem_of_get g1
  have b0:=h.b c0 hc0
  have hd1:=hw.1
  refine ⟨?_,?_,?_,?_,?_,?_,?_,?_,?_⟩
  ·intro c hc
   rcases mem c hc with hc | rfl
   ·exact h.t c hc
   ·exact h.t c0 hc0
  ·intro c hc
   simp only
   rcases mem c hc with hc | rfl
   ·have:=h.b c hc; omega
   ·simp only; omega
  ·intro j c d hc hd
   rcases st j c hc with ⟨_,h1⟩ | ⟨h0,rfl⟩ <;> rcases st (j + 1) d hd with ⟨_,h2⟩ | ⟨h0',rfl⟩
   ·exact h.o j c d h1 h2
   ·subst h0'; exact h.o j c c0 h1 g1
   ·subst h0; exact h.o j c0 d g1 h2
   ·omega
  ·intro j j2 c d hl hc hd e1 e2
   rcases st j c hc with ⟨_,h1⟩ | ⟨h0,rfl⟩ <;> rcases st j2 d hd with ⟨_,h2⟩ | ⟨h0',rfl⟩
   ·exact h.e j j2 c d hl h1 h2 e1 e2
   ·have:=(h.b c (mem_of_get h1)).2.2; simp only; omega
   ·have:=(h.b d (mem_of_get h2)).2.2; simp only; omega
   ·omega
  ·intro j j2 c d hl hc hd e1
   rcases st j c hc with ⟨_,h1⟩ | ⟨h0,rfl⟩ <;> rcases st j2 d hd with ⟨_,h2⟩ | ⟨h0',rfl⟩
   ·exact h.s j j2 c d hl h1 h2 e1
   ·subst h0'; exact h.s j j2 c c0 hl h1 g1 e1
   ·subst h0; have:=h.s j j2 c0 d hl g1 h2 e1; omega
   ·omega
  ·intro j c hc e1
   rcases st j c hc with ⟨h0,h1⟩ | ⟨h0,rfl⟩
   ·have h3:=h.w j c h1 e1
    have:n ≠ c.t:=by
     intro e; rw [← e,ha] at h3; injection h3 with h3; omega
    simp only
    rw [List.getElem?_set_ne this]; exact h3
   ·simp at e1
  ·intro t' j hj
   simp only at hj ⊢
   by_cases e1:n=t'
   ·subst e1
    rw [List.getElem?_set_self (by omega)] at hj
    cases hj
   ·rw [List.getElem?_set_ne e1] at hj
    obtain ⟨c,h1,h2,h3⟩:=h.u t' j hj
    have:m ≠ j:=by intro e; rw [← e,g1] at h1; cases h1; exact e1 (g3.symm.trans h3)
    exact ⟨c,by rw [List.getElem?_set_ne this]; exact h1,h2,h3⟩
  ·intro t' ht
   simp only at ht ⊢
   by_cases e1:n=t'
   ·subst e1
    rw [List.getElem?_set_self (by omega)]
   ·rw [List.getElem?_set_ne e1] at ht ⊢
    exact h.f t' ht
  ·refine ⟨?_,?_,?_,?_⟩
   all_goals
    intro c hc
    rcases mem c hc with hc | rfl
   ·exact h.op.o c hc
   ·exact h.op.o c0 hc0
   ·exact h.op.v c hc
   ·exact h.op.v c0 hc0
   ·exact h.op.x c hc
   ·exact h.op.x c0 hc0
   ·exact h.op.a c hc
   ·exact S.x
 ·have er1:recC x.cs x.ats n so.d x.st so.a=(x.cs,x.ats):=by
   unfold recC; rw [ha]; simp only; rw [if_neg hw]
  rw [er1]
  refine { h with b:=?_,f:=?_ }
  ·intro c hc
   have:=h.b c hc
   simp only; omega
  ·intro t' ht
   simp only at ht ⊢
   by_cases e1:n=t'
   ·subst e1
    rw [List.getElem?_set_self (by omega)] at ht
    cases hd:so.d with
    | false=>rw [hd] at ht; simp at ht
    | true =>
     have:a=0:=by
      by_cases h0:0 < a
      ·exact absurd ⟨hd,h0⟩ hw
      ·omega
     rw [ha,this]
   ·rw [List.getElem?_set_ne e1] at ht
    exact h.f t' ht
end Go.AM

namespace Go.AM
theorem begN_kp (x:RnS) (t:Int) (o:Rw):(begN x t o).1.k=x.k ∧ (begN x t o).1.p=x.p:=by unfold begN; split <;> exact ⟨rfl,rfl⟩
theorem pickR_kp (x:RnS) (pick:Int):(pickR x pick).k=x.k ∧ (pickR x pick).p=x.p:=by
 unfold pickR
 split
 ·exact ⟨rfl,rfl⟩
 ·split <;> exact ⟨rfl,rfl⟩
theorem RI.pickR {i x} (h:RI i x) (hi:i ≤ 5000) (pick:Int):RI (i + 1) (pickR x pick):=by
 unfold AM.pickR
 split
 ·exact h.mono
 ·split
  ·rename_i f hf
   have:=h.pickE hi hf
   exact { this with tk:=(by have:=h.tk; show x.tk ≤ i + 1 + 1; omega),sc:=this.sc,one:=this.one }
  ·exact h.mono
theorem RQ.pickR {x i} (h:RQ x) (hI:RI i x) (hi:i ≤ 1000) (f6:x.fs.length=6) (pick:Int):RQ (pickR x pick):=by
 unfold AM.pickR
 split
 ·exact h
 ·split
  ·rename_i f hf
   exact h.pickE hI hi f6 hf
  ·exact h
theorem RI.up {x}:∀ (j i:Nat),RI i x → RI (i + j) x
 | 0,_,h=>h
 | j + 1,i,h=>(RI.up j i h).mono
set_option maxRecDepth 20000 in
set_option maxHeartbeats 8000000 in
theorem c_law15_Play {er rc : Nat} {sg : List (List D)} {x : RnS} {e : Eng} (h : RC er rc sg x e) (hI : RI 0 x) (hQ : RQ x) {P : RnS → Prop} (hP : P x) (hPb : ∀ (i : Nat) (y : RnS) (t : Int) (o : Rw), RI i y → i ≤ 1000 → RQ y → y.fs.length = 6 → y.k = x.k → P y → o.ok → P (begN y t (ownO x.k o)).1) (hPp : ∀ (i : Nat) (y : RnS) (pick : Int), RI i y → i ≤ 1000 → RQ y → P y → P (pickR y pick)) (acts : List Act) (hact : ∀ a ∈ acts, a.o.ok) :
    ∃ r:D × List (List D) × Nat,LL.call n_c_law15_Play [.p rc 0,.i .i64 x.k,.l .z 8 (acts.map eAct)] sg sg.length=some r ∧
     (r.1=.t [] ∧ (∃ x' e',RC er rc r.2.1 x' e' ∧ RI 240 x' ∧ RQ x' ∧ x'.k=x.k ∧ x'.p=x.p ∧ P x') ∧ ((r.2.2=er ∧ sg.length ≤ r.2.1.length) ∨ (r.2.2=sg.length ∧ r.2.1.length=sg.length))):=by
 have hkr:=legal_k hI.leg
 have hel:er < sg.length:=get_lt h.R.hr
 obtain ⟨k,hk⟩:∃ k,k=x.k:=⟨_,rfl⟩
 obtain ⟨p,hp⟩:∃ p,p=x.p:=⟨_,rfl⟩
 rw [← hk,← hp]
 rw [← hk] at hkr
 have hzz:∀ l:List Act,D.zzs (l.map eAct)=l.map eAct:=fun l=>zzs_flat eAct l
 refine wp_call_e2 e_c_law15_Play rfl ?_
 simp [F_c_law15_Play,hzz]
 refine wc_lst (acts.take 120) (fun i (b:List (List D) × Nat)=>⟨[(0,.v (.p rc 0)),(1,.v (.i .i64 k)),(2,.v (.l .z 8 (acts.map eAct))),(6,.v (.i .i64 i))],[],b.1,b.2⟩) (fun i rest b=>(∃ x e,RC er rc b.1 x e ∧ RI (2 * i) x ∧ RQ x ∧ x.k=k ∧ x.p=p ∧ P x) ∧ ((b.2=er ∧ sg.length ≤ b.1.length) ∨ (b.2=sg.length ∧ b.1.length=sg.length))) (sg,sg.length) (by simp) ⟨⟨_,_,h,hI,hQ,hk.symm,hp.symm,hP⟩,.inr ⟨rfl,rfl⟩⟩ ?_ ?_
 ·rintro i a rest ⟨sg1,lo⟩ hi hx ⟨⟨x1,e1,T,I,Q,hxk,hxp,hPx⟩,hlo⟩ ih
  simp only at T I ih hlo ⊢
  have hi120:i < 120:=by simp at hi; omega
  have hia:i < acts.length:=by simp at hi; omega
  have hx':acts[i] = a:=by rw [← hx]; simp
  have hao:=hact a (by rw [← hx']; exact List.getElem_mem hia)
  have hii:(i:Int) < acts.length:=by omega
  have hi6:(i:Int) < 120:=by omega
  have w1:IntKind.i64.wrap ((i:Int) + 1)=i + 1:=wrap64 (by omega)
  have e1:(a.k % 256).tmod 14=a.k % 256 % 14:=tmod_nn _ _ (by omega)
  obtain ⟨q,hq⟩:∃ q,q=a.k % 256 % 14:=⟨_,rfl⟩
  rw [← hq] at e1
  have hql:0 ≤ q ∧ q < 14:=by omega
  have w2:IntKind.i64.wrap q=q:=wrap64 (by omega)
  have hrc:=T.hrc
  by_cases hq3:q < 3
  ·obtain ⟨sg2,e2,lo2,B1,T1,K1⟩:=rc_beg T I (by omega) a.t (ownO k a.o)
   have I1:RI (2 * (i + 1)) (begN x1 a.t (ownO k a.o)).1:=(I.beg _ _ (by rw [hxk]; exact fi_begin hkr _ hao)).mono
   have ho:=ownO_ok hkr hao
   have hor:=ownO_rng k hkr a.o
   have Q1:=Q.beg I T.R.f6 a.t (ownO k a.o) (by rw [hxk]; exact hor) ho.2 ho.1.1
   obtain ⟨k1,k2⟩:=begN_kp x1 a.t (ownO k a.o)
   have ih:=ih (sg2,min lo lo2) ⟨⟨_,_,T1,I1,Q1,k1.trans hxk,k2.trans hxp,by have:=hPb _ x1 a.t a.o I (by omega) Q T.R.f6 (hxk.trans hk) hPx hao; rw [← hk] at this; exact this⟩,by simp only; omega⟩
   have O1:=c_law06_Own k hkr a.o sg1
   simp [eRw,eOp] at O1 B1
   simp at ih
   simp [eRec] at hrc
   have hel1:=get_lt T.R.hr
   simp [hii,hi6,hia,hx',eAct,i64_255,e1,w2,hq3,O1,B1,w1]
   rw [show min lo (min sg1.length lo2)=min lo lo2 by omega]
   simpa using ih
  ·by_cases hq12:q < 12
   ·obtain ⟨sg2,e2,ev,b,P1,L1,T1⟩:=rc_pick T I (by omega) a.p
    have I1:RI (2 * (i + 1)) (pickR x1 a.p):=(I.pickR (by omega) a.p).mono
    have Q1:=Q.pickR I (by omega) T.R.f6 a.p
    obtain ⟨k1,k2⟩:=pickR_kp x1 a.p
    have ih:=ih (sg2,min lo sg1.length) ⟨⟨_,_,T1,I1,Q1,k1.trans hxk,k2.trans hxp,hPp _ x1 a.p I (by omega) Q hPx⟩,by simp only; omega⟩
    simp at ih
    simp [hii,hi6,hia,hx',eAct,i64_255,e1,w2,hq3,hq12,P1,w1]
    simpa using ih
   ·have ih:=ih (sg1,lo) ⟨⟨_,_,T,I.mono.mono,Q,hxk,hxp,hPx⟩,hlo⟩
    simp at ih
    simp [hii,hi6,hia,hx',eAct,i64_255,e1,w2,hq3,hq12,w1]
    simpa using ih
 ·rintro ⟨sg1,lo⟩ ⟨⟨x1,e1,T,I,Q,hxk,hxp,hPx⟩,hlo⟩
  simp only at T I hlo
  have hif:(if sg.length ≤ lo then (D.t [],List.take sg.length sg1,lo) else (D.t [],sg1,lo))=(D.t [],sg1,lo):=by
   split
   ·rw [List.take_of_length_le (by omega)]
   ·rfl
  have I2:RI 240 x1:=by
   have:=RI.up (240 - 2 * (acts.take 120).length) _ I
   rwa [show 2 * (acts.take 120).length + (240 - 2 * (acts.take 120).length)=240 by simp; omega] at this
  by_cases h120:acts.length ≤ 120
  ·have e1:((min 120 acts.length:Nat):Int)=acts.length:=by omega
   simp [e1]
   rw [hif]
   exact ⟨rfl,⟨x1,⟨_,T⟩,I2,Q,hxk,hxp,hPx⟩,hlo⟩
  ·have e1:((min 120 acts.length:Nat):Int)=120:=by omega
   have e2:(120:Int) < acts.length:=by omega
   simp [e1,e2]
   rw [hif]
   exact ⟨rfl,⟨x1,⟨_,T⟩,I2,Q,hxk,hxp,hPx⟩,hlo⟩
theorem rc0 (k:Int) (p:Nat):RC 1 2 [eMem ⟨[],0⟩,eEng (newE k p 0),eRec 1 [] [0,0,0,0,0,0]] (rn0 k p) (newE k p 0):=by
 have ho:∀ y,own 1 (newE k p 0) y → y=1 ∨ y=0:=by
  rintro y (h | h | ⟨i,h⟩)
  ·exact .inl h
  ·exact .inr h
  ·exact absurd h (nn6 i y)
 refine ⟨⟨by simp,by simp [newE,rn0],rfl,rfl,fun i q h=>absurd h (nn6 i q),n06,by simp [newE],fun i q h=>absurd h (nn6 i q),fun i j q h=>absurd h (nn6 i q)⟩,rfl,rfl,rfl,rfl,by simp [rn0],fun h=>?_⟩
 rcases ho _ h with h | h <;> omega
theorem rq0 (k:Int) (p:Nat):RQ (rn0 k p):=by
 refine ⟨by simp [rn0],by simp [rn0],by simp [rn0],by simp [rn0],by simp [rn0],by simp [rn0],?_,?_,⟨by simp [rn0],by simp [rn0],by simp [rn0],by simp [rn0]⟩⟩
 ·intro t i h
  have:t=0 ∨ t=1 ∨ t=2 ∨ t=3 ∨ t=4 ∨ t=5 ∨ 6 ≤ t:=by omega
  rcases this with rfl | rfl | rfl | rfl | rfl | rfl | h6 <;> first | (simp [rn0] at h; done) | (simp only [rn0] at h; rw [List.getElem?_eq_none (by simpa using h6)] at h; cases h)
 ·intro t h
  have:t=0 ∨ t=1 ∨ t=2 ∨ t=3 ∨ t=4 ∨ t=5 ∨ 6 ≤ t:=by omega
  rcases this with rfl | rfl | rfl | rfl | rfl | rfl | h6 <;> first | rfl | (simp only [rn0] at h; rw [List.getElem?_eq_none (by simpa using h6)] at h; cases h)
theorem cps_eCll:∀ l:List Cll,D.cps (l.map eCll)=some (l.map eCll)
 | [] => rfl
 | c :: l=>by
  have e:D.cp (eCll c)=some (eCll c):=rfl
  simp only [List.map_cons,D.cps,e,cps_eCll l]
theorem c_history_CallsK (er rc : Nat) (cs : List Cll) (ats : List Nat) (sg : List (List D)) (hrc : sg[rc]? = some (eRec er cs ats)) (hcs : cs.length ≤ 1000) :
    ∃ K,(K=.x ∨ K=.o) ∧ LL.call n_history_Recorder_Calls [.p rc 0] sg sg.length=some (.l K 12 (cs.map eCll),sg,sg.length):=by
 simp [eRec] at hrc
 have hap:cs.length * 96 ≤ 140737488355328:=by omega
 have hz:D.fzs (cs.map eCll)=cs.map eCll:=fzs_flat eCll _
 first
 | (refine ⟨.x, .inl rfl, wp_call e_history_Recorder_Calls rfl ?_⟩
    simp [F_history_Recorder_Calls,hrc,hap,hz,cps_eCll]
    done)
 | (refine ⟨.o, .inr rfl, wp_call e_history_Recorder_Calls rfl ?_⟩
    simp [F_history_Recorder_Calls,hrc,hap,hz,cps_eCll]
    done)
end Go.AM

namespace Go.AM
def wAdd (a:Int) (c:Cll):Int:=if c.o.k=5 ∧ 0 ≤ c.e ∧ c.e < a then c.o.x.v else 0
def wCnt (a:Int) (c:Cll):Int:=if c.o.k=7 ∧ c.b ≤ a then 1 else 0
theorem addO_sum (a:Int):∀ (l:List Cll) (n:Int),addO a n l=n + (l.map (wAdd a)).sum
 | [],n=>by simp [addO]
 | c :: r,n=>by
  rw [addO,addO_sum a r,List.map_cons,List.sum_cons]
  unfold wAdd
  split <;> omega
theorem cntO_sum (a:Int):∀ (l:List Cll) (n:Int),cntO a n l=n + (l.map (wCnt a)).sum
 | [],n=>by simp [cntO]
 | c :: r,n=>by
  rw [cntO,cntO_sum a r,List.map_cons,List.sum_cons]
  unfold wCnt
  split <;> omega
theorem sum_set (w:Cll → Int):∀ (l:List Cll) (j:Nat) (c c':Cll),l[j]? = some c → ((l.set j c').map w).sum=(l.map w).sum - w c + w c'
 | [],j,c,c',h=>by simp at h
 | x :: r,0,c,c',h=>by simp at h; subst h; simp; omega
 | x :: r,j + 1,c,c',h=>by
  simp at h
  have:=sum_set w r j c c' h
  simp only [List.set_cons_succ,List.map_cons,List.sum_cons]
  omega
theorem sum_congr (w w':Cll → Int):∀ (l:List Cll),(∀ c ∈ l,w c=w' c) → (l.map w).sum=(l.map w').sum
 | [],_=>rfl
 | x :: r,h=>by
  simp only [List.map_cons,List.sum_cons]
  rw [h x (by simp),sum_congr w w' r (fun c hc=>h c (by simp [hc]))]
theorem dnS_congr {l l':List Cll}:∀ (n:Nat),(∀ i,i < n → enD l' i=enD l i) → dnS l' n=dnS l n
 | 0,_=>rfl
 | n + 1,h=>by
  rw [dnS,dnS,h n (by omega),dnS_congr n (fun i hi=>h i (by omega))]
  split
  ·unfold insE
   have hm:=fun j=>(dnS_mem l n j).1
   rw [h n (by omega)]
   congr 1
   ·exact List.filter_congr (fun j hj=>by rw [h j (by have:=hm j hj; omega)])
   ·congr 1
    exact List.filter_congr (fun j hj=>by rw [h j (by have:=hm j hj; omega)])
  ·rfl
theorem dnS_nodup (l:List Cll):∀ n,(dnS l n).Nodup
 | 0=>by simp [dnS]
 | n + 1=>by
  rw [dnS]
  split
  ·rw [(insE_perm l _ n).nodup_iff,List.nodup_cons]
   exact ⟨fun h=>by have:=(dnS_mem l n n).1 h; omega,dnS_nodup l n⟩
  ·exact dnS_nodup l n
theorem dnS_last {l l' : List Cll} {j : Nat} (hj : j < l.length) (hl : l'.length = l.length) (h0 : enD l j < 0) (h1 : ∀ i, i ≠ j → enD l' i = enD l i) (h2 : 0 ≤ enD l' j) (h3 : ∀ i, i < l.length → i ≠ j → enD l i < enD l' j)
    (h4:∀ a b,a < l.length → b < l.length → 0 ≤ enD l a → enD l a=enD l b → a=b):dnS l' l'.length=dnS l l.length ++ [j] := by
 have ms:=fun i=>dnS_mem l l.length i
 have ms':=fun i=>dnS_mem l' l'.length i
 have hjn:j ∉ dnS l l.length:=fun h=>by have:=(ms j).1 h; omega
 refine List.Perm.eq_of_pairwise (le:=fun a b=>enD l' a ≤ enD l' b) (fun a b ha hb e1 e2=>?_) (dnS_pw l' _) ?_ ?_
 ·have ha':=(ms' a).1 ha
  rw [List.mem_append,ms,List.mem_singleton] at hb
  have e:enD l' a=enD l' b:=by omega
  rcases hb with hb | hb
  ·have hbj:b ≠ j:=by rintro rfl; omega
   by_cases haj:a=j
   ·subst haj
    have:=h3 b hb.1 hbj
    rw [h1 b hbj] at e
    omega
   ·rw [h1 a haj,h1 b hbj] at e
    exact h4 a b (by omega) hb.1 (by rw [e]; exact hb.2) e
  ·subst hb
   by_cases haj:a=b
   ·exact haj
   ·have:=h3 a (by omega) haj
    rw [h1 a haj] at e
    omega
 ·rw [List.pairwise_append]
  refine ⟨?_,by simp,fun a ha b hb=>?_⟩
  ·refine (dnS_pw l l.length).imp_of_mem (fun {a b} ha hb h=>?_)
   rw [h1 a (by rintro rfl; exact hjn ha),h1 b (by rintro rfl; exact hjn hb)]
   exact h
  ·simp at hb
   subst hb
   have haj:a ≠ b:=by rintro rfl; exact hjn ha
   have:=h3 a ((ms a).1 ha).1 haj
   rw [h1 a haj]
   omega
 ·refine (List.perm_ext_iff_of_nodup (dnS_nodup l' _) (List.nodup_append.2 ⟨dnS_nodup l _,by simp,fun a ha b hb=>?_⟩)).2 (fun i=>?_)
  ·simp at hb
   subst hb
   rintro rfl
   exact hjn ha
  ·rw [ms',List.mem_append,ms,List.mem_singleton]
   by_cases e:i=j
   ·subst e
    exact ⟨fun _=>.inr rfl,fun _=>⟨by omega,h2⟩⟩
   ·rw [h1 i e,hl]
    exact ⟨fun h=>.inl h,fun h=>h.resolve_right e⟩
theorem numsD_congr {l l':List Cll} (dk:List Nat) (h:∀ j ∈ dk,l'[j]? = l[j]?):numsD l' dk=numsD l dk:=by
 induction dk with
 | nil=>rfl
 | cons j r ih =>
  have e:=ih (fun i hi=>h i (by simp [hi]))
  unfold numsD at e ⊢
  rw [List.filterMap_cons,List.filterMap_cons,h j (by simp),e]
theorem runL_congr {n0 p:Int} {l l':List Cll}:∀ (r:List Nat) (v:Vl) (dk:List Nat),(∀ j ∈ dk ++ r,l'[j]? = l[j]?) → (∀ j ∈ r,∀ c,l[j]? = some c → ∀ N,mayO n0 l' N c=mayO n0 l N c) → runL n0 p l' v dk r=runL n0 p l v dk r
 | [],_,_,_,_=>rfl
 | j :: r,v,dk,h,hm=>by
  rw [runL,runL,h j (by simp)]
  cases hc:l[j]? with
  | none=>rfl
  | some c =>
   simp only
   rw [numsD_congr dk (fun i hi=>h i (by simp [hi])),hm j (by simp) c hc]
   rw [runL_congr r _ (dk ++ [j]) (fun i hi=>h i (by simpa using hi)) (fun i hi=>hm i (by simp [hi]))]
theorem runL_app {n0 p:Int} {l:List Cll}:∀ (r s:List Nat) (v w:Vl) (dk:List Nat),(∀ j ∈ r,j < l.length) → runL n0 p l v dk r=(w,-1) → runL n0 p l v dk (r ++ s)=runL n0 p l w (dk ++ r) s
 | [],s,v,w,dk,_,h=>by
  rw [runL] at h
  cases h
  simp
 | j :: r,s,v,w,dk,hj,h=>by
  rw [runL] at h
  rw [List.cons_append,runL]
  obtain ⟨c,hc⟩:∃ c,l[j]? = some c:=⟨_,List.getElem?_eq_getElem (hj j (by simp))⟩
  rw [hc] at h ⊢
  simp only at h ⊢
  split at h
  ·rename_i hg
   rw [if_pos hg]
   rw [runL_app r s _ w (dk ++ [j]) (fun i hi=>hj i (by simp [hi])) h]
   simp
  ·simp at h
theorem mayO_congr {n0:Int} {l l':List Cll} {c:Cll} (h1:(l'.map (wAdd c.b)).sum=(l.map (wAdd c.b)).sum) (h2:(l'.map (wAdd c.e)).sum=(l.map (wAdd c.e)).sum) (h3:(l'.map (wCnt c.e)).sum=(l.map (wCnt c.e)).sum) (N:List Int):mayO n0 l' N c=mayO n0 l N c:=by
 unfold mayO
 rw [addO_sum,addO_sum,addO_sum,addO_sum,cntO_sum,cntO_sum,h1,h2,h3]
structure LV (n0:Int) (v0:Vl) (x:RnS) (V:Vl):Prop where
 run:runL n0 x.p x.cs v0 [] (dnS x.cs x.cs.length)=(V,-1)
 fc:∀ (t:Nat) f,x.fs[t]? = some (some f) → ∃ j c,x.ats[t]? = some (j + 1) ∧ x.cs[j]? = some c ∧ c.e=-1 ∧ c.o=f.o
theorem RQ.ends {x:RnS} (h:RQ x) {i:Nat} {c:Cll} (hc:x.cs[i]? = some c):c.b ≤ x.st ∧ c.e < x.st ∧ -1 ≤ c.e:=by
 have:=h.b c (mem_of_get hc)
 omega
theorem pickE_cs {x : RnS} {n : Nat} {f : FrR} {j : Nat} {c : Cll} (h1 : x.ats[n]? = some (j + 1)) (h2 : x.cs[j]? = some c) :
    ((stepP x.k x.p x.M f).d=true → (pickE x n f).cs=x.cs.set j { c with e:=x.st,a:=(stepP x.k x.p x.M f).a } ∧ (pickE x n f).ats=x.ats.set n 0) ∧
    ((stepP x.k x.p x.M f).d=false → (pickE x n f).cs=x.cs ∧ (pickE x n f).ats=x.ats):=by
 refine ⟨fun hd=>?_,fun hd=>?_⟩
 ·unfold pickE recC
  simp only [h1,hd]
  rw [if_pos ⟨trivial,by omega⟩,show j + 1 - 1=j by omega,h2]
  exact ⟨rfl,rfl⟩
 ·unfold pickE recC
  simp only [h1,hd]
  rw [if_neg (by simp)]
  exact ⟨rfl,rfl⟩
theorem w_set {x : RnS} (hQ : RQ x) {j : Nat} {c : Cll} (hc : x.cs[j]? = some c) (he : c.e = -1) (a : An) {t : Int} (ht : t ≤ x.st) :
    ((x.cs.set j { c with e:=x.st,a:=a }).map (wAdd t)).sum=(x.cs.map (wAdd t)).sum ∧ ∀ u:Int,((x.cs.set j { c with e:=x.st,a:=a }).map (wCnt u)).sum=(x.cs.map (wCnt u)).sum:=by
 refine ⟨?_,fun u=>?_⟩
 ·rw [sum_set _ _ _ _ _ hc]
  have e1:wAdd t c=0:=by unfold wAdd; rw [if_neg (by omega)]
  have e2:wAdd t { c with e:=x.st,a:=a } = 0:=by unfold wAdd; rw [if_neg (by simp only; omega)]
  omega
 ·rw [sum_set _ _ _ _ _ hc]
  have e1:wCnt u { c with e:=x.st,a:=a } = wCnt u c:=rfl
  omega
theorem LV.done {n0 v0 x V} (h : LV n0 v0 x V) (hQ : RQ x) {n : Nat} {f : FrR} (hf : x.fs[n]? = some (some f)) (hd : (stepP x.k x.p x.M f).d = true) {j : Nat} {c : Cll} (h1 : x.ats[n]? = some (j + 1)) (h2 : x.cs[j]? = some c) (h3 : c.e = -1) {V' : Vl}
    (hA:aftV V c.o.k c.o.x (stepP x.k x.p x.M f).a.ok (stepP x.k x.p x.M f).a.x x.p=(V',true)) (hm:mayO n0 x.cs (numsD x.cs (dnS x.cs x.cs.length)) { c with e:=x.st,a:=(stepP x.k x.p x.M f).a } = true) :
    LV n0 v0 (pickE x n f) V' ∧ dnS (pickE x n f).cs (pickE x n f).cs.length=dnS x.cs x.cs.length ++ [j] := by
 obtain ⟨e1,e2⟩:=(pickE_cs h1 h2).1 hd
 have ep:(pickE x n f).p=x.p:=rfl
 have ef:(pickE x n f).fs=x.fs.set n (if (stepP x.k x.p x.M f).d then none else some (stepP x.k x.p x.M f).f):=rfl
 rw [hd,if_pos rfl] at ef
 have hjl:=(List.getElem?_eq_some_iff.1 h2).1
 generalize stepP x.k x.p x.M f=so at *
 generalize pickE x n f=y at *
 obtain ⟨c',hc'⟩:∃ c',c'={ c with e:=(x.st:Int),a:=so.a }:=⟨_,rfl⟩
 rw [← hc'] at e1 hm
 have gj:y.cs[j]? = some c':=by rw [e1,List.getElem?_set_self hjl]
 have gi:∀ i,i ≠ j → y.cs[i]? = x.cs[i]? := fun i hi=>by rw [e1,List.getElem?_set_ne (Ne.symm hi)]
 have en0:enD x.cs j=-1:=by simp [enD,h2,h3]
 have en1:enD y.cs j=x.st:=by simp [enD,gj,hc']
 have eni:∀ i,i ≠ j → enD y.cs i=enD x.cs i:=fun i hi=>by simp [enD,gi i hi]
 have hlen:y.cs.length=x.cs.length:=by rw [e1]; simp
 have dl:dnS y.cs y.cs.length=dnS x.cs x.cs.length ++ [j] := by
  refine dnS_last hjl hlen (by omega) eni (by omega) (fun i hi hij=>?_) (fun a b ha hb h0 hab=>?_)
  ·rw [en1]
   obtain ⟨d,hd2⟩:∃ d,x.cs[i]? = some d:=⟨_,List.getElem?_eq_getElem hi⟩
   have:=hQ.ends hd2
   simp [enD,hd2]; omega
  ·obtain ⟨d,hd2⟩:∃ d,x.cs[a]? = some d:=⟨_,List.getElem?_eq_getElem ha⟩
   obtain ⟨e,he2⟩:∃ e,x.cs[b]? = some e:=⟨_,List.getElem?_eq_getElem hb⟩
   simp [enD,hd2] at h0
   simp [enD,hd2,he2] at hab
   rcases Nat.lt_trichotomy a b with h | h | h
   ·exact absurd hab (hQ.e a b d e h hd2 he2 h0 (by omega))
   ·exact h
   ·exact absurd hab.symm (hQ.e b a e d h he2 hd2 (by omega) h0)
 have mem:=fun i=>(dnS_mem x.cs x.cs.length i).1
 have hnj:∀ i ∈ dnS x.cs x.cs.length,i ≠ j:=fun i hi hij=>by subst hij; have:=mem i hi; omega
 have wmay:∀ d:Cll,d.b ≤ x.st → d.e ≤ x.st → ∀ N,mayO n0 y.cs N d=mayO n0 x.cs N d:=fun d hb he N=>by
  rw [e1,hc']
  exact mayO_congr (w_set hQ h2 h3 so.a hb).1 (w_set hQ h2 h3 so.a he).1 ((w_set hQ h2 h3 so.a he).2 _) N
 have rc:runL n0 y.p y.cs v0 [] (dnS x.cs x.cs.length)=(V,-1):=by
  rw [ep,runL_congr (l:=x.cs) _ _ _ (fun i hi=>gi i (hnj i (by simpa using hi))) (fun i hi d hd2 N=>?_)]
  ·exact h.run
  ·have:=hQ.ends hd2
   exact wmay d (by omega) (by omega) N
 refine ⟨⟨?_,fun t g hg=>?_⟩,dl⟩
 ·rw [dl,runL_app _ _ _ _ _ (fun i hi=>by have:=mem i hi; omega) rc,runL,gj]
  simp only [List.nil_append]
  have hcb:=(hQ.ends h2).1
  have e3:mayO n0 y.cs (numsD y.cs (dnS x.cs x.cs.length)) c'=true:=by
   rw [numsD_congr (l:=x.cs) _ (fun i hi=>gi i (hnj i hi)),wmay c' (by rw [hc']; exact hcb) (by rw [hc']; exact Int.le_refl _)]
   exact hm
  have e4:aftV V c'.o.k c'.o.x c'.a.ok c'.a.x y.p=(V',true):=by rw [hc',ep]; exact hA
  rw [e4,if_pos ⟨rfl,e3⟩,runL]
 ·rw [ef,List.getElem?_set] at hg
  split at hg
  ·split at hg <;> cases hg
  ·rename_i htn
   obtain ⟨i,d,i1,i2,i3,i4⟩:=h.fc t g hg
   have hij:i ≠ j:=by
    rintro rfl
    rw [h2] at i2
    cases i2
    obtain ⟨d1,k1,_,k3⟩:=hQ.u t i i1
    obtain ⟨d2,l1,_,l3⟩:=hQ.u n i h1
    rw [k1] at l1
    cases l1
    exact htn (l3.symm.trans k3)
   exact ⟨i,d,by rw [e2,List.getElem?_set_ne htn]; exact i1,by rw [gi i hij]; exact i2,i3,i4⟩
theorem LV.goes {n0 v0 x V} (h:LV n0 v0 x V) {n:Nat} {f:FrR} (hf:x.fs[n]? = some (some f)) (hd:(stepP x.k x.p x.M f).d=false) (ho:(stepP x.k x.p x.M f).f.o=f.o):LV n0 v0 (pickE x n f) V:=by
 obtain ⟨j,c,h1,h2,h3,h4⟩:=h.fc n f hf
 obtain ⟨e1,e2⟩:=(pickE_cs h1 h2).2 hd
 have ep:(pickE x n f).p=x.p:=rfl
 have ef:(pickE x n f).fs=x.fs.set n (if (stepP x.k x.p x.M f).d then none else some (stepP x.k x.p x.M f).f):=rfl
 rw [hd] at ef
 simp only [Bool.false_eq_true,if_false] at ef
 refine ⟨by rw [e1,ep]; exact h.run,fun t g hg=>?_⟩
 rw [ef,List.getElem?_set] at hg
 rw [e1,e2]
 split at hg
 ·rename_i htn
  subst htn
  split at hg
  ·injection hg with hg
   injection hg with hg
   subst hg
   exact ⟨j,c,h1,h2,h3,h4.trans ho.symm⟩
  ·cases hg
 ·exact h.fc t g hg
theorem step_op {k:Int} {p:Nat} {M:Mem} {f:FrR}:(stepP k p M f).f.o=f.o:=by
 unfold stepP
 split
 ·unfold multiP insP delP delW
  repeat' split
  all_goals rfl
 ·split
  ·unfold kfifoP enqP deqP lookP
   repeat' split
   all_goals rfl
  ·split
   ·unfold tallyP
    repeat' split
    all_goals rfl
   ·unfold netP
    simp only
    repeat' split
    all_goals rfl
theorem LV.beg {n0 v0 x V} (h:LV n0 v0 x V) (hQ:RQ x) (ha:x.ats.length=6) (hf6:x.fs.length=6) (t:Int) (o:Rw):LV n0 v0 (begN x t o).1 V:=by
 unfold begN
 split
 ·rename_i hb
  have gi:∀ i,i < x.cs.length → (x.cs ++ [⟨t.toNat,o,x.st,-1,noA⟩])[i]? = x.cs[i]? := fun i hi=>List.getElem?_append_left hi
  have mem:=fun i=>(dnS_mem x.cs x.cs.length i).1
  refine ⟨?_,fun u g hg=>?_⟩
  ·simp only
   have e0:enD (x.cs ++ [⟨t.toNat,o,x.st,-1,noA⟩]) x.cs.length=-1:=by simp [enD]
   rw [List.length_append,List.length_singleton,dnS,if_neg (by omega),dnS_congr (l:=x.cs) _ (fun i hi=>by simp [enD,gi i hi]),runL_congr (l:=x.cs) _ _ _ (fun i hi=>gi i (mem i (by simpa using hi)).1) (fun i hi d hd N=>?_)]
   ·exact h.run
   ·have hd2:=hQ.ends hd
    have hdn:=(mem i hi).2
    simp [enD,hd] at hdn
    refine mayO_congr ?_ ?_ ?_ N
    ·simp [wAdd]
    ·simp [wAdd]
    ·have:¬ (x.st:Int) ≤ d.e:=by omega
     simp [wCnt,this]
  ·simp only at hg ⊢
   rw [List.getElem?_set] at hg
   split at hg
   ·rename_i htu
    split at hg
    ·rename_i hlt
     injection hg with hg
     injection hg with hg
     subst hg
     refine ⟨x.cs.length,⟨t.toNat,o,x.st,-1,noA⟩,?_,by simp,rfl,rfl⟩
     rw [← htu,List.getElem?_set_self (by omega)]
    ·cases hg
   ·rename_i htu
    obtain ⟨j,c,h1,h2,h3,h4⟩:=h.fc u g hg
    exact ⟨j,c,by rw [List.getElem?_set_ne htu]; exact h1,by rw [gi j (List.getElem?_eq_some_iff.1 h2).1]; exact h2,h3,h4⟩
 ·exact h
end Go.AM

namespace Go.AM
structure KA1 (x:RnS) (V:Vl):Prop where
 v:V=ofM 1 x.p x.M
 rf:∀ (t:Nat) f,x.fs[t]? = some (some f) → RF x.p x.M f
structure KA2 (x:RnS) (V:Vl):Prop where
 k:V.k=2
 n:V.n=0
 kv:KV x.p x.M
 qf:∀ (t:Nat) f,x.fs[t]? = some (some f) → QF x.p x.M f
 ls:∃ Ls,LQ x.p x.M Ls ∧ V.is=Ls.flatten
structure KA3 (n0:Int) (x:RnS) (V:Vl):Prop where
 v:V=ofM 3 x.p x.M
 rf:∀ (t:Nat) f,x.fs[t]? = some (some f) → RF x.p x.M f
 add:n0 + (x.cs.map (wAdd x.st)).sum=sumM x.M 0 x.p
 sum:∀ (t:Nat) f,x.fs[t]? = some (some f) → f.o.k=6 → 0 ≤ f.at_ ∧ f.at_ < x.p ∧ f.tot ≤ sumM x.M 0 f.at_.toNat ∧
  ∀ j c,x.ats[t]? = some (j + 1) → x.cs[j]? = some c → n0 + (x.cs.map (wAdd c.b)).sum ≤ f.tot + sumM x.M f.at_.toNat (x.p - f.at_.toNat)
structure KA4 (n0:Int) (x:RnS) (V:Vl):Prop where
 v:V=ofM 4 x.p x.M
 nv:∃ c0,NV x.p x.M x.fs c0 ∧ sumF c0 0 x.p=n0 + (x.cs.map (wCnt x.st)).sum
 lo:∀ q:Nat,q < x.p → n0 ≤ q + x.p * (rdM x.M ((gatesN x.p).length + q:Nat)).n
 num:∀ n ∈ numsD x.cs (dnS x.cs x.cs.length),∃ q:Nat,∃ m:Int,q < x.p ∧ n=q + x.p * m ∧ m < (rdM x.M ((gatesN x.p).length + q:Nat)).n
def KA (n0:Int) (x:RnS) (V:Vl):Prop:=(x.k=1 ∧ KA1 x V) ∨ (x.k=2 ∧ KA2 x V) ∨ (x.k=3 ∧ KA3 n0 x V) ∨ (x.k=4 ∧ KA4 n0 x V)
theorem may_12 {n0:Int} {l:List Cll} {N:List Int} {c:Cll} (h:c.o.k ≠ 6 ∧ c.o.k ≠ 7):mayO n0 l N c=true:=by
 unfold mayO
 rw [if_neg h.1,if_neg h.2]
theorem lin_vs {n0 v0 x V} (hQ : RQ x) (h : LV n0 v0 x V) {n : Nat} {f : FrR} (hf : x.fs[n]? = some (some f)) (hv : V = ofM x.k x.p x.M) (hr : ∀ (t : Nat) f, x.fs[t]? = some (some f) → RF x.p x.M f) (S : VS x.k x.p x.M f (stepP x.k x.p x.M f))
    (hm:(stepP x.k x.p x.M f).d=true → ∀ j c,x.ats[n]? = some (j + 1) → x.cs[j]? = some c → c.o=f.o → mayO n0 x.cs (numsD x.cs (dnS x.cs x.cs.length)) { c with e:=x.st,a:=(stepP x.k x.p x.M f).a } = true) :
    LV n0 v0 (pickE x n f) (ofM x.k x.p (stepP x.k x.p x.M f).m) ∧ ∀ (t:Nat) g,(pickE x n f).fs[t]? = some (some g) → RF x.p (stepP x.k x.p x.M f).m g:=by
 obtain ⟨j,c,h1,h2,h3,h4⟩:=h.fc n f hf
 refine ⟨?_,?_⟩
 ·cases hd:(stepP x.k x.p x.M f).d with
  | false =>
   rw [S.nd hd,← hv]
   exact h.goes hf hd step_op
  | true =>
   have hA:=S.dn hd
   rw [← hv,← h4] at hA
   exact (h.done hQ hf hd h1 h2 h3 hA (hm hd j c h1 h2 h4)).1
 ·have ef:(pickE x n f).fs=x.fs.set n (if (stepP x.k x.p x.M f).d then none else some (stepP x.k x.p x.M f).f):=rfl
  rw [ef]
  refine setN (P:=fun g=>RF x.p (stepP x.k x.p x.M f).m g) (fun t g hg=>(hr t g hg).keep S.old) (fun g hg=>?_)
  split at hg
  ·cases hg
  ·rename_i hd
   injection hg with hg
   subst hg
   exact S.rf (by simpa using hd)
theorem sumM_le {M M':Mem} {a:Nat}:∀ {p:Nat},(∀ j:Nat,(rdM M (j:Nat)).n ≤ (rdM M' (j:Nat)).n) → sumM M a p ≤ sumM M' a p
 | 0,_=>Int.le_refl _
 | p + 1,h=>by
  rw [sumM,sumM]
  have:=sumM_le (a:=a) (p:=p) h
  have:=h (a + p)
  omega
theorem sumM_add (M:Mem) (a m:Nat):∀ n,sumM M a (m + n)=sumM M a m + sumM M (a + m) n
 | 0=>by simp [sumM]
 | n + 1=>by
  rw [← Nat.add_assoc,sumM,sumM,sumM_add M a m n,Nat.add_assoc a m n]
  omega
theorem lin_1 {i n0 v0 x V} (hI:RI i x) (hQ:RQ x) (h:LV n0 v0 x V) (hk:x.k=1) (K:KA1 x V) {n:Nat} {f:FrR} (hf:x.fs[n]? = some (some f)):∃ V',LV n0 v0 (pickE x n f) V' ∧ KA n0 (pickE x n f) V':=by
 have hl:=hI.leg
 have hp:1 ≤ x.p ∧ x.p ≤ 16:=by have:=legal_p hl; omega
 have hM:=hI.mi
 have hF:=hI.fi n f hf
 rw [hk] at hM hF
 have S:VS x.k x.p x.M f (stepP x.k x.p x.M f):=by
  rw [hk]
  unfold stepP
  rw [if_pos rfl]
  unfold multiP
  rcases hF.kd with ⟨_,h1 | h1⟩ | ⟨h1,_⟩ | ⟨h1,_⟩ | ⟨h1,_⟩
  ·rw [if_pos h1]; exact vs_ins hp hM hF (K.rf n f hf) h1
  ·rw [if_neg (by omega)]; exact vs_del hp hM hF (K.rf n f hf) h1
  ·omega
  ·omega
  ·omega
 have hfk:f.o.k=1 ∨ f.o.k=2:=by have:=hF.kd; omega
 obtain ⟨L,R⟩:=lin_vs hQ h hf (by rw [hk]; exact K.v) K.rf S (fun _ j c _ _ h4=>may_12 (by simp only [h4]; omega))
 have ek:(pickE x n f).k=x.k:=rfl
 refine ⟨_,L,.inl ⟨by rw [ek,hk],⟨by show ofM x.k x.p (stepP x.k x.p x.M f).m=ofM 1 x.p (stepP x.k x.p x.M f).m; rw [hk],R⟩⟩⟩
theorem lin_3 {i n0 v0 x V} (hI:RI i x) (hi:i ≤ 5000) (hQ:RQ x) (h:LV n0 v0 x V) (hk:x.k=3) (K:KA3 n0 x V) {n:Nat} {f:FrR} (hf:x.fs[n]? = some (some f)):∃ V',LV n0 v0 (pickE x n f) V' ∧ KA n0 (pickE x n f) V':=by
 have hl:=hI.leg
 have hp:1 ≤ x.p ∧ x.p ≤ 16:=by have:=legal_p hl; omega
 have hM:=hI.mi
 have hF:=hI.fi n f hf
 rw [hk] at hM hF
 have hfk:f.o.k=6 ∨ (f.o.k=5 ∧ 0 ≤ f.o.x.v):=by have:=hF.kd; omega
 have hst:stepP x.k x.p x.M f=tallyP x.p x.M f:=by rw [hk]; unfold stepP; rw [if_neg (by omega),if_neg (by omega),if_pos rfl]
 have S3:VS 3 x.p x.M f (tallyP x.p x.M f):=vs_tally hp hM hF (K.rf n f hf) (by omega)
 have S:VS x.k x.p x.M f (stepP x.k x.p x.M f):=by rw [hst,hk]; exact S3
 obtain ⟨j,c,h1,h2,h3,h4⟩:=h.fc n f hf
 have hcb:=(hQ.ends h2).1
 have hsum:f.o.k=6 → (tallyP x.p x.M f).d=true → (tallyP x.p x.M f).m=x.M ∧ n0 + (x.cs.map (wAdd c.b)).sum ≤ (tallyP x.p x.M f).a.n ∧ (tallyP x.p x.M f).a.n ≤ sumM x.M 0 x.p:=by
  intro h6 hd
  obtain ⟨a1,a2,a3,a4⟩:=K.sum n f hf h6
  have a4:=a4 j c h1 h2
  unfold tallyP at hd ⊢
  rw [if_pos h6] at hd ⊢
  obtain ⟨a,ha⟩:∃ a:Nat,f.at_=a:=⟨f.at_.toNat,by omega⟩
  rw [ha] at hd a2 a3 a4 ⊢
  rw [Int.toNat_natCast] at a3 a4
  split at hd
  ·simp at hd
  ·rename_i hlt
   rw [if_neg hlt]
   have e:x.p=a + 1:=by omega
   have e1:x.p - a=1:=by omega
   rw [e1,sumM,sumM] at a4
   refine ⟨rfl,?_,?_⟩
   ·simp only; simpa using a4
   ·simp only
    rw [e,sumM]
    have e2:((0 + a:Nat):Int)=a:=by omega
    rw [e2]
    omega
 have hm:(stepP x.k x.p x.M f).d=true → ∀ j c,x.ats[n]? = some (j + 1) → x.cs[j]? = some c → c.o=f.o → mayO n0 x.cs (numsD x.cs (dnS x.cs x.cs.length)) { c with e:=x.st,a:=(stepP x.k x.p x.M f).a } = true:=by
  intro hd j' c' g1 g2 g4
  rw [h1] at g1
  injection g1 with g1
  have:j'=j:=by omega
  subst this
  rw [h2] at g2
  cases g2
  by_cases h6:f.o.k=6
  ·rw [hst] at hd ⊢
   obtain ⟨_,s1,s2⟩:=hsum h6 hd
   unfold mayO
   simp only [h4,h6,if_true]
   rw [addO_sum,addO_sum]
   have:=K.add
   simp only [decide_eq_true_eq]
   omega
  ·exact may_12 (by simp only [h4]; omega)
 obtain ⟨L,R⟩:=lin_vs hQ h hf (by rw [hk]; exact K.v) K.rf S hm
 have ek:(pickE x n f).k=x.k:=rfl
 refine ⟨_,L,.inr (.inr (.inl ⟨by rw [ek,hk],⟨by show ofM x.k x.p (stepP x.k x.p x.M f).m=ofM 3 x.p (stepP x.k x.p x.M f).m; rw [hk],R,?_,?_⟩⟩))⟩
 ·have es : ((pickE x n f).st : Int) = x.st + 1 := by have : (pickE x n f).st = x.st + 1 := rfl
                                                      omega
  have em:(pickE x n f).M=(stepP x.k x.p x.M f).m:=rfl
  have ep:(pickE x n f).p=x.p:=rfl
  have hw:∀ d ∈ x.cs,wAdd (x.st + 1) d=wAdd x.st d:=by
   intro d hd
   have:=(hQ.b d hd).2.2
   unfold wAdd
   by_cases e5:d.o.k=5 ∧ 0 ≤ d.e
   ·rw [if_pos (by omega),if_pos (by omega)]
   ·rw [if_neg (by omega),if_neg (by omega)]
  have hws:=sum_congr _ _ x.cs hw
  have hA:=K.add
  rw [es,em,ep]
  cases hd:(stepP x.k x.p x.M f).d with
  | false =>
   rw [((pickE_cs h1 h2).2 hd).1,hws,hA]
   have e:=S3.nd (by rw [← hst]; exact hd)
   rw [of3,of3] at e
   injection e with _ _ e
   rw [hst]; exact e.symm
  | true =>
   rw [((pickE_cs h1 h2).1 hd).1,sum_set _ _ _ _ _ h2,hws,hst]
   have w0:wAdd (x.st + 1) c=0:=by unfold wAdd; rw [if_neg (by omega)]
   have e:=S3.dn (by rw [← hst]; exact hd)
   rw [of3,of3] at e
   rcases hfk with h6 | ⟨h5,hv0⟩
   ·have w1:wAdd (x.st + 1) { c with e:=(x.st:Int),a:=(tallyP x.p x.M f).a } = 0:=by unfold wAdd; rw [if_neg (by simp only [h4]; omega)]
    have:=(hsum h6 (by rw [← hst]; exact hd)).1
    rw [this]
    omega
   ·have w1:wAdd (x.st + 1) { c with e:=(x.st:Int),a:=(tallyP x.p x.M f).a } = f.o.x.v:=by unfold wAdd; rw [if_pos (by simp only [h4]; omega)]; simp only [h4]
    have hok:(tallyP x.p x.M f).a.ok=true:=by
     rw [hst] at hd
     unfold tallyP at hd ⊢
     rw [if_neg (by omega)] at hd ⊢
     split at hd
     ·simp at hd
     ·rename_i h0
      rw [if_neg h0]
      split at hd
      ·rename_i hw2; rw [if_pos hw2]
      ·simp at hd
    rw [hok] at e
    unfold aftV at e
    rw [if_neg (by simp),if_neg (by omega),if_neg (by omega),if_neg (by omega),if_neg (by omega),if_pos h5] at e
    injection e with e _
    injection e with _ _ e
    simp only at e
    omega
 ·have em:(pickE x n f).M=(stepP x.k x.p x.M f).m:=rfl
  have ep:(pickE x n f).p=x.p:=rfl
  have ef:(pickE x n f).fs=x.fs.set n (if (stepP x.k x.p x.M f).d then none else some (stepP x.k x.p x.M f).f):=rfl
  have hmono:∀ a:Nat,(rdM x.M (a:Nat)).n ≤ (rdM (stepP x.k x.p x.M f).m (a:Nat)).n:=by
   intro a
   rw [hst]
   unfold tallyP
   repeat' split
   all_goals try exact Int.le_refl _
   rename_i h6 h0 hw
   obtain ⟨w1,w2⟩:=wr_fresh hw
   have h5:f.o.k=5:=by omega
   have r1:=((K.rf n f hf).a (.inr (.inr h5)) h0).2 w2
   simp only
   rw [wrM_t hw,rdM_putM]
   split
   ·rename_i e
    have e2:into f.o.a x.p=(a:Int):=by omega
    rw [e2] at r1
    simp only
    omega
   ·exact Int.le_refl _
  have hbeg : ∀ {t : Nat} {g : FrR} {j' : Nat} {d : Cll}, x.fs[t]? = some (some g) → (pickE x n f).ats[t]? = some (j' + 1) → (pickE x n f).cs[j']? = some d → (t = n → (stepP x.k x.p x.M f).d = false) → x.ats[t]? = some (j' + 1) ∧ (∃ d0, x.cs[j']? = some d0 ∧ d0.b = d.b) ∧
      ((pickE x n f).cs.map (wAdd d.b)).sum=(x.cs.map (wAdd d.b)).sum:=by
   intro t g j' d hg ga gd hnd
   cases hd:(stepP x.k x.p x.M f).d with
   | false =>
    obtain ⟨c1,c2⟩:=(pickE_cs h1 h2).2 hd
    rw [c1] at gd ⊢
    rw [c2] at ga
    exact ⟨ga,⟨d,gd,rfl⟩,rfl⟩
   | true =>
    obtain ⟨c1,c2⟩:=(pickE_cs h1 h2).1 hd
    have htn:n ≠ t:=fun e=>by have:=hnd e.symm; rw [hd] at this; cases this
    rw [c2,List.getElem?_set_ne htn] at ga
    have hjj:j ≠ j':=by
     rintro rfl
     obtain ⟨d1,k1,_,k3⟩:=hQ.u t j ga
     obtain ⟨d2,l1,_,l3⟩:=hQ.u n j h1
     rw [k1] at l1
     cases l1
     exact htn (l3.symm.trans k3)
    rw [c1,List.getElem?_set_ne hjj] at gd
    rw [c1]
    exact ⟨ga,⟨d,gd,rfl⟩,(w_set hQ h2 h3 _ (hQ.ends gd).1).1⟩
  intro t g hg hg6
  rw [ef,List.getElem?_set] at hg
  rw [em,ep]
  split at hg
  ·rename_i htn
   subst htn
   split at hg
   ·injection hg with hg
    cases hd:(stepP x.k x.p x.M f).d with
    | true=>rw [hd,if_pos rfl] at hg; cases hg
    | false =>
     rw [hd] at hg
     simp only [Bool.false_eq_true,if_false] at hg
     injection hg with hg
     have h6:f.o.k=6:=by rw [← hg,step_op] at hg6; exact hg6
     obtain ⟨a1,a2,a3,a4⟩:=K.sum n f hf h6
     rw [hst] at hd hg ⊢
     unfold tallyP at hd hg ⊢
     rw [if_pos h6] at hd hg ⊢
     split at hd
     ·rename_i hlt
      rw [if_pos hlt] at hg ⊢
      subst hg
      simp only
      obtain ⟨a,ha⟩:∃ a:Nat,f.at_=a:=⟨f.at_.toNat,by omega⟩
      rw [ha] at hlt a2 a3 a4 ⊢
      rw [Int.toNat_natCast] at a3 a4
      have et:((a:Int) + 1).toNat=a + 1:=by omega
      rw [et]
      refine ⟨by omega,by omega,?_,fun j' d ga gd=>?_⟩
      ·rw [sumM]
       have e2:((0 + a:Nat):Int)=a:=by omega
       rw [e2]
       omega
      ·obtain ⟨b1,⟨d0,b2,b3⟩,b4⟩:=hbeg hf ga gd (fun _=>by rw [hst]; unfold tallyP; rw [if_pos h6,ha,if_pos hlt])
       have:=a4 j' d0 b1 b2
       rw [b3] at this
       rw [b4]
       have e3:x.p - a=1 + (x.p - (a + 1)):=by omega
       rw [e3,sumM_add] at this
       have e4:sumM x.M a 1=(rdM x.M (a:Nat)).n:=by rw [sumM,sumM]; simp
       omega
     ·simp at hd
   ·cases hg
  ·rename_i htn
   obtain ⟨a1,a2,a3,a4⟩:=K.sum t g hg hg6
   refine ⟨a1,a2,Int.le_trans a3 (sumM_le hmono),fun j' d ga gd=>?_⟩
   obtain ⟨b1,⟨d0,b2,b3⟩,b4⟩:=hbeg hg ga gd (fun e=>absurd e.symm htn)
   have:=a4 j' d0 b1 b2
   rw [b3] at this
   rw [b4]
   have:=sumM_le (a:=g.at_.toNat) (p:=x.p - g.at_.toNat) hmono
   omega
end Go.AM

namespace Go.AM
theorem lin_2 {i n0 v0 x V} (hI:RI i x) (hQ:RQ x) (h:LV n0 v0 x V) (hk:x.k=2) (K:KA2 x V) {n:Nat} {f:FrR} (hf:x.fs[n]? = some (some f)):∃ V',LV n0 v0 (pickE x n f) V' ∧ KA n0 (pickE x n f) V':=by
 have hl:=hI.leg
 have hp:1 ≤ x.p ∧ x.p ≤ 16:=by have:=legal_p hl; omega
 have hF:=hI.fi n f hf
 rw [hk] at hF
 have hfk:f.o.k=3 ∨ f.o.k=4:=by have:=hF.kd; omega
 have hst:stepP x.k x.p x.M f=kfifoP x.p x.M f:=by rw [hk]; unfold stepP; rw [if_neg (by omega),if_pos rfl]
 have S:QS x.p x.M f (stepP x.k x.p x.M f):=by
  rw [hst]
  unfold kfifoP
  rcases hfk with h3 | h4
  ·rw [if_pos h3]; exact qs_enq hp.1 K.kv (K.qf n f hf) (hF.enq h3) h3
  ·rw [if_neg (by omega)]; exact qs_deq hp.1 K.kv (K.qf n f hf) (by have:=hF.deq h4; omega) h4
 obtain ⟨j,c,h1,h2,h3,h4⟩:=h.fc n f hf
 obtain ⟨Ls,l1,l2⟩:=K.ls
 obtain ⟨Ls',m1,m2,m3,m4⟩:=S.ls Ls l1
 have ek:(pickE x n f).k=x.k:=rfl
 have em:(pickE x n f).M=(stepP x.k x.p x.M f).m:=rfl
 have ep:(pickE x n f).p=x.p:=rfl
 have ef:(pickE x n f).fs=x.fs.set n (if (stepP x.k x.p x.M f).d then none else some (stepP x.k x.p x.M f).f):=rfl
 have Q:∀ (t:Nat) g,(pickE x n f).fs[t]? = some (some g) → QF x.p (stepP x.k x.p x.M f).m g:=by
  rw [ef]
  refine setN (P:=fun g=>QF x.p (stepP x.k x.p x.M f).m g) (fun t g hg=>(K.qf t g hg).keep hp.1 S.tr) (fun g hg=>?_)
  split at hg
  ·cases hg
  ·rename_i hd
   injection hg with hg
   subst hg
   exact S.qf (by simpa using hd)
 have fin:∀ V':Vl,V'.k=2 → V'.n=0 → V'.is=Ls'.flatten → KA n0 (pickE x n f) V':=fun V' e1 e2 e3=>.inr (.inl ⟨by rw [ek,hk],⟨e1,e2,by rw [ep,em]; exact S.kv,by rw [ep,em]; exact Q,⟨Ls',by rw [ep,em]; exact m1,e3⟩⟩⟩)
 cases hd:(stepP x.k x.p x.M f).d with
 | false=>exact ⟨V,h.goes hf hd step_op,fin V K.k K.n (by rw [l2,m2 hd])⟩
 | true =>
  have hm:mayO n0 x.cs (numsD x.cs (dnS x.cs x.cs.length)) { c with e:=(x.st:Int),a:=(stepP x.k x.p x.M f).a } = true:=may_12 (by simp only [h4]; omega)
  cases hok:(stepP x.k x.p x.M f).a.ok with
  | false =>
   have hA:aftV V c.o.k c.o.x (stepP x.k x.p x.M f).a.ok (stepP x.k x.p x.M f).a.x x.p=(V,true):=by
    unfold aftV
    rw [if_pos hok,h4]
    have:f.o.k ≤ 4:=by omega
    simp [this]
   refine ⟨V,(h.done hQ hf hd h1 h2 h3 hA hm).1,.inr (.inl ⟨by rw [ek,hk],⟨K.k,K.n,by rw [ep,em]; exact S.kv,by rw [ep,em]; exact Q,⟨Ls,by rw [ep,em,S.no hd hok]; exact l1,l2⟩⟩⟩)⟩
  | true =>
   rcases hfk with o3 | o4
   ·have hA:aftV V c.o.k c.o.x (stepP x.k x.p x.M f).a.ok (stepP x.k x.p x.M f).a.x x.p=(⟨V.k,V.is ++ [f.o.x.canon],V.n⟩,true):=by
     unfold aftV
     rw [hok,h4,if_neg (by simp),if_neg (by omega),if_pos o3]
    exact ⟨_,(h.done hQ hf hd h1 h2 h3 hA hm).1,fin _ K.k K.n (by rw [m3 hd hok o3,l2])⟩
   ·have hA:aftV V c.o.k c.o.x (stepP x.k x.p x.M f).a.ok (stepP x.k x.p x.M f).a.x x.p=(⟨V.k,Ls'.flatten,V.n⟩,true):=by
     have:=m4 hd hok o4
     rw [← l2] at this
     unfold aftV
     rw [hok,h4,if_neg (by simp),if_neg (by omega),if_neg (by omega),if_neg (by omega),if_pos o4,this]
    exact ⟨_,(h.done hQ hf hd h1 h2 h3 hA hm).1,fin _ K.k K.n rfl⟩
theorem of4 (p:Nat) (M:Mem):ofM 4 p M=⟨4,[],sumM M (gatesN p).length p⟩:=by unfold ofM; rw [if_neg (by omega),if_neg (by omega),if_neg (by omega)]
theorem two_q {p:Nat} {q q':Nat} {m m':Int} (hq:q < p) (hq':q' < p) (h:(q:Int) + p * m=q' + p * m'):q=q' ∧ m=m':=by
 have h1:((q:Int) + p * m) % p=q:=by rw [Int.add_mul_emod_self_left]; exact Int.emod_eq_of_lt (by omega) (by omega)
 have h2:((q':Int) + p * m') % p=q':=by rw [Int.add_mul_emod_self_left]; exact Int.emod_eq_of_lt (by omega) (by omega)
 have e:q=q':=by rw [h,h2] at h1; omega
 subst e
 refine ⟨rfl,?_⟩
 have h3:(p:Int) * m=p * m':=by omega
 exact Int.eq_of_mul_eq_mul_left (by omega) h3
theorem lin_4 {i n0 v0 x V} (hI:RI i x) (hi:i ≤ 5000) (hQ:RQ x) (h:LV n0 v0 x V) (hk:x.k=4) (K:KA4 n0 x V) {n:Nat} {f:FrR} (hf:x.fs[n]? = some (some f)):∃ V',LV n0 v0 (pickE x n f) V' ∧ KA n0 (pickE x n f) V':=by
 have hl:=hI.leg
 have hF:=hI.fi n f hf
 have hM:=hI.mi
 rw [hk] at hF hM
 have hw:widthN x.p:=legal_width (by rw [← hk]; exact hl)
 have hfk:f.o.k=7:=by have:=hF.kd; omega
 have hst:stepP x.k x.p x.M f=netP x.p x.M f:=by rw [hk]; unfold stepP; rw [if_neg (by omega),if_neg (by omega),if_neg (by omega)]
 obtain ⟨c0,nv,hc0⟩:=K.nv
 obtain ⟨s1,s2,s3⟩:=nv.step hw (fun i=>(hM.num i).1) hf
 rw [← hst] at s1 s2 s3
 obtain ⟨j,c,h1,h2,h3,h4⟩:=h.fc n f hf
 have ek:(pickE x n f).k=x.k:=rfl
 have em:(pickE x n f).M=(stepP x.k x.p x.M f).m:=rfl
 have ep:(pickE x n f).p=x.p:=rfl
 have ef:(pickE x n f).fs=x.fs.set n (if (stepP x.k x.p x.M f).d then none else some (stepP x.k x.p x.M f).f):=rfl
 have es:((pickE x n f).st:Int)=x.st + 1:=by
  have:(pickE x n f).st=x.st + 1:=rfl
  omega
 have hcnt:((pickE x n f).cs.map (wCnt (x.st + 1))).sum=(x.cs.map (wCnt x.st)).sum:=by
  have e0:(x.cs.map (wCnt (x.st + 1))).sum=(x.cs.map (wCnt x.st)).sum:=sum_congr _ _ _ (fun d hd=>by
   have:=(hQ.b d hd).2.1
   unfold wCnt
   by_cases e7:d.o.k=7
   ·rw [if_pos (by omega),if_pos (by omega)]
   ·rw [if_neg (by omega),if_neg (by omega)])
  cases hd:(stepP x.k x.p x.M f).d with
  | false=>rw [((pickE_cs h1 h2).2 hd).1]; exact e0
  | true=>rw [((pickE_cs h1 h2).1 hd).1,(w_set hQ h2 h3 _ (Int.le_refl _)).2]; exact e0
 have nv':∃ c0,NV x.p (stepP x.k x.p x.M f).m (pickE x n f).fs c0 ∧ sumF c0 0 x.p=n0 + ((pickE x n f).cs.map (wCnt (pickE x n f).st)).sum:=⟨c0,by rw [ef]; exact s1,by rw [es,hcnt]; exact hc0⟩
 cases hd:(stepP x.k x.p x.M f).d with
 | false =>
  have so:=s2 hd
  have hV:ofM 4 x.p (stepP x.k x.p x.M f).m=V:=by
   rw [K.v,of4,of4]
   congr 1
   exact sumM_congr (fun q hq=>by rw [so q hq])
  refine ⟨V,h.goes hf hd step_op,.inr (.inr (.inr ⟨by rw [ek,hk],⟨by rw [ep,em]; exact hV.symm,by rw [ep,em]; exact nv',fun q hq=>?_,fun m hm=>?_⟩⟩))⟩
  ·rw [ep] at hq ⊢
   rw [em,so q hq]; exact K.lo q hq
  ·rw [((pickE_cs h1 h2).2 hd).1] at hm
   obtain ⟨q,t,q1,q2,q3⟩:=K.num m hm
   exact ⟨q,t,q1,q2,by rw [ep,em,so q q1]; exact q3⟩
 | true =>
  obtain ⟨q,q1,q2,q3,q4,q5⟩:=s3 hd
  have hlo:=K.lo q q1
  have hV:aftV V c.o.k c.o.x (stepP x.k x.p x.M f).a.ok (stepP x.k x.p x.M f).a.x x.p=(ofM 4 x.p (stepP x.k x.p x.M f).m,true):=by
   have hs:=sumM_one (M:=x.M) (M':=(stepP x.k x.p x.M f).m) (f:=(gatesN x.p).length) (a:=q) (p:=x.p) q1 (fun q' hq' hne=>by rw [q4 q' hq' hne])
   rw [q3] at hs
   rw [K.v,of4,of4,h4,q2]
   unfold aftV
   rw [if_neg (by simp),if_neg (by omega),if_neg (by omega),if_neg (by omega),if_neg (by omega),if_neg (by omega),if_pos hfk]
   simp only
   congr 2
   omega
  have hnew:(q:Int) + x.p * (rdM x.M ((gatesN x.p).length + q:Nat)).n ∉ numsD x.cs (dnS x.cs x.cs.length):=by
   intro hm
   obtain ⟨q',t,r1,r2,r3⟩:=K.num _ hm
   obtain ⟨e1,e2⟩:=two_q q1 r1 r2
   subst e1
   omega
  have hm:mayO n0 x.cs (numsD x.cs (dnS x.cs x.cs.length)) { c with e:=(x.st:Int),a:=(stepP x.k x.p x.M f).a } = true:=by
   unfold mayO
   simp only [h4,hfk,q2]
   rw [if_neg (by omega),if_pos trivial,cntO_sum,← hc0]
   simp only [decide_eq_true_eq]
   exact ⟨hnew,hlo,q5⟩
  obtain ⟨L,dl⟩:=h.done hQ hf hd h1 h2 h3 hV hm
  refine ⟨_,L,.inr (.inr (.inr ⟨by rw [ek,hk],⟨rfl,by rw [ep,em]; exact nv',fun q' hq'=>?_,fun m hm=>?_⟩⟩))⟩
  ·rw [ep] at hq' ⊢
   rw [em]
   by_cases e:q'=q
   ·subst e
    rw [q3,Int.mul_add,Int.mul_one]
    omega
   ·rw [q4 q' hq' e]; exact K.lo q' hq'
  ·obtain ⟨d1,d2⟩:=(pickE_cs h1 h2).1 hd
   have hjl:=(List.getElem?_eq_some_iff.1 h2).1
   have hnum:numsD (pickE x n f).cs (dnS (pickE x n f).cs (pickE x n f).cs.length)=numsD x.cs (dnS x.cs x.cs.length) ++ [(q:Int) + x.p * (rdM x.M ((gatesN x.p).length + q:Nat)).n] := by
    rw [dl,numsD_snoc _ _ j { c with e:=(x.st:Int),a:=(stepP x.k x.p x.M f).a } (by rw [d1,List.getElem?_set_self hjl]),numsD_congr (l:=x.cs)]
    ·simp only [h4,hfk,if_true,q2]
    ·intro i hi
     have:=(dnS_mem x.cs x.cs.length i).1 hi
     have hij:i ≠ j:=by rintro rfl; simp [enD,h2,h3] at this
     rw [d1,List.getElem?_set_ne (Ne.symm hij)]
   rw [hnum] at hm
   rw [ep,em]
   rcases List.mem_append.1 hm with hm | hm
   ·obtain ⟨q',t,r1,r2,r3⟩:=K.num m hm
    refine ⟨q',t,r1,r2,?_⟩
    by_cases e:q'=q
    ·subst e; rw [q3]; omega
    ·rw [q4 q' r1 e]; exact r3
   ·have hm:=List.mem_singleton.1 hm
    exact ⟨q,_,q1,hm,by rw [q3]; omega⟩
theorem lin_pick {i n0 v0 x V} (hI:RI i x) (hi:i ≤ 5000) (hQ:RQ x) (h:LV n0 v0 x V) (K:KA n0 x V) {n:Nat} {f:FrR} (hf:x.fs[n]? = some (some f)):∃ V',LV n0 v0 (pickE x n f) V' ∧ KA n0 (pickE x n f) V':=by
 rcases K with ⟨hk,K⟩ | ⟨hk,K⟩ | ⟨hk,K⟩ | ⟨hk,K⟩
 ·exact lin_1 hI hQ h hk K hf
 ·exact lin_2 hI hQ h hk K hf
 ·exact lin_3 hI hi hQ h hk K hf
 ·exact lin_4 hI hi hQ h hk K hf
theorem sumF_upd {c c1:Nat → Int} {w:Nat} (h1:c1 w=c w + 1) (h2:∀ u,u ≠ w → c1 u=c u):∀ n,sumF c1 0 n=sumF c 0 n + (if w < n then 1 else 0)
 | 0=>by simp [sumF]
 | n + 1=>by
  rw [sumF,sumF,sumF_upd h1 h2 n]
  by_cases e:n=w
  ·subst e
   rw [Nat.zero_add,h1,if_neg (by omega),if_pos (by omega)]
   omega
  ·rw [h2 (0 + n) (by omega)]
   by_cases e2:w < n
   ·rw [if_pos e2,if_pos (by omega)]; omega
   ·rw [if_neg e2,if_neg (by omega)]; omega
theorem lin_beg {i n0 v0 x V} (hI:RI i x) (hQ:RQ x) (f6:x.fs.length=6) (h:LV n0 v0 x V) (K:KA n0 x V) (t:Int) (o:Rw) (ho:FI x.k i (begF o)):LV n0 v0 (begN x t o).1 V ∧ KA n0 (begN x t o).1 V:=by
 refine ⟨h.beg hQ hI.a6 f6 t o,?_⟩
 unfold begN
 split
 ·rename_i hb
  have hb2:0 ≤ t ∧ t < 6 ∧ x.fs[t.toNat]? = some none:=by
   unfold begO at hb
   split at hb
   ·omega
   rename_i h1
   split at hb
   ·omega
   split at hb
   ·omega
   split at hb
   ·omega
   rename_i h4
   obtain ⟨q,hq⟩:∃ q,x.fs[t.toNat]? = some q:=⟨x.fs[t.toNat],List.getElem?_eq_getElem (by omega)⟩
   rw [hq] at h4
   cases q with
   | none=>exact ⟨by omega,by omega,hq⟩
   | some q=>simp at h4
  have hl:=hI.leg
  have hp:1 ≤ x.p ∧ x.p ≤ 16:=by have:=legal_p hl; omega
  have a6:=hI.a6
  have w0:∀ a:Int,wAdd a ⟨t.toNat,o,x.st,-1,noA⟩=0:=fun a=>by unfold wAdd; rw [if_neg (by simp)]
  have pz:(begF o).pc=0:=rfl
  have fsa:∀ {P:FrR → Prop},(∀ (t:Nat) f,x.fs[t]? = some (some f) → P f) → P (begF o) → ∀ (u:Nat) f,(x.fs.set t.toNat (some (begF o)))[u]? = some (some f) → P f:=fun h1 h2=>setN h1 (fun f hf=>by injection hf with hf; subst hf; exact h2)
  rcases K with ⟨hk,K⟩ | ⟨hk,K⟩ | ⟨hk,K⟩ | ⟨hk,K⟩
  ·exact .inl ⟨hk,⟨K.v,fsa (P:=fun f=>RF x.p x.M f) K.rf (RF.zero pz)⟩⟩
  ·exact .inr (.inl ⟨hk,⟨K.k,K.n,K.kv,fsa (P:=fun f=>QF x.p x.M f) K.qf (QF.zero pz),K.ls⟩⟩)
  ·refine .inr (.inr (.inl ⟨hk,⟨K.v,fsa (P:=fun f=>RF x.p x.M f) K.rf (RF.zero pz),?_,fun u g hg hg6=>?_⟩⟩))
   ·simp only [List.map_append,List.map_cons,List.map_nil,List.sum_append,List.sum_cons,List.sum_nil,w0]
    have:=K.add; omega
   ·simp only at hg ⊢
    rw [List.getElem?_set] at hg
    split at hg
    ·rename_i htu
     split at hg
     ·injection hg with hg
      injection hg with hg
      subst hg
      have eat:(begF o).at_=0:=rfl
      have eto:(begF o).tot=0:=rfl
      rw [eat,eto]
      refine ⟨Int.le_refl _,by omega,by simp [sumM],fun j d ga gd=>?_⟩
      rw [← htu,List.getElem?_set_self (by omega)] at ga
      injection ga with ga
      have hj:j=x.cs.length:=by omega
      subst hj
      simp at gd
      subst gd
      simp only [List.map_append,List.map_cons,List.map_nil,List.sum_append,List.sum_cons,List.sum_nil,w0]
      have:=K.add
      simp only [Int.toNat_zero,Nat.sub_zero]
      omega
     ·cases hg
    ·rename_i htu
     obtain ⟨a1,a2,a3,a4⟩:=K.sum u g hg hg6
     refine ⟨a1,a2,a3,fun j d ga gd=>?_⟩
     rw [List.getElem?_set_ne htu] at ga
     obtain ⟨d1,k1,_,k3⟩:=hQ.u u j ga
     rw [List.getElem?_append_left (List.getElem?_eq_some_iff.1 k1).1] at gd
     simp only [List.map_append,List.map_cons,List.map_nil,List.sum_append,List.sum_cons,List.sum_nil,w0]
     have:=a4 j d ga gd
     omega
  ·obtain ⟨c0,nv,hc0⟩:=K.nv
   have hw:widthN x.p:=legal_width (by rw [← hk]; exact hl)
   have hin:=into_lt o.a hp
   have hok:o.k=7:=by have:=ho.kd; have e:(begF o).o=o:=rfl; rw [e] at this; omega
   obtain ⟨c1,hc1⟩:∃ c1:Nat → Int,c1=fun u=>if u=(into o.a x.p).toNat then c0 u + 1 else c0 u:=⟨_,rfl⟩
   have e1:c1 (into o.a x.p).toNat=c0 (into o.a x.p).toNat + 1:=by rw [hc1]; simp
   have e2:∀ u,u ≠ (into o.a x.p).toNat → c1 u=c0 u:=fun u hu=>by rw [hc1]; simp [hu]
   have nv1:=nv.begin hw hb2.2.2 e1 e2
   refine .inr (.inr (.inr ⟨hk,⟨K.v,⟨c1,nv1,?_⟩,K.lo,?_⟩⟩))
   ·rw [sumF_upd e1 e2,if_pos (show (into o.a x.p).toNat < x.p by omega),hc0]
    have w7:wCnt x.st ⟨t.toNat,o,x.st,-1,noA⟩=1:=by unfold wCnt; rw [if_pos ⟨hok,Int.le_refl _⟩]
    simp only [List.map_append,List.map_cons,List.map_nil,List.sum_append,List.sum_cons,List.sum_nil,w7]
    omega
   ·simp only
    have e0:enD (x.cs ++ [⟨t.toNat,o,x.st,-1,noA⟩]) x.cs.length=-1:=by simp [enD]
    have gi:∀ i,i < x.cs.length → (x.cs ++ [⟨t.toNat,o,x.st,-1,noA⟩])[i]? = x.cs[i]? := fun i hi=>List.getElem?_append_left hi
    rw [List.length_append,List.length_singleton,dnS,if_neg (by omega),dnS_congr (l:=x.cs) _ (fun i hi=>by simp [enD,gi i hi]),numsD_congr (l:=x.cs) _ (fun i hi=>gi i ((dnS_mem x.cs x.cs.length i).1 hi).1)]
    exact K.num
 ·exact K
theorem lin_pickR {i n0 v0 x V} (hI:RI i x) (hi:i ≤ 5000) (hQ:RQ x) (h:LV n0 v0 x V) (K:KA n0 x V) (pick:Int):∃ V',LV n0 v0 (pickR x pick) V' ∧ KA n0 (pickR x pick) V':=by
 unfold pickR
 split
 ·exact ⟨V,h,K⟩
 ·split
  ·rename_i f hf
   exact lin_pick hI hi hQ h K hf
  ·exact ⟨V,h,K⟩
theorem KA.perm {n0 x V} (K:KA n0 x V):V.k=(ofM x.k x.p x.M).k ∧ V.n=(ofM x.k x.p x.M).n ∧ V.is.Perm (ofM x.k x.p x.M).is:=by
 rcases K with ⟨hk,K⟩ | ⟨hk,K⟩ | ⟨hk,K⟩ | ⟨hk,K⟩
 ·rw [hk,K.v]; exact ⟨rfl,rfl,List.Perm.refl _⟩
 ·obtain ⟨Ls,l1,l2⟩:=K.ls
  rw [hk]
  have e:ofM 2 x.p x.M=⟨2,lineM x.M,0⟩:=by unfold ofM; rw [if_neg (by omega),if_pos rfl]
  rw [e]
  exact ⟨K.k,K.n,by rw [l2]; exact l1.line K.kv⟩
 ·rw [hk,K.v]; exact ⟨rfl,rfl,List.Perm.refl _⟩
 ·rw [hk,K.v]; exact ⟨rfl,rfl,List.Perm.refl _⟩
end Go.AM

namespace Go.AM
def LP (k:Int) (x:RnS):Prop:=∃ V,LV 0 ⟨k,[],0⟩ x V ∧ KA 0 x V
theorem lp0 {k:Int} {p:Nat} (hl:legal k p=0):LP k (rn0 k p):=by
 have hk:=legal_k hl
 have z:∀ i:Int,rdM ⟨[],0⟩ i=zC:=by intro i; simp [rdM]
 have hs:∀ a n,sumM ⟨[],0⟩ a n=0:=by
  intro a n
  induction n with
  | zero=>rfl
  | succ n ih=>rw [sumM,ih,z]; rfl
 have hb:∀ n,bagM ⟨[],0⟩ n=[] := by
  intro n
  induction n with
  | zero=>rfl
  | succ n ih=>rw [bagM,ih,z]; rfl
 refine ⟨⟨k,[],0⟩,⟨rfl,fun t f h=>absurd h (nf6 t f)⟩,?_⟩
 have:k=1 ∨ k=2 ∨ k=3 ∨ k=4:=by omega
 rcases this with rfl | rfl | rfl | rfl
 ·exact .inl ⟨rfl,⟨by rw [of1]; show _=(⟨1,sortI ((bagM ⟨[],0⟩ p).map It.canon),0⟩:Vl); rw [hb]; rfl,fun t f h=>absurd h (nf6 t f)⟩⟩
 ·refine .inr (.inl ⟨rfl,⟨rfl,rfl,⟨by simp [rn0,z,zC],by simp [rn0,z],fun i _=>by simp [rn0,z,zC],fun i _=>by simp [rn0,z,zC],fun i h1 h2=>?_,fun i h1 h2=>?_,fun i _ h=>by simp [rn0,z,zC] at h,fun i=>by simp [rn0,z,zC]⟩,fun t f h=>absurd h (nf6 t f),⟨[[]],⟨by simp [rn0,z],fun j l hj=>?_⟩,rfl⟩⟩⟩)
  ·simp [rn0,z,zC,s0] at h2; omega
  ·simp [rn0,z,zC,s0] at h2; omega
  ·cases j with
   | zero =>
    simp at hj
    subst hj
    rw [fillI_nil]
    intro i _
    simp [rn0,z,zC]
   | succ j=>simp at hj
 ·exact .inr (.inr (.inl ⟨rfl,⟨by rw [of3]; show _=(⟨3,[],sumM ⟨[],0⟩ 0 p⟩:Vl); rw [hs],fun t f h=>absurd h (nf6 t f),by simp [rn0,hs],fun t f h=>absurd h (nf6 t f)⟩⟩))
 ·have hc:∀ (r:List (Nat × Nat)) (i:Nat),ConsG p (gatesN p).length (cellF ⟨[],0⟩) (outF p ⟨[],0⟩) (pendF p [none,none,none,none,none,none]) r i (fun _=>0):=by
   intro r
   induction r with
   | nil=>intro i w _; simp [outF,pendF,phi,z,zC]
   | cons g r ih =>
    intro i
    refine ⟨by simp [cellF,pendF,phi,z,zC],?_⟩
    have e:gateC g (cellF ⟨[],0⟩ i) (fun _=>0)=fun _=>0:=by
     funext w
     unfold gateC cellF
     rw [z]
     simp [zC]
    rw [e]; exact ih (i + 1)
  have h0:∀ n,sumF (fun _=>0) 0 n=0:=by
   intro n
   induction n with
   | zero=>rfl
   | succ n ih=>rw [sumF,ih]; rfl
  refine .inr (.inr (.inr ⟨rfl,⟨by rw [of4]; show _=(⟨4,[],sumM ⟨[],0⟩ (gatesN p).length p⟩:Vl); rw [hs],⟨fun _=>0,⟨hc _ 0,fun t f h=>absurd h (nf6 t f)⟩,by rw [h0]; simp [rn0]⟩,fun q hq=>?_,fun n hn=>by simp [rn0,numsD,dnS] at hn⟩⟩))
  simp [rn0,z,zC]
theorem lp_beg {k:Int} (i:Nat) (y:RnS) (t:Int) (o:Rw) (hI:RI i y) (hQ:RQ y) (f6:y.fs.length=6) (hk:1 ≤ k ∧ k ≤ 4) (hyk:y.k=k) (h:LP k y) (ho:o.ok):LP k (begN y t (ownO k o)).1:=by
 obtain ⟨V,L,K⟩:=h
 obtain ⟨L',K'⟩:=lin_beg hI hQ f6 L K t (ownO k o) (by rw [hyk]; exact fi_begin hk _ ho)
 exact ⟨V,L',K'⟩
theorem lp_pick {k:Int} (i:Nat) (y:RnS) (pick:Int) (hI:RI i y) (hi:i ≤ 1000) (hQ:RQ y) (h:LP k y):LP k (pickR y pick):=by
 obtain ⟨V,L,K⟩:=h
 obtain ⟨V',L',K'⟩:=lin_pickR hI (by omega) hQ L K pick
 exact ⟨V',L',K'⟩
theorem ofM_ok {M:Mem} (hM:M.good) (k:Int) (p:Nat) (hp:p ≤ 16):(∀ y ∈ (ofM k p M).is,y.ok) ∧ (ofM k p M).is.length ≤ 1000000:=by
 unfold ofM
 split
 ·refine ⟨fun y hy=>?_,?_⟩
  ·simp only at hy
   have:=(sortI_perm _).mem_iff.1 hy
   obtain ⟨z,hz,rfl⟩:=List.mem_map.1 this
   exact canon_okI (bagM_ok hM p z hz)
  ·have:=bagM_len hM p
   simp only [sortI_len,List.length_map]; omega
 ·split
  ·have hp:=List.mergeSort_perm (fullM M) (fun a b=>decide (a.v ≤ b.v))
   have hmem:∀ c ∈ (fullM M).mergeSort (fun a b=>decide (a.v ≤ b.v)),c ∈ M.cs:=fun c hc=>List.mem_of_mem_drop (List.mem_filter.1 (hp.mem_iff.1 hc)).1
   refine ⟨fun y hy=>?_,?_⟩
   ·simp only [lineM,List.mem_flatMap] at hy
    obtain ⟨c,hc,hyc⟩:=hy
    exact (hM.it c (hmem c hc)).2 y hyc
   ·have h1:=flat_len62 _ (fun c hc=>(hM.it c (hmem c hc)).1)
    have h2:=hp.length_eq
    have h3:(fullM M).length ≤ 1000:=by
     have h1:=List.length_filter_le (fun c:Cl=>c.n == 1) (M.cs.drop 2)
     have h2:(M.cs.drop 2).length ≤ 1000:=by have:=hM.len; simp; omega
     unfold fullM; omega
    simp only [lineM]
    omega
  ·split <;> simp
theorem of_empty {k:Int} (hk:1 ≤ k ∧ k ≤ 4) (p:Nat):ofM k p ⟨[],0⟩=⟨k,[],0⟩:=by
 have z:∀ i:Int,rdM ⟨[],0⟩ i=zC:=by intro i; simp [rdM]
 have hs:∀ a n,sumM ⟨[],0⟩ a n=0:=by
  intro a n
  induction n with
  | zero=>rfl
  | succ n ih=>rw [sumM,ih,z]; rfl
 have hb:∀ n,bagM ⟨[],0⟩ n=[] := by
  intro n
  induction n with
  | zero=>rfl
  | succ n ih=>rw [bagM,ih,z]; rfl
 have:k=1 ∨ k=2 ∨ k=3 ∨ k=4:=by omega
 rcases this with rfl | rfl | rfl | rfl
 ·rw [of1,hb]; rfl
 ·unfold ofM
  rw [if_neg (by omega),if_pos rfl]
  simp [lineM,fullM]
 ·rw [of3,hs]
 ·rw [of4,hs]
end Go.AM

namespace Go.AM
def chkM (P:Program) (t:TypeId) (nm:String) (f:FuncId):Bool:=match P.info? t with
 | some i=>match i.methods.find? (·.name == nm) with
  | some m=>m.path.toList.isEmpty && (match m.func with
   | some (g,true)=>(match P.underlying t with | some (.pointer _)=>g == f && decide (f < Q0) | _=>false)
   | some (g,false)=>(match P.underlying t with
    | some (.pointer e)=>decide (Q0 ≤ f) && g == f - Q0 && aggT P e == some false && szT P e == some 1
    | some _=>g == f && decide (f < Q0)
    | none=>false)
   | none=>false)
  | none=>false
 | none=>false
theorem wrap_ok (ts:Array TypeId) (t:TypeId) (a:Addr) (s1 s2:String):Builtin.ssaWrapNilChk_ ts t #[.pointer (some a),strVal s1,strVal s2] = pure (.pointer (some a)):=rfl
theorem meth_one {P : Program} {t nm f} (h : chkM P t nm f = true) :
    (f < Q0 → ∀ v w,(method (P.types.size + Made.depth) t v nm).run P w=.ok (f,v) w) ∧
    (Q0 ≤ f → ∀ b off u w,World.cell? w ⟨b,off,none⟩=some u → (method (P.types.size + Made.depth) t (.pointer (some ⟨b,off,none⟩)) nm).run P w=.ok (f - Q0,u) w):=by
 unfold chkM at h
 split at h
 ·rename_i i hi
  split at h
  ·rename_i m hm
   simp only [Bool.and_eq_true] at h
   obtain ⟨hp,h⟩:=h
   have hp':m.path.toList=[] := List.isEmpty_iff.1 hp
   obtain ⟨n,hn⟩:∃ n,P.types.size + Made.depth=n + 1:=⟨P.types.size + 99,rfl⟩
   rw [hn]
   split at h
   ·rename_i g hg
    split at h
    ·rename_i e hu
     simp only [Bool.and_eq_true,beq_iff_eq,decide_eq_true_eq] at h
     obtain ⟨rfl,hf⟩:=h
     refine ⟨fun _ v w=>?_,fun hq=>absurd hf (Nat.not_lt.2 hq)⟩
     simp [method,typeInfo,hi,hm,hp',follow,hg,receiverAt,underlying,hu,Place.get]
    ·cases h
   ·rename_i g hg
    split at h
    ·rename_i e hu
     simp only [Bool.and_eq_true,beq_iff_eq,decide_eq_true_eq] at h
     obtain ⟨⟨⟨hf,hgf⟩,ha⟩,hs⟩:=h
     refine ⟨fun hq=>absurd hq (Nat.not_lt.2 hf),fun _ b off u w hc=>?_⟩
     have hrun:=run_load' (P:=P) (w:=w) (t:=e) (b:=b) (off:=off) (us:=[u]) ha hs (.inr rfl) rfl (fun j v hj=>by
      cases j with
      | zero=>simp at hj; subst hj; simpa using hc
      | succ j=>simp at hj)
     simp only [Instr.loadAt,Instr.sureAddr] at hrun
     have hpe:m.path=#[] := by simpa using hp
     simp at hrun
     simp [method,typeInfo,hi,hm,hp',hpe,follow,hg,receiverAt,underlying,hu,Place.get,wrap_ok,asAddr,hrun,hgf]
    ·rename_i d hne hu
     simp only [Bool.and_eq_true,beq_iff_eq,decide_eq_true_eq] at h
     obtain ⟨rfl,hf⟩:=h
     refine ⟨fun _ v w=>?_,fun hq=>absurd hf (Nat.not_lt.2 hq)⟩
     simp [method,typeInfo,hi,hm,hp',follow,hg,receiverAt,underlying,hu,Place.get]
    ·cases h
   ·cases h
  ·cases h
 ·cases h
theorem nil_one {P:Program} {t nm f} (h:chkM P t nm f=true):NilOK P t nm f:=by
 intro hf v w
 unfold chkM at h
 split at h
 ·rename_i i hi
  split at h
  ·rename_i m hm
   simp only [Bool.and_eq_true] at h
   obtain ⟨hp,h⟩:=h
   have hp':m.path.toList=[] := List.isEmpty_iff.1 hp
   obtain ⟨n,hn⟩:∃ n,P.types.size + Made.depth=n + 1:=⟨P.types.size + 99,rfl⟩
   rw [hn]
   split at h
   ·rename_i g hg
    simp [nilAhead,typeInfo,hi,hm,hp',followBlind,hg]
   ·rename_i g hg
    split at h
    ·rename_i e hu
     simp only [Bool.and_eq_true,beq_iff_eq,decide_eq_true_eq] at h
     exact absurd hf (Nat.not_lt.2 h.1.1.1)
    ·rename_i d hne hu
     simp [nilAhead,typeInfo,hi,hm,hp',followBlind,hg,underlying,hu]
     cases d <;> first | (exfalso; exact hne _ rfl) | rfl
    ·cases h
   ·cases h
  ·cases h
 ·cases h
theorem meth_all {P : Program} {T : List (TypeId × String × FuncId)} (h : T.all (fun p => chkM P p.1 p.2.1 p.2.2) = true) :
    MethOK P (fun t nm=>(T.find? fun p=>p.1 == t && p.2.1 == nm).map (·.2.2)):=by
 intro t nm f hf
 simp only [Option.map_eq_some_iff] at hf
 obtain ⟨⟨t',nm',f'⟩,h1,rfl⟩:=hf
 have h2:=List.find?_some h1
 simp only [Bool.and_eq_true,beq_iff_eq] at h2
 obtain ⟨rfl,rfl⟩:=h2
 have h3:=List.all_eq_true.1 h _ (List.mem_of_find?_eq_some h1)
 exact ⟨(meth_one h3).1,(meth_one h3).2,nil_one h3⟩
end Go.AM

namespace Go.AM
open Go.Proofs
set_option maxRecDepth 100000
theorem fol:Tryz.prog.follows .mixedOrders=true:=by kernel_rfl
theorem tab_ok:tab.all (fun p=>chkFn Tryz.prog EE.fbits EE.frb (rid p.1) p.2)=true:=by kernel_rfl
theorem look_in {α : Type} {k:Nat} {x:α}:∀ {l:List (Nat × α)},look k l=some x → (k,x) ∈ l
 | (j,y) :: r,h=>by
  simp only [look] at h
  split at h
  ·rename_i e; cases h; subst e; simp
  ·exact List.mem_cons_of_mem _ (look_in h)
theorem libF:LibF Tryz.prog EE:=toldF fun f ds d h=>by
 have h:libL f ds=some d:=h
 unfold libL at h
 split at h
 ·rename_i e; exact .inl ⟨e,h⟩
 split at h
 ·rename_i e; exact .inr ⟨e,h⟩
 ·cases h
theorem env_ok:EnvOK Tryz.prog EE:=⟨fun f af h=>List.all_eq_true.1 tab_ok (f,af) (look_in h),libF,srtF⟩
theorem meth_ok:methL.all (fun p=>chkM Tryz.prog p.1 p.2.1 p.2.2)=true:=by kernel_rfl
theorem lib_ok:Lib Tryz.prog EE.fbits EE.frb EE.meth where
 bits:=fun f h n w=>by cases h; rfl
 frb:=fun f h n w=>by cases h; rfl
 meth:=meth_all meth_ok
end Go.AM

namespace Go.AM
open Go.Proofs
set_option maxRecDepth 100000 in
theorem c_law15_awake:LL.call n_c_law15_awake [] [] 0=some (.b true,[],0):=lim_call.2 ⟨100,by kernel_rfl⟩
set_option maxRecDepth 20000 in
set_option maxHeartbeats 8000000 in
theorem laxHolds (kind param : Int) (acts : List Act) (hact : ∀ a ∈ acts, a.o.ok) :
    LL.call n_c_law15_LaxHolds [.i .i64 kind,.i .i64 param,.l .z 8 (acts.map eAct)] [] 0=some (.b true,[],0):=by
 have hA:=c_law15_awake
 have K:=c_law12_Kind kind param []
 have hleg:=legal_kind kind param
 have hkr:=kindOf_le kind
 have hpr:=paramOf_le kind param
 obtain ⟨k,hk⟩:∃ k,k=kindOf kind:=⟨_,rfl⟩
 obtain ⟨p,hp⟩:∃ p:Nat,paramOf kind param=p:=⟨(paramOf kind param).toNat,by omega⟩
 rw [← hk] at K hleg hkr
 rw [hp] at K hleg
 have NW:=c_engine_New k p []
 rw [if_pos hleg] at NW
 obtain ⟨⟨d0,sg1,lo⟩,hP,hd,⟨x,e,T,I,Q,hxk,hxp,hLP⟩,hlo⟩:=c_law15_Play (rc0 k p) (ri0 hleg) (rq0 k p) (P:=LP k) (lp0 hleg) (fun i y t o h1 h2 h3 h4 h5 h6 h7=>lp_beg i y t o h1 h3 h4 hkr h5 h6 h7) (fun i y pick h1 h2 h3 h4=>lp_pick i y pick h1 h2 h3 h4) acts hact
 simp only at hd T hlo
 subst hd
 have hO:=c_history_Of 1 [eMem ⟨[],0⟩,eEng (newE k p 0)]
 obtain ⟨s2,hs2⟩:∃ s2,s2=[eMem ⟨[],0⟩,eEng (newE k p 0)] := ⟨_,rfl⟩
 obtain ⟨s3,hs3⟩:∃ s3,s3=[eMem ⟨[],0⟩,eEng (newE k p 0),eRec 1 [] [0,0,0,0,0,0]] := ⟨_,rfl⟩
 have hs23:s2 ++ [eRec 1 [] [0,0,0,0,0,0]] = s3:=by rw [hs2,hs3]; rfl
 have hl2:s2.length=2:=by rw [hs2]; rfl
 have hl3:s3.length=3:=by rw [hs3]; rfl
 simp only [List.length_nil,List.nil_append,Nat.zero_add,Int.toNat_natCast] at NW
 rw [← hs2] at NW hO
 rw [hs23,hl2] at hO
 rw [← hs3,hl3] at hP
 have hkk:(rn0 k p).k=k:=rfl
 rw [hkk] at hP hxk
 have hcs:x.cs.length ≤ 240:=I.cs
 obtain ⟨KC,hKC,hCa⟩:=c_history_CallsK 1 2 x.cs x.ats sg1 T.hrc (by omega)
 obtain ⟨V,L,KK⟩:=hLP
 have V0:=rep_value (sg:=s2) (r:=1) (e:=newE k p 0) (M:=⟨[],0⟩) (fs:=[none,none,none,none,none,none]) (by
  rw [hs2]
  exact ⟨rfl,rfl,rfl,rfl,fun i q h=>absurd h (nn6 i q),n06,by simp [newE],fun i q h=>absurd h (nn6 i q),fun i j q h=>absurd h (nn6 i q)⟩) good_nil hleg
 have hek:(newE k p 0).k=k:=rfl
 have hep:(newE k p 0).p=p:=rfl
 rw [hek,hep,of_empty hkr] at V0
 have V1:=rep_value T.R I.mi.good (by rw [T.ek,T.ep]; exact I.leg)
 rw [T.ek,T.ep] at V1
 have hpx:x.p=p:=hxp
 obtain ⟨pk,pn,pp⟩:=KK.perm
 rw [hxk,hpx] at pk pn pp V1
 have hpr2:p ≤ 16:=by omega
 obtain ⟨ok1,len1⟩:=ofM_ok I.mi.good k p hpr2
 have ok2:∀ y ∈ V.is,y.ok:=fun y hy=>ok1 y (pp.mem_iff.1 hy)
 have len2:V.is.length ≤ 1000000:=by rw [pp.length_eq]; exact len1
 have hkof:(ofM k p x.M).k=k:=by unfold ofM; split; (rename_i h; exact h.symm); split; (rename_i h; exact h.symm); split; (rename_i h; exact h.symm); simp only; omega
 have hVk:V.k=k:=pk.trans hkof
 generalize ofM k p x.M=w at *
 have So1:=c_Sorted V.is (by omega) ok2 sg1
 have So2:=c_Sorted w.is (by omega) ok1 sg1
 have hse:=sort_eq ok2 (pp.map It.canon)
 rw [hse] at So1
 have okS:∀ y ∈ sortI (w.is.map It.canon),y.ok:=by
  intro y hy
  obtain ⟨z,hz,rfl⟩:=List.mem_map.1 ((sortI_perm _).mem_iff.1 hy)
  exact canonOk (ok1 z hz)
 have lenS:(sortI (w.is.map It.canon)).length ≤ 1000000:=by rw [sortI_len,List.length_map]; exact len1
 generalize sortI (w.is.map It.canon)=ws at *
 have Sm:=c_value_Same ⟨k,ws,w.n⟩ okS (by simp only; omega) sg1
 obtain ⟨W2,B2⟩:=Q.clw I (by omega)
 have HO:=Q.op
 have hrun:=L.run
 rw [hxk] at HO
 rw [hpx] at hrun
 generalize x.cs=l2 at *
 have hds:=fun j=>(dnS_mem l2 l2.length j).1
 have hdl:=dnS_len l2 l2.length
 have hCk:=c_lax_CheckG k p ⟨k,[],0⟩ l2 (fun sg=>c_history_CheckL l2 W2 0 (fun h=>absurd h B2) (fun _=>rfl) sg) (dnS l2 l2.length) (fun sg=>c_history_DoneS l2 (by omega) (fun d hd=>(W2.b d hd).2.2) sg) (fun j hj=>(hds j hj).1) (by omega) HO hleg
  ⟨rfl,by simp,by simp,by simp,by simp⟩ (by omega) sg1 _ rfl
 rw [hrun] at hCk
 have hzz:∀ l:List Act,D.zzs (l.map eAct)=l.map eAct:=fun l=>zzs_flat eAct l
 refine wp_call e_c_law15_LaxHolds rfl ?_
 simp at K
 have hzC:D.fzs (l2.map eCll)=l2.map eCll:=fzs_flat eCll _
 have hkb:(k != k)=false:=by simp
 have hrc:=T.hrc
 simp [eVl] at V0 V1 Sm
 simp [eVl,hVk,pn] at hCk
 rw [hl2] at V0
 simp [eRec] at hrc
 rcases hKC with rfl | rfl
 all_goals
  simp [F_c_law15_LaxHolds,hA,K,NW,V0,hO,hP,hCa,hzz,hl2,hl3,hzC,hCk,hrc,V1,So1,So2,hkof,Sm]
def args_LaxHolds:List (Bool × Ty):=[(false,.i .i64),(false,.i .i64),(false,.l 8 true tAct)]
theorem args_LaxHolds_ok:tyA Tryz.prog [3,3,108] = some args_LaxHolds:=by kernel_rfl
theorem law_LaxHolds (ds:List D) (h:FitA args_LaxHolds ds):∃ sg lo,(lim EE).call n_c_law15_LaxHolds ds [] 0=some (.b true,sg,lo):=by
 cases h with
 | c h1 k =>
 obtain ⟨n1,rfl,w1⟩:=fits_i h1
 cases k with
 | c h2 k =>
 obtain ⟨n2,rfl,w2⟩:=fits_i h2
 cases k with
 | c h3 k =>
 cases h3 with
 | l sz agg e xs hl hx ha =>
 obtain ⟨is,rfl,hi⟩:=fits_acts xs hx (by simpa using ha)
 cases k
 exact ⟨[],0,laxHolds n1 n2 is hi⟩
end Go.AM
